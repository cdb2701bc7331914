/- '[]byte(s)' of a text within a region that draws, alone or with bytes appended behind it. Conditions: each theorem states its own. -/
import Derived.Test.YtenmanionddamaaXConv
namespace Go.Proofs.Ytenmanionddamaa
open Go.RowKit Go.Proofs.YtenmanionddamaaW.PrintWords Go.Proofs.YtenmanionddamaaW.PrintLast Go.Proofs.YtenmanionddamaaW.PrintMore
set_option linter.unusedVariables false
set_option linter.unusedSimpArgs false
/-- what an append of bytes to a converted text leaves -/
def StrApp (s : ByteArray) (A2 : Option Addr) (n2 c2 : Nat) (w : World) (R : Ending → World → Prop) : Prop := ∃ v w', (∀ ty, (Builtin.append_ #[34, 34] ty #[.slice (some ⟨w.heap.size, 0, none⟩) s.size (grownCap w s.size 0 5), .slice A2 n2 c2]).run Try.prog (Lib.bytesWorld w 5 s) = .ok v w') ∧ R (.returned v) w'
theorem StrApp.mono {s : ByteArray} {A2 : Option Addr} {n2 c2 : Nat} {w : World} {R R' : Ending → World → Prop} (h : StrApp s A2 n2 c2 w R) (hm : ∀ e w', R e w' → R' e w') : StrApp s A2 n2 c2 w R' := by
  obtain ⟨v, w', h1, h2⟩ := h
  exact ⟨v, w', h1, hm _ _ h2⟩
section
variable {Q : Exit → Act → World → Prop} {ops : Array Oper} {oi : Oper} {N : Option Tmp} {a : Act} {w : World} {K : Act → World → Prop}
theorem convK_ (hw : Region.wanted oi (yielded ops a.tmps) = true) (hN : oi.dst = N) (s : ByteArray) {x : Operand} (hop : oi.op = .convert 9 34 x) (hx : a.eval x = .string s)
    (h : K (a.put N (.slice (some ⟨w.heap.size, 0, none⟩) s.size (grownCap w s.size 0 5))) (Lib.bytesWorld w 5 s)) : if Region.wanted oi (yielded ops a.tmps) = true then Oper.wp Try.prog oi a w K Q else K (a.put N undef) w := by
  have hrun : (execOp a.eval oi).run Try.prog w = .ok (.value (.slice (some ⟨w.heap.size, 0, none⟩) s.size (grownCap w s.size 0 5))) (Lib.bytesWorld w 5 s) := by
    unfold execOp
    simp only [hop, hx]
    rw [Sem.run_bind, Lib.run_convert_string_bytes w 9 34 5 s Try.underlying9 Try.underlying34 Try.underlying5]
    rfl
  rw [if_pos hw]
  subst hN
  unfold Oper.wp
  rw [hrun]
  exact h
theorem convS_ (hw : Region.wanted oi (yielded ops a.tmps) = true) (hN : oi.dst = N) (s : ByteArray) {x : Operand} (hop : oi.op = .convert 9 34 x) (hx : a.eval x = .string s)
    (h : ConvCalls s w fun e w' => ∃ v, e = .returned v ∧ K (a.put N v) w') : if Region.wanted oi (yielded ops a.tmps) = true then Oper.wp Try.prog oi a w K Q else K (a.put N undef) w := by
  obtain ⟨v, hv, h⟩ := h
  injection hv with hv
  subst hv
  exact convK_ hw hN s hop hx h
theorem appK_ (hw : Region.wanted oi (yielded ops a.tmps) = true) (hN : oi.dst = N) (s : ByteArray) {x y : Operand} {A2 : Option Addr} {n2 c2 : Nat} (hop : oi.op = .call { callee := .builtin .append, args := #[x, y], argTypes := #[34, 34] }) (hx : a.eval x = .slice (some ⟨w.heap.size, 0, none⟩) s.size (grownCap w s.size 0 5)) (hy : a.eval y = .slice A2 n2 c2)
    (h : StrApp s A2 n2 c2 w fun e w' => ∃ v, e = .returned v ∧ K (a.put N v) w') : if Region.wanted oi (yielded ops a.tmps) = true then Oper.wp Try.prog oi a (Lib.bytesWorld w 5 s) K Q else K (a.put N undef) (Lib.bytesWorld w 5 s) := by
  obtain ⟨v, w', hrun, v', hv, h⟩ := h
  injection hv with hv
  subst hv
  rw [if_pos hw]
  subst hN
  unfold Oper.wp
  simp [execOp, hop, resolve, invoke, builtin, hx, hy, hrun, Result.andThen]
  exact h
end
def strapp.f (s : ByteArray) (l : List Int) : Option (List Int) := if s.size + l.length ≤ 140737488355328 then some (bytesOf s ++ l) else none
theorem strapp.calls (s : ByteArray) (A1 : Option Addr) (c1 : Nat) (l1 r : List Int) (w : World) (hr1 : Kd.C (Kd.int .u8) w A1 l1.length l1) (hc1 : l1.length ≤ c1) (h : strapp.f s l1 = some r) :
    StrApp s A1 l1.length c1 w fun e w' => ∃ v0_ : Value, e = .returned v0_ ∧ Kd.V (Kd.int .u8) 5 w' w.heap.size (fun k_ => w.heap.size ≤ k_) v0_ r ∧ Below w.heap.size w w' := by
  unfold strapp.f at h
  split at h
  case isFalse => cases h
  case isTrue hs =>
    cases h
    obtain ⟨i0, hi, hz0, hz1, hz2⟩ := info_parts info5_
    have hbl : (bytesOf s).length = s.size := by simp [bytesOf]
    have hcap := grownCap_ge w s.size 0 5
    generalize hcp : grownCap w s.size 0 5 = cp at hcap
    have hcs : (Lib.bytesCells w 5 s).size = cp := by simp only [Lib.bytesCells, Array.size_append, Array.size_map, Array.size_replicate, hcp]; show s.size + (cp - s.size) = cp; omega
    have hpre : ∀ j, j < s.size → (Lib.bytesCells w 5 s)[j]? = some (.int .u8 ((bytesOf s).getD j 0)) := fun j hj => by
      have hj' : j < s.data.size := hj
      rw [Lib.bytesCells, Array.getElem?_append_left (by simpa using hj'), Array.getElem?_map]
      exact bytesOf_at s j hj
    unfold StrApp
    rw [hcp]
    have hb1 : Below w.heap.size w (Lib.bytesWorld w 5 s) := bytes_below (Below.refl _ _) (Nat.le_refl _) 5 s
    have hn1 := Lib.bytesWorld_at_new w 5 s
    have hsz1 := Lib.bytesWorld_size w 5 s
    generalize Lib.bytesWorld w 5 s = w1 at hb1 hn1 hsz1 ⊢
    rw [hcs] at hn1
    generalize hCs : Lib.bytesCells w 5 s = Cs at hcs hpre hn1
    have hr2 : Kd.C (Kd.int .u8) w1 A1 l1.length l1 := Kd.C_below hr1 hb1
    cases l1 with
    | nil =>
      refine ⟨.slice (some ⟨w.heap.size, 0, none⟩) s.size cp, w1, fun ty => ?_, _, rfl, ?_, hb1⟩
      · cases A1 with
        | none => simp [Builtin.append_, run_underlying Try.underlying34, sizeOf, typeInfo, hi, Builtin.lenOf, run_firstCells_none, storeCells, hcap]
        | some a1 =>
          have hf := run_firstCells_some (P := Try.prog) w1 i0.size 0 a1 0 c1 [] (by simp) (by simp)
          simp [Builtin.append_, run_underlying Try.underlying34, sizeOf, typeInfo, hi, Builtin.lenOf, hf, storeCells, hcap]
      · rw [List.append_nil, ← hbl]
        refine Kd.V_mk (by rw [hbl]; exact hcap) fun W' hW => ?_
        rw [hbl]
        have hn := hW w.heap.size (Nat.le_refl _) (by omega)
        rw [hn1] at hn
        have := bytes_C (s := s) hn (by simp only [List.length_nil] at hs; omega) hpre
        rw [hbl] at this
        exact this
    | cons x l1 =>
      have hl1 : (x :: l1).length = l1.length + 1 := List.length_cons
      obtain ⟨_, _, hcc0⟩ := Kd.reads_of_C (enc := Value.int .u8) (d := (0 : Int)) (h1 := fun _ => rfl) hr2
      obtain ⟨a1, hA1, hcc⟩ := hcc0 (by omega)
      subst hA1
      have hnews : ∀ (j : Nat) v, ((x :: l1).map (Value.int .u8))[j]? = some v → w1.cell? (a1.add j) = some v := fun j v hj => by
        rw [List.getElem?_map, Option.map_eq_some_iff] at hj
        obtain ⟨y, hy, rfl⟩ := hj
        have hjl : j < (x :: l1).length := (List.getElem?_eq_some_iff.1 hy).1
        rw [hcc j hjl, List.getD_eq_getElem?_getD, hy]; rfl
      have hlt : (bytesOf s ++ x :: l1).length = s.size + (x :: l1).length := by rw [List.length_append, hbl]
      by_cases hroom : s.size + (x :: l1).length ≤ cp
      · have hsome : ∀ j, j < ((x :: l1).map (Value.int .u8)).length → (w1.cell? ⟨w.heap.size, s.size + j, none⟩).isSome = true := fun j hj => by
          rw [cell_of_row w1 w.heap.size _ _ 5 _ hn1]
          rw [List.length_map] at hj
          simp; omega
        have hrun := fun ty => run_append_room_cells (P := Try.prog) (w := w1) 34 ty 5 i0 Try.underlying34 hi w.heap.size 0 s.size cp a1 (x :: l1).length c1 ((x :: l1).map (Value.int .u8)) (by rw [List.length_map, hz1, Nat.mul_one]) hnews
          (fun u hu => by obtain ⟨y, _, rfl⟩ := List.mem_map.1 hu; rfl) hroom
          (fun j hj => by rw [hz1, Nat.mul_one, Nat.zero_add]; exact hsome j hj)
          (fun j hj => by
            rw [hz1, Nat.mul_one, Nat.zero_add]
            rw [List.length_map] at hj
            simp [World.frozen?, hn1]; omega)
        refine ⟨_, _, hrun, _, rfl, ?_, ?_⟩
        · rw [← hlt]
          refine Kd.V_mk (by rw [hlt]; exact hroom) fun W' hW => ?_
          rw [hz1, Nat.mul_one, Nat.zero_add] at hW
          have hn := hW w.heap.size (Nat.le_refl _) (by rw [(setCells_same _ _ _ _).2.2.2]; omega)
          refine Kd.C_of_reads (d := (0 : Int)) (h1 := fun _ => rfl) ⟨rfl, by omega, fun _ => ⟨_, rfl, fun j hj => ?_⟩⟩
          have hce : W'.cell? ⟨w.heap.size, 0 + j, none⟩ = (w1.setCells w.heap.size s.size ((x :: l1).map (Value.int .u8))).cell? ⟨w.heap.size, 0 + j, none⟩ := by
            simp only [World.cell?, hn]
          rw [Addr.add_lit, hce, Nat.zero_add]
          by_cases hj2 : j < s.size
          · rw [World.cell?_setCells_out _ _ _ _ _ (fun _ _ => Or.inl hj2), cell_of_row w1 w.heap.size _ _ 5 _ hn1, hpre j hj2]
            refine congrArg (fun z => some (Value.int .u8 z)) ?_
            rw [List.getD_eq_getElem?_getD, List.getD_eq_getElem?_getD, List.getElem?_append_left (by omega)]
          · obtain ⟨m, rfl⟩ : ∃ m, j = s.size + m := ⟨j - s.size, by omega⟩
            have hm : m < ((x :: l1).map (Value.int .u8)).length := by rw [List.length_map]; omega
            rw [World.cell?_setCells_in _ _ _ _ hsome m hm, List.getElem_map]
            refine congrArg (fun z => some (Value.int .u8 z)) ?_
            rw [List.getD_eq_getElem?_getD, List.getElem?_append_right (by omega), hbl, Nat.add_sub_cancel_left, List.getElem?_eq_getElem (by rw [List.length_map] at hm; exact hm)]
            rfl
        · obtain ⟨e1, e2, e3, e4⟩ := setCells_same w.heap.size ((x :: l1).map (Value.int .u8)) (0 + s.size * i0.size) w1
          exact ⟨e1.trans hb1.os, e2.trans hb1.tape, e3.trans hb1.output, by rw [e4]; exact hb1.size, fun k hk => (setCells_far _ _ k (by omega)).trans (hb1.block k hk)⟩
      · have hfits : Builtin.nextslicecap (s.size + (x :: l1).length) cp * i0.bytes ≤ 281474976710656 := growslice_fits (by omega) (by rw [hz2]; omega)
        have hrun := fun ty => run_append_grow (P := Try.prog) w1 34 ty 5 i0 _ Try.underlying34 hi hz0 ⟨w.heap.size, 0, none⟩ s.size cp ((bytesOf s).map (Value.int .u8)) (by rw [List.length_map, hbl, hz1, Nat.mul_one])
          (fun j v hj => by
            rw [List.getElem?_map, Option.map_eq_some_iff] at hj
            obtain ⟨y, hy, rfl⟩ := hj
            have hjl : j < (bytesOf s).length := (List.getElem?_eq_some_iff.1 hy).1
            rw [Addr.add_lit, cell_of_row w1 w.heap.size _ _ 5 _ hn1, Nat.zero_add, hpre j (by omega), List.getD_eq_getElem?_getD, hy]; rfl)
          a1 (x :: l1).length c1 ((x :: l1).map (Value.int .u8)) (by rw [List.length_map, hz1, Nat.mul_one]) hnews (by omega) (by omega) hfits
        refine ⟨_, _, fun ty => hrun ty, _, rfl, ?_, ?_⟩
        · rw [← hlt]
          refine Kd.V_mk (by rw [hlt]; exact grownCap_ge _ _ _ _) fun W' hW => ?_
          have hn := hW w1.heap.size (by omega) (by simp)
          have hn2 := heap_alloc_new w1.drew (.cells (((bytesOf s).map (Value.int .u8)).toArray ++ ((x :: l1).map (Value.int .u8)).toArray ++ Builtin.zeroCells (Value.int .u8 0).cells (grownCap w1 (s.size + (x :: l1).length) cp 5 - (s.size + (x :: l1).length))) 5)
          rw [hlt] at hn
          have hn := hn.trans hn2
          refine Kd.C_of_reads (d := (0 : Int)) (h1 := fun _ => rfl) ⟨rfl, by omega, fun _ => ⟨_, rfl, fun j hj => ?_⟩⟩
          rw [Addr.add_lit, cell_of_row W' _ _ _ _ _ hn, Nat.zero_add, Array.getElem?_append_left (by simp only [Array.size_append, List.size_toArray, List.length_map]; rw [hlt] at hj; omega)]
          rw [List.append_toArray, ← List.map_append, List.getElem?_toArray, List.getElem?_map, List.getElem?_eq_getElem hj, List.getD_eq_getElem?_getD, List.getElem?_eq_getElem hj]
          rfl
        · exact below_alloc (below_drew hb1) _
end Go.Proofs.Ytenmanionddamaa
