/- '[]byte(s)' of a text: the walk's step, told as a call that hands back a row that is only read. Conditions: each theorem states its own. -/
import Derived.Test.YtenmanionddamaaProg
import Derived.Lib.ConvBytes
import Derived.Lib.SlBytesConst
import Derived.ArgAppend
import Derived.WalkKit
import Derived.Great.Walk
import Derived.Test.YtenmanionddamaaWWords
import Derived.Test.YtenmanionddamaaWLast
import Derived.Test.YtenmanionddamaaWShare
import Derived.Test.YtenmanionddamaaWMore
namespace Go.Proofs.Ytenmanionddamaa
open Go.RowKit Go.Proofs.YtenmanionddamaaW.PrintWords Go.Proofs.YtenmanionddamaaW.PrintLast Go.Proofs.YtenmanionddamaaW.PrintMore
set_option linter.unusedVariables false
set_option linter.unusedSimpArgs false
/-- what the conversion of a text leaves -/
def ConvCalls (s : ByteArray) (w : World) (R : Ending → World → Prop) : Prop := R (.returned (.slice (some ⟨w.heap.size, 0, none⟩) s.size (grownCap w s.size 0 5))) (Lib.bytesWorld w 5 s)
theorem ConvCalls.mono {s : ByteArray} {w : World} {R R' : Ending → World → Prop} (h : ConvCalls s w R) (hm : ∀ e w', R e w' → R' e w') : ConvCalls s w R' := hm _ _ h
/-- what the conversion of a constant text leaves: the row was laid by the operation before it -/
def ConstCalls (s : ByteArray) (w : World) (R : Ending → World → Prop) : Prop := R (.returned (.slice (some ⟨w.heap.size, 0, none⟩) s.size s.size)) (w.alloc (.cells (s.data.map fun b => Value.int .u8 b.toNat) 5 (s.size, s.size + 1)))
theorem ConstCalls.mono {s : ByteArray} {w : World} {R R' : Ending → World → Prop} (h : ConstCalls s w R) (hm : ∀ e w', R e w' → R' e w') : ConstCalls s w R' := hm _ _ h
section
variable {ops : Array Oper} {Q : Exit → Act → World → Prop} {rest : List Oper} {o : Oper} {a : Act} {w : World}
theorem gate_conv {x : Operand} (_ho : o.op = .convert 9 34 x) (h : wpList Try.prog ops Q (o :: rest) a w) : wpList Try.prog ops Q (o :: rest) a w := h
theorem gate_const {x : Operand} (_ho : o.op = .convert 34 34 x) (h : wpList Try.prog ops Q (o :: rest) a w) : wpList Try.prog ops Q (o :: rest) a w := h
theorem convL_ (N : Option Tmp) (hd : o.dst = N) (hg : o.guard = none) (s : ByteArray) {x : Operand} (hop : o.op = .convert 9 34 x) (hx : a.eval x = .string s)
    (h : ConvCalls s w fun e w' => ∃ v, e = .returned v ∧ wpList Try.prog ops Q rest (a.put N v) w') : wpList Try.prog ops Q (o :: rest) a w := by
  obtain ⟨v, hv, h⟩ := h
  injection hv with hv
  subst hv
  refine Great.wpList_runTo hg N hd _ _ ?_ h
  unfold execOp
  simp only [hop, hx]
  rw [Sem.run_bind, Lib.run_convert_string_bytes w 9 34 5 s Try.underlying9 Try.underlying34 Try.underlying5]
  rfl
theorem constL_ (N : Option Tmp) (hd : o.dst = N) (hg : o.guard = none) (s : ByteArray) {x : Operand} {C : Array Value} (hop : o.op = .convert 34 34 x) (hC : C = s.data.map fun b => Value.int .u8 b.toNat) {n c : Nat} (hn : n = s.size) (hc : c = s.size) (hx : a.eval x = .slice (some ⟨w.heap.size, 0, none⟩) n c)
    (h : ConstCalls s w fun e w' => ∃ v, e = .returned v ∧ wpList Try.prog ops Q rest (a.put N v) w') : wpList Try.prog ops Q (o :: rest) a (w.alloc (.cells C 5)) := by
  obtain ⟨v, hv, h⟩ := h
  injection hv with hv
  subst hv hC hn hc
  refine Great.wpList_runTo hg N hd _ _ ?_ h
  unfold execOp
  simp only [hop, hx]
  rw [Sem.run_bind, Lib.run_convert_bytes_const w 34 5 _ _ _ Try.underlying34 Try.underlying5]
  simp [Array.size_map]
end
theorem bytes_C {W : World} {g : Nat} {cur : Array Value} {t : TypeId} {fr : Nat × Nat} {s : ByteArray} (hb : W.heap[g]? = some (.cells cur t fr)) (hs : s.size ≤ 9223372036854775807) (hc : ∀ j, j < s.size → cur[j]? = some (.int .u8 ((bytesOf s).getD j 0))) :
    Kd.C (Kd.int .u8) W (some ⟨g, 0, none⟩) (bytesOf s).length (bytesOf s) := by
  have hl : (bytesOf s).length = s.size := by simp [bytesOf]
  refine Kd.C_of_reads (d := (0 : Int)) (h1 := fun _ => rfl) ⟨rfl, by omega, fun _ => ⟨_, rfl, fun j hj => ?_⟩⟩
  rw [Addr.add_lit, cell_of_row W g _ cur t fr hb, Nat.zero_add]
  exact hc j (by omega)
def strbytes.f (s : ByteArray) : Option (List Int) := if s.size ≤ 9223372036854775807 then some (bytesOf s) else none
theorem bytesOf_at (s : ByteArray) (j : Nat) (hj : j < s.size) : s.data[j]?.map (fun b => Value.int .u8 b.toNat) = some (.int .u8 ((bytesOf s).getD j 0)) := by
  have hj' : j < s.data.size := hj
  simp [bytesOf, Array.getElem?_eq_getElem hj']
theorem strbytes.calls (s : ByteArray) (r : List Int) (w : World) (h : strbytes.f s = some r) :
    ConvCalls s w fun e w' => ∃ v0_ : Value, e = .returned v0_ ∧ Kd.V (Kd.int .u8) 5 w' w.heap.size (fun k_ => w.heap.size ≤ k_) v0_ r ∧ Below w.heap.size w w' := by
  unfold strbytes.f at h
  split at h
  case isFalse => cases h
  case isTrue hs =>
    cases h
    have hl : (bytesOf s).length = s.size := by simp [bytesOf]
    refine ⟨_, rfl, ?_, ?_⟩
    · rw [← hl]
      refine Kd.V_mk (by rw [hl]; exact grownCap_ge _ _ _ _) fun W' hW => ?_
      rw [hl]
      have hn := hW w.heap.size (Nat.le_refl _) (by rw [Lib.bytesWorld_size]; omega)
      rw [Lib.bytesWorld_at_new] at hn
      have := bytes_C hn hs fun j hj => by
        have hj' : j < s.data.size := hj
        rw [Lib.bytesCells, Array.getElem?_append_left (by simpa using hj'), Array.getElem?_map]
        exact bytesOf_at s j hj
      rw [hl] at this
      exact this
    · exact bytes_below (Below.refl _ _) (Nat.le_refl _) 5 s
def constbytes.f (s : ByteArray) : Option (List Int) := if s.size ≤ 9223372036854775807 then some (bytesOf s) else none
theorem constbytes.calls (s : ByteArray) (r : List Int) (w : World) (h : constbytes.f s = some r) :
    ConstCalls s w fun e w' => ∃ v0_ : Value, e = .returned v0_ ∧ Kd.V (Kd.int .u8) 5 w' w.heap.size (fun k_ => w.heap.size ≤ k_) v0_ r ∧ Below w.heap.size w w' := by
  unfold constbytes.f at h
  split at h
  case isFalse => cases h
  case isTrue hs =>
    cases h
    have hl : (bytesOf s).length = s.size := by simp [bytesOf]
    refine ⟨_, rfl, ?_, below_alloc (Below.refl _ _) _⟩
    rw [← hl]
    refine Kd.V_mk (by rw [hl]; exact Nat.le_refl _) fun W' hW => ?_
    rw [hl]
    have hn := hW w.heap.size (Nat.le_refl _) (by simp)
    rw [heap_alloc_new] at hn
    have := bytes_C hn hs fun j hj => by
      rw [Array.getElem?_map]
      exact bytesOf_at s j hj
    rw [hl] at this
    exact this
/-- what an append of bytes to a converted constant leaves -/
def AppCalls (s : ByteArray) (A2 : Option Addr) (n2 c2 : Nat) (w : World) (R : Ending → World → Prop) : Prop := ∃ v w', (∀ ty, (Builtin.append_ #[34, 34] ty #[.slice (some ⟨w.heap.size, 0, none⟩) s.size s.size, .slice A2 n2 c2]).run Try.prog (w.alloc (.cells (s.data.map fun b => Value.int .u8 b.toNat) 5 (s.size, s.size + 1))) = .ok v w') ∧ R (.returned v) w'
theorem AppCalls.mono {s : ByteArray} {A2 : Option Addr} {n2 c2 : Nat} {w : World} {R R' : Ending → World → Prop} (h : AppCalls s A2 n2 c2 w R) (hm : ∀ e w', R e w' → R' e w') : AppCalls s A2 n2 c2 w R' := by
  obtain ⟨v, w', h1, h2⟩ := h
  exact ⟨v, w', h1, hm _ _ h2⟩
section
variable {ops : Array Oper} {Q : Exit → Act → World → Prop} {rest : List Oper} {o : Oper} {a : Act} {w : World}
theorem gate_append {xs : Array Operand} {ts : Array TypeId} (_ho : o.op = .call { callee := .builtin .append, args := xs, argTypes := ts }) (h : wpList Try.prog ops Q (o :: rest) a w) : wpList Try.prog ops Q (o :: rest) a w := h
theorem appL_ (N : Option Tmp) (hd : o.dst = N) (hg : o.guard = none) (s : ByteArray) {x y : Operand} {C : Array Value} {A2 : Option Addr} {n2 c2 n c lo hi : Nat} (hop : o.op = .call { callee := .builtin .append, args := #[x, y], argTypes := #[34, 34] }) (hC : C = s.data.map fun b => Value.int .u8 b.toNat) (hlo : lo = s.size) (hhi : hi = s.size + 1) (hx : a.eval x = .slice (some ⟨w.heap.size, 0, none⟩) n c) (hn : n = s.size) (hc : c = s.size) (hy : a.eval y = .slice A2 n2 c2)
    (h : AppCalls s A2 n2 c2 w fun e w' => ∃ v, e = .returned v ∧ wpList Try.prog ops Q rest (a.put N v) w') : wpList Try.prog ops Q (o :: rest) a (w.alloc (.cells C 5 (lo, hi))) := by
  subst hd hC hlo hhi hn hc
  obtain ⟨v, w', hrun, v', hv, h⟩ := h
  injection hv with hv
  subst hv
  refine wpList_plain hg fun K hK' => ?_
  unfold Oper.wp
  simp [execOp, hop, resolve, invoke, builtin, hx, hy, hrun, Result.andThen]
  exact hK' _ _ h
end
def appconst.f (s : ByteArray) (l : List Int) : Option (List Int) := if s.size + l.length ≤ 140737488355328 then some (bytesOf s ++ l) else none
theorem info5_ : (Try.prog.info? 5).map (fun i => (i.zero, i.size, i.bytes)) = some (some (.int .u8 0), 1, 1) := by kernel_rfl
theorem appconst.calls (s : ByteArray) (A1 : Option Addr) (c1 : Nat) (l1 r : List Int) (w : World) (hr1 : Kd.C (Kd.int .u8) w A1 l1.length l1) (hc1 : l1.length ≤ c1) (h : appconst.f s l1 = some r) :
    AppCalls s A1 l1.length c1 w fun e w' => ∃ v0_ : Value, e = .returned v0_ ∧ Kd.V (Kd.int .u8) 5 w' w.heap.size (fun k_ => w.heap.size ≤ k_) v0_ r ∧ Below w.heap.size w w' := by
  unfold appconst.f at h
  split at h
  case isFalse => cases h
  case isTrue hs =>
    cases h
    obtain ⟨i0, hi, hz0, hz1, hz2⟩ := info_parts info5_
    have hbl : (bytesOf s).length = s.size := by simp [bytesOf]
    generalize hw1 : w.alloc (.cells (s.data.map fun b => Value.int .u8 b.toNat) 5 (s.size, s.size + 1)) = w1
    have hb1 : Below w.heap.size w w1 := by rw [← hw1]; exact below_alloc (Below.refl _ _) _
    have hn1 : w1.heap[w.heap.size]? = some (.cells (s.data.map fun b => Value.int .u8 b.toNat) 5 (s.size, s.size + 1)) := by rw [← hw1]; exact heap_alloc_new _ _
    have hsz1 : w1.heap.size = w.heap.size + 1 := by rw [← hw1]; simp
    have hr2 : Kd.C (Kd.int .u8) w1 A1 l1.length l1 := Kd.C_below hr1 hb1
    unfold AppCalls
    rw [hw1]
    cases l1 with
    | nil =>
      refine ⟨.slice (some ⟨w.heap.size, 0, none⟩) s.size s.size, w1, fun ty => ?_, _, rfl, ?_, hb1⟩
      · cases A1 with
        | none => simp [Builtin.append_, run_underlying Try.underlying34, sizeOf, typeInfo, hi, Builtin.lenOf, run_firstCells_none, storeCells]
        | some a1 =>
          have hf := run_firstCells_some (P := Try.prog) w1 i0.size 0 a1 0 c1 [] (by simp) (by simp)
          simp [Builtin.append_, run_underlying Try.underlying34, sizeOf, typeInfo, hi, Builtin.lenOf, hf, storeCells]
      · rw [List.append_nil, ← hbl]
        refine Kd.V_mk (by rw [hbl]; exact Nat.le_refl _) fun W' hW => ?_
        rw [hbl]
        have hn := hW w.heap.size (Nat.le_refl _) (by omega)
        rw [hn1] at hn
        have := bytes_C (s := s) hn (by simp only [List.length_nil] at hs; omega) fun j hj => by
          rw [Array.getElem?_map]
          exact bytesOf_at s j hj
        rw [hbl] at this
        exact this
    | cons x l1 =>
      have hl1 : (x :: l1).length = l1.length + 1 := List.length_cons
      obtain ⟨_, _, hcc0⟩ := Kd.reads_of_C (enc := Value.int .u8) (d := (0 : Int)) (h1 := fun _ => rfl) hr2
      obtain ⟨a1, hA1, hcc⟩ := hcc0 (by omega)
      subst hA1
      have hfits : Builtin.nextslicecap (s.size + (x :: l1).length) s.size * i0.bytes ≤ 281474976710656 := growslice_fits (by omega) (by rw [hz2]; omega)
      have hrun := fun ty => run_append_grow (P := Try.prog) w1 34 ty 5 i0 _ Try.underlying34 hi hz0 ⟨w.heap.size, 0, none⟩ s.size s.size ((bytesOf s).map (Value.int .u8)) (by rw [List.length_map, hbl, hz1, Nat.mul_one])
        (fun j v hj => by
          rw [List.getElem?_map, Option.map_eq_some_iff] at hj
          obtain ⟨y, hy, rfl⟩ := hj
          have hjl : j < (bytesOf s).length := (List.getElem?_eq_some_iff.1 hy).1
          rw [Addr.add_lit, cell_of_row w1 w.heap.size _ _ 5 _ hn1, Nat.zero_add, Array.getElem?_map, bytesOf_at s j (by omega), List.getD_eq_getElem?_getD, hy]; rfl)
        a1 (x :: l1).length c1 ((x :: l1).map (Value.int .u8)) (by rw [List.length_map, hz1, Nat.mul_one])
        (fun j v hj => by
          rw [List.getElem?_map, Option.map_eq_some_iff] at hj
          obtain ⟨y, hy, rfl⟩ := hj
          have hjl : j < (x :: l1).length := (List.getElem?_eq_some_iff.1 hy).1
          rw [hcc j hjl, List.getD_eq_getElem?_getD, hy]; rfl) (by omega) (by omega) hfits
      refine ⟨_, _, fun ty => hrun ty, _, rfl, ?_, ?_⟩
      · have hlt : (bytesOf s ++ x :: l1).length = s.size + (x :: l1).length := by rw [List.length_append, hbl]
        rw [← hlt]
        refine Kd.V_mk (by rw [hlt]; exact grownCap_ge _ _ _ _) fun W' hW => ?_
        have hn := hW w1.heap.size (by omega) (by simp)
        have hn2 := heap_alloc_new w1.drew (.cells (((bytesOf s).map (Value.int .u8)).toArray ++ ((x :: l1).map (Value.int .u8)).toArray ++ Builtin.zeroCells (Value.int .u8 0).cells (grownCap w1 (s.size + (x :: l1).length) s.size 5 - (s.size + (x :: l1).length))) 5)
        rw [hlt] at hn
        have hn := hn.trans hn2
        refine Kd.C_of_reads (d := (0 : Int)) (h1 := fun _ => rfl) ⟨rfl, by omega, fun _ => ⟨_, rfl, fun j hj => ?_⟩⟩
        rw [Addr.add_lit, cell_of_row W' _ _ _ _ _ hn, Nat.zero_add, Array.getElem?_append_left (by simp only [Array.size_append, List.size_toArray, List.length_map]; rw [hlt] at hj; omega)]
        rw [List.append_toArray, ← List.map_append, List.getElem?_toArray, List.getElem?_map, List.getElem?_eq_getElem hj, List.getD_eq_getElem?_getD, List.getElem?_eq_getElem hj]
        rfl
      · exact below_alloc (below_drew hb1) _
end Go.Proofs.Ytenmanionddamaa
