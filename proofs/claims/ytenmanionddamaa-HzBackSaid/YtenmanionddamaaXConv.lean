/- '[]byte(s)' of a text: the walk's step, told as a call that hands back a row that is only read. Conditions: each theorem states its own. -/
import Derived.Test.YtenmanionddamaaProg
import Derived.Lib.ConvBytes
import Derived.Lib.SlBytesConst
import Derived.WalkKit
import Derived.Great.Walk
import Derived.Test.YtenmanionddamaaWWords
import Derived.Test.YtenmanionddamaaWLast
import Derived.Test.YtenmanionddamaaWShare
import Derived.Test.YtenmanionddamaaWMore
namespace Go.Proofs.Ytenmanionddamaa
open Go.RowKit Go.Proofs.YtenmanionddamaaW.PrintWords Go.Proofs.YtenmanionddamaaW.PrintLast Go.Proofs.YtenmanionddamaaW.PrintMore
set_option linter.unusedVariables false
set_option linter.unusedSimpArgs false
/-- what the conversion of a text leaves -/
def ConvCalls (s : ByteArray) (w : World) (R : Ending → World → Prop) : Prop := R (.returned (.slice (some ⟨w.heap.size, 0, none⟩) s.size (grownCap w s.size 0 5))) (Lib.bytesWorld w 5 s)
theorem ConvCalls.mono {s : ByteArray} {w : World} {R R' : Ending → World → Prop} (h : ConvCalls s w R) (hm : ∀ e w', R e w' → R' e w') : ConvCalls s w R' := hm _ _ h
/-- what the conversion of a constant text leaves: the row was laid by the operation before it -/
def ConstCalls (s : ByteArray) (w : World) (R : Ending → World → Prop) : Prop := R (.returned (.slice (some ⟨w.heap.size, 0, none⟩) s.size s.size)) (w.alloc (.cells (s.data.map fun b => Value.int .u8 b.toNat) 5 (s.size, s.size + 1)))
theorem ConstCalls.mono {s : ByteArray} {w : World} {R R' : Ending → World → Prop} (h : ConstCalls s w R) (hm : ∀ e w', R e w' → R' e w') : ConstCalls s w R' := hm _ _ h
section
variable {ops : Array Oper} {Q : Exit → Act → World → Prop} {rest : List Oper} {o : Oper} {a : Act} {w : World}
theorem gate_conv {x : Operand} (_ho : o.op = .convert 9 34 x) (h : wpList Try.prog ops Q (o :: rest) a w) : wpList Try.prog ops Q (o :: rest) a w := h
theorem gate_const {x : Operand} (_ho : o.op = .convert 34 34 x) (h : wpList Try.prog ops Q (o :: rest) a w) : wpList Try.prog ops Q (o :: rest) a w := h
theorem convL_ (N : Option Tmp) (hd : o.dst = N) (hg : o.guard = none) (s : ByteArray) {x : Operand} (hop : o.op = .convert 9 34 x) (hx : a.eval x = .string s)
    (h : ConvCalls s w fun e w' => ∃ v, e = .returned v ∧ wpList Try.prog ops Q rest (a.put N v) w') : wpList Try.prog ops Q (o :: rest) a w := by
  obtain ⟨v, hv, h⟩ := h
  injection hv with hv
  subst hv
  refine Great.wpList_runTo hg N hd _ _ ?_ h
  unfold execOp
  simp only [hop, hx]
  rw [Sem.run_bind, Lib.run_convert_string_bytes w 9 34 5 s Try.underlying9 Try.underlying34 Try.underlying5]
  rfl
theorem constL_ (N : Option Tmp) (hd : o.dst = N) (hg : o.guard = none) (s : ByteArray) {x : Operand} {C : Array Value} (hop : o.op = .convert 34 34 x) (hC : C = s.data.map fun b => Value.int .u8 b.toNat) {n c : Nat} (hn : n = s.size) (hc : c = s.size) (hx : a.eval x = .slice (some ⟨w.heap.size, 0, none⟩) n c)
    (h : ConstCalls s w fun e w' => ∃ v, e = .returned v ∧ wpList Try.prog ops Q rest (a.put N v) w') : wpList Try.prog ops Q (o :: rest) a (w.alloc (.cells C 5)) := by
  obtain ⟨v, hv, h⟩ := h
  injection hv with hv
  subst hv hC hn hc
  refine Great.wpList_runTo hg N hd _ _ ?_ h
  unfold execOp
  simp only [hop, hx]
  rw [Sem.run_bind, Lib.run_convert_bytes_const w 34 5 _ _ _ Try.underlying34 Try.underlying5]
  simp [Array.size_map]
end
theorem bytes_C {W : World} {g : Nat} {cur : Array Value} {t : TypeId} {fr : Nat × Nat} {s : ByteArray} (hb : W.heap[g]? = some (.cells cur t fr)) (hs : s.size ≤ 9223372036854775807) (hc : ∀ j, j < s.size → cur[j]? = some (.int .u8 ((bytesOf s).getD j 0))) :
    Kd.C (Kd.int .u8) W (some ⟨g, 0, none⟩) (bytesOf s).length (bytesOf s) := by
  have hl : (bytesOf s).length = s.size := by simp [bytesOf]
  refine Kd.C_of_reads (d := (0 : Int)) (h1 := fun _ => rfl) ⟨rfl, by omega, fun _ => ⟨_, rfl, fun j hj => ?_⟩⟩
  rw [Addr.add_lit, cell_of_row W g _ cur t fr hb, Nat.zero_add]
  exact hc j (by omega)
def strbytes.f (s : ByteArray) : Option (List Int) := if s.size ≤ 9223372036854775807 then some (bytesOf s) else none
theorem bytesOf_at (s : ByteArray) (j : Nat) (hj : j < s.size) : s.data[j]?.map (fun b => Value.int .u8 b.toNat) = some (.int .u8 ((bytesOf s).getD j 0)) := by
  have hj' : j < s.data.size := hj
  simp [bytesOf, Array.getElem?_eq_getElem hj']
theorem strbytes.calls (s : ByteArray) (r : List Int) (w : World) (h : strbytes.f s = some r) :
    ConvCalls s w fun e w' => ∃ v0_ : Value, e = .returned v0_ ∧ Kd.V (Kd.int .u8) 5 w' w.heap.size (fun k_ => w.heap.size ≤ k_) v0_ r ∧ Below w.heap.size w w' := by
  unfold strbytes.f at h
  split at h
  case isFalse => cases h
  case isTrue hs =>
    cases h
    have hl : (bytesOf s).length = s.size := by simp [bytesOf]
    refine ⟨_, rfl, ?_, ?_⟩
    · rw [← hl]
      refine Kd.V_mk (by rw [hl]; exact grownCap_ge _ _ _ _) fun W' hW => ?_
      rw [hl]
      have hn := hW w.heap.size (Nat.le_refl _) (by rw [Lib.bytesWorld_size]; omega)
      rw [Lib.bytesWorld_at_new] at hn
      have := bytes_C hn hs fun j hj => by
        have hj' : j < s.data.size := hj
        rw [Lib.bytesCells, Array.getElem?_append_left (by simpa using hj'), Array.getElem?_map]
        exact bytesOf_at s j hj
      rw [hl] at this
      exact this
    · exact bytes_below (Below.refl _ _) (Nat.le_refl _) 5 s
def constbytes.f (s : ByteArray) : Option (List Int) := if s.size ≤ 9223372036854775807 then some (bytesOf s) else none
theorem constbytes.calls (s : ByteArray) (r : List Int) (w : World) (h : constbytes.f s = some r) :
    ConstCalls s w fun e w' => ∃ v0_ : Value, e = .returned v0_ ∧ Kd.V (Kd.int .u8) 5 w' w.heap.size (fun k_ => w.heap.size ≤ k_) v0_ r ∧ Below w.heap.size w w' := by
  unfold constbytes.f at h
  split at h
  case isFalse => cases h
  case isTrue hs =>
    cases h
    have hl : (bytesOf s).length = s.size := by simp [bytesOf]
    refine ⟨_, rfl, ?_, below_alloc (Below.refl _ _) _⟩
    rw [← hl]
    refine Kd.V_mk (by rw [hl]; exact Nat.le_refl _) fun W' hW => ?_
    rw [hl]
    have hn := hW w.heap.size (Nat.le_refl _) (by simp)
    rw [heap_alloc_new] at hn
    have := bytes_C hn hs fun j hj => by
      rw [Array.getElem?_map]
      exact bytesOf_at s j hj
    rw [hl] at this
    exact this
end Go.Proofs.Ytenmanionddamaa
