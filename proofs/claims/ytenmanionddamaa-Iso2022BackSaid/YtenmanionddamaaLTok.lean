/- Plain laws of iso2022: what is written is a row of pieces, each of which Get reads at once, whatever follows, and of which each beginning waits for more. Conditions: each theorem states its own. -/
import Derived.Test.YtenmanionddamaaLIsoh
import Derived.Test.YtenmanionddamaaLPlace
namespace Go.Proofs.Ytenmanionddamaa.Q
open Go.RowKit Go.Proofs.YtenmanionddamaaW.PrintWords Go.Proofs.YtenmanionddamaaW.PrintLast
set_option linter.unusedVariables false
set_option linter.unusedSimpArgs false
/-- a piece: its bytes, the mode behind it, the scalar that it stands for, if any -/
structure Tok (n m : Int) (bs : List Int) (m' : Int) (o : Option Int) : Prop where
  full : ∀ (k : Nat) (r : List Int), isBytes r → iso2022_Get.f (k + 7) n m 0 0 0 (bs ++ r) = some (0, (bs.length : Int), (if o.isSome then 1 else 0), o.getD 0, 0, m', 0, 0, 0)
  part : ∀ (k j : Nat), 0 < j → j < bs.length → iso2022_Get.f (k + 7) n m 0 0 0 (bs.take j) = some (1, 0, 0, 0, 0, 0, 0, 0, 0)
  fit : isoFit m' 0 0 0
  low : ∀ x ∈ bs, 0 ≤ x ∧ x < 128
  some : 0 < bs.length
  most : bs.length ≤ 4
/-- a row of pieces -/
inductive Toks (n : Int) : Int → List Int → Int → List Int → Prop
  | nil (m : Int) : Toks n m [] m []
  | cons {m m1 m2 : Int} {bs rest us : List Int} {o : Option Int} : Tok n m bs m1 o → Toks n m1 rest m2 us → Toks n m (bs ++ rest) m2 (o.toList ++ us)
theorem Tok.one {n m m1 : Int} {bs : List Int} {o : Option Int} (h : Tok n m bs m1 o) : Toks n m bs m1 o.toList := by
  have := Toks.cons h (Toks.nil m1)
  simpa using this
theorem Toks.app {n m m1 m2 : Int} {a b us vs : List Int} (h : Toks n m a m1 us) (h2 : Toks n m1 b m2 vs) : Toks n m (a ++ b) m2 (us ++ vs) := by
  induction h with
  | nil m => simpa using h2
  | cons ht _ ih =>
    rw [List.append_assoc, List.append_assoc]
    exact Toks.cons ht (ih h2)
theorem Toks.low {n m m1 : Int} {a us : List Int} (h : Toks n m a m1 us) : ∀ x ∈ a, 0 ≤ x ∧ x < 128 := by
  induction h with
  | nil m => simp
  | cons ht _ ih =>
    intro x hx
    rcases List.mem_append.1 hx with h1 | h1
    · exact ht.low x h1
    · exact ih x h1
theorem tokEscB (m : Int) (hf : isoFit m 0 0 0) : Tok 83 m [27, 40, 66] 0 none where
  full k r hr := (Get_esc_jp k m r hf hr).1
  part k j h0 h1 := by
    have : j = 1 ∨ j = 2 := by simp at h1; omega
    rcases this with rfl | rfl
    · exact (Get_more_jp k m hf).1
    · exact (Get_more_jp k m hf).2.1
  fit := ⟨by decide, by decide, rfl, rfl, rfl⟩
  low x hx := by simp at hx; omega
  some := by decide
  most := by decide
theorem tokEscJ (m : Int) (hf : isoFit m 0 0 0) : Tok 83 m [27, 40, 74] 1 none where
  full k r hr := (Get_esc_jp k m r hf hr).2.1
  part k j h0 h1 := by
    have : j = 1 ∨ j = 2 := by simp at h1; omega
    rcases this with rfl | rfl
    · exact (Get_more_jp k m hf).1
    · exact (Get_more_jp k m hf).2.1
  fit := ⟨by decide, by decide, rfl, rfl, rfl⟩
  low x hx := by simp at hx; omega
  some := by decide
  most := by decide
theorem tokEscK (m : Int) (hf : isoFit m 0 0 0) : Tok 83 m [27, 36, 66] 2 none where
  full k r hr := (Get_esc_jp k m r hf hr).2.2
  part k j h0 h1 := by
    have : j = 1 ∨ j = 2 := by simp at h1; omega
    rcases this with rfl | rfl
    · exact (Get_more_jp k m hf).1
    · exact (Get_more_jp k m hf).2.2
  fit := ⟨by decide, by decide, rfl, rfl, rfl⟩
  low x hx := by simp at hx; omega
  some := by decide
  most := by decide
theorem tokHeader : Tok 88 0 [27, 36, 41, 67] 1 none where
  full k r hr := by
    have := Get_esc_kr (k + 3) 0 r ⟨by decide, by decide, rfl, rfl, rfl⟩ hr
    exact this
  part k j h0 h1 := by
    have hm := Get_more_kr (k + 3) 0 ⟨by decide, by decide, rfl, rfl, rfl⟩
    have : j = 1 ∨ j = 2 ∨ j = 3 := by simp at h1; omega
    rcases this with rfl | rfl | rfl
    · exact hm.1
    · exact hm.2.1
    · exact hm.2.2
  fit := ⟨by decide, by decide, rfl, rfl, rfl⟩
  low x hx := by simp at hx; omega
  some := by decide
  most := by decide
theorem tokOne {n m m' c : Int} {o : Option Int} (hc : 0 ≤ c ∧ c < 128) (hf : isoFit m' 0 0 0) (h : ∀ (k : Nat) (r : List Int), isBytes r → iso2022_Get.f (k + 7) n m 0 0 0 (c :: r) = some (0, 1, (if o.isSome then 1 else 0), o.getD 0, 0, m', 0, 0, 0)) : Tok n m [c] m' o where
  full k r hr := h k r hr
  part k j h0 h1 := by simp at h1; omega
  fit := hf
  low x hx := by simp at hx; omega
  some := by simp
  most := by simp
theorem tokJpPair (r0 c0 u : Int) (hr : 1 ≤ r0 ∧ r0 ≤ 94) (hc : 1 ≤ c0 ∧ c0 ≤ 94) (hs : scalarOf (jisRow r0) c0 = (u, true)) : Tok 83 2 [r0 + 32, c0 + 32] 2 (some u) where
  full k r hb := by
    have := tok_jp2 k (r0 + 32) (c0 + 32) u r (by omega) (by omega) hb (by rw [Int.add_sub_cancel, Int.add_sub_cancel]; exact hs)
    exact this
  part k j h0 h1 := by
    have : j = 1 := by simp at h1; omega
    subst this
    exact more_jp2 k (r0 + 32) (by omega)
  fit := ⟨by decide, by decide, rfl, rfl, rfl⟩
  low x hx := by simp at hx; omega
  some := by simp
  most := by simp
theorem tokKrPair (r0 c0 u : Int) (hr : 1 ≤ r0 ∧ r0 ≤ 94) (hc : 1 ≤ c0 ∧ c0 ≤ 94) (hs : scalarOf (kscRow r0) c0 = (u, true)) : Tok 88 2 [r0 + 32, c0 + 32] 2 (some u) where
  full k r hb := by
    have := tok_kr2 k (r0 + 32) (c0 + 32) u r (by omega) (by omega) hb (by rw [Int.add_sub_cancel, Int.add_sub_cancel]; exact hs)
    exact this
  part k j h0 h1 := by
    have : j = 1 := by simp at h1; omega
    subst this
    exact more_kr2 k (r0 + 32) (by omega)
  fit := ⟨by decide, by decide, rfl, rfl, rfl⟩
  low x hx := by simp at hx; omega
  some := by simp
  most := by simp
end Go.Proofs.Ytenmanionddamaa.Q
