/- Plain laws of the functions of sjis, jis and their references: what they answer, in closed form. -/
import Derived.Test.YtenmanionddamaaQsjisa
import Derived.Test.YtenmanionddamaaQjisa
import Derived.Test.YtenmanionddamaaQdragomanref14a
import Derived.Test.YtenmanionddamaaQdragomanref18a
namespace Go.Proofs.Ytenmanionddamaa.Q
open Go.RowKit Go.Proofs.YtenmanionddamaaW.PrintWords Go.Proofs.YtenmanionddamaaW.PrintLast
set_option linter.unusedVariables false
set_option linter.unusedSimpArgs false
theorem w64 {x : Int} (h0 : -9223372036854775808 ≤ x) (h1 : x < 9223372036854775808) : wrap64 x = x := by unfold wrap64; omega
theorem w32 {x : Int} (h0 : -2147483648 ≤ x) (h1 : x < 2147483648) : wrap32 x = x := by unfold wrap32; omega
/-- the two bytes of a row and a cell -/
def packOf (r c : Int) : Int × Int × Bool :=
  if r < 1 then (0, 0, false) else if 94 < r then (0, 0, false) else if c < 1 then (0, 0, false) else if 94 < c then (0, 0, false) else
    (if 62 < r then 193 + (r - 1) / 2 else 129 + (r - 1) / 2, if r % 2 = 0 then 158 + c else if 63 < c then 64 + c else 63 + c, true)
theorem packOf_in (r c : Int) (h1 : ¬ r < 1) (h2 : ¬ 94 < r) (h3 : ¬ c < 1) (h4 : ¬ 94 < c) : packOf r c = (if 62 < r then 193 + (r - 1) / 2 else 129 + (r - 1) / 2, if r % 2 = 0 then 158 + c else if 63 < c then 64 + c else 63 + c, true) := by
  unfold packOf; rw [if_neg h1, if_neg h2, if_neg h3, if_neg h4]
theorem tdiv2 (r : Int) (h : 1 ≤ r) : Int.tdiv (r - 1) 2 = (r - 1) / 2 := Int.tdiv_eq_ediv_of_nonneg (by omega)
theorem tmod2 (r : Int) (h : 1 ≤ r) : Int.tmod r 2 = r % 2 := Int.tmod_eq_emod_of_nonneg (by omega)
theorem sjis_Pack_eq (k : Nat) (r c : Int) : sjis_Pack.f (k + 2) r c = some (packOf r c) := by
  unfold sjis_Pack.f packOf
  by_cases h1 : r < 1
  · rw [if_pos h1, if_pos h1]; rfl
  rw [if_neg h1, if_neg h1]
  by_cases h2 : 94 < r
  · rw [if_pos h2, if_pos h2]; rfl
  rw [if_neg h2, if_neg h2]
  by_cases h3 : c < 1
  · rw [if_pos h3, if_pos h3]; rfl
  rw [if_neg h3, if_neg h3]
  by_cases h4 : 94 < c
  · rw [if_pos h4, decide_eq_true h4]; rfl
  rw [if_neg h4, decide_eq_false h4]
  simp only [sjis_Pack.j0, sjis_Pack.j1, w64 (show -9223372036854775808 ≤ r - 1 by omega) (by omega), tdiv2 r (by omega), tmod2 r (by omega)]
  rw [w64 (x := (r - 1) / 2) (by omega) (by omega), w64 (x := 129 + (r - 1) / 2) (by omega) (by omega), w64 (x := 129 + (r - 1) / 2 + 64) (by omega) (by omega), w64 (x := 159 + c) (by omega) (by omega), w64 (x := 159 + c - 1) (by omega) (by omega), w64 (x := 64 + c) (by omega) (by omega), w64 (x := 64 + c - 1) (by omega) (by omega), w64 (x := 64 + c - 1 + 1) (by omega) (by omega)]
  simp only [Bool.false_eq_true, if_false]
  repeat' split
  all_goals first | (exfalso; omega) | (simp only [Option.some.injEq, Prod.mk.injEq, and_true, true_and]; omega)
theorem ref18_Pack_eq (k : Nat) (r c : Int) : dragomanref18_Pack.f (k + 2) r c = some (packOf r c) := by
  unfold dragomanref18_Pack.f packOf
  by_cases h1 : r < 1
  · rw [if_pos h1, if_pos h1]; rfl
  rw [if_neg h1, if_neg h1]
  by_cases h2 : 94 < r
  · rw [if_pos h2, if_pos h2]; rfl
  rw [if_neg h2, if_neg h2]
  by_cases h3 : c < 1
  · rw [if_pos h3, if_pos h3]; rfl
  rw [if_neg h3, if_neg h3]
  by_cases h4 : 94 < c
  · rw [if_pos h4, decide_eq_true h4]; rfl
  rw [if_neg h4, decide_eq_false h4]
  simp only [dragomanref18_Pack.j0, dragomanref18_Pack.j1, w64 (show -9223372036854775808 ≤ r - 1 by omega) (by omega), tdiv2 r (by omega), tmod2 r (by omega)]
  rw [w64 (x := (r - 1) / 2) (by omega) (by omega), w64 (x := 129 + (r - 1) / 2) (by omega) (by omega), w64 (x := 193 + (r - 1) / 2) (by omega) (by omega), w64 (x := 158 + c) (by omega) (by omega), w64 (x := 64 + c) (by omega) (by omega), w64 (x := 63 + c) (by omega) (by omega)]
  simp only [Bool.false_eq_true, if_false]
  repeat' split
  all_goals first | (exfalso; omega) | (simp only [Option.some.injEq, Prod.mk.injEq, and_true, true_and]; omega)
/-- the row and the cell of two bytes -/
def unpOf (a b : Int) : Int × Int × Bool :=
  if (129 ≤ a ∧ a ≤ 159 ∨ 224 ≤ a ∧ a ≤ 239) ∧ (64 ≤ b ∧ b ≤ 252 ∧ b ≠ 127) then
    (if 159 ≤ b then 2 * (if 224 ≤ a then a - 193 else a - 129) + 2 else 2 * (if 224 ≤ a then a - 193 else a - 129) + 1, if 159 ≤ b then b - 158 else if 127 < b then b - 64 else b - 63, true)
  else (0, 0, false)
theorem isLead_eq (a : Int) : sjis_isLead.f a = some (decide (129 ≤ a ∧ a ≤ 159 ∨ 224 ≤ a ∧ a ≤ 239)) := by
  unfold sjis_isLead.f
  repeat' split
  all_goals (congr 1; symm)
  all_goals first | (rw [decide_eq_true_iff]; omega) | (rw [decide_eq_false_iff_not]; omega) | (rw [decide_eq_decide]; omega)
theorem isTrail_eq (b : Int) : sjis_isTrail.f b = some (decide (64 ≤ b ∧ b ≤ 252 ∧ b ≠ 127)) := by
  unfold sjis_isTrail.f
  repeat' split
  all_goals congr 1
  · by_cases h : b = 127
    · subst h; rfl
    · rw [decide_eq_true (by omega)]; simpa using h
  all_goals (symm; rw [decide_eq_false_iff_not]; omega)
theorem sjis_Unpack_eq (k : Nat) (a b : Int) (a0 : 0 ≤ a) (a1 : a < 256) (b0 : 0 ≤ b) (b1 : b < 256) : sjis_Unpack.f (k + 2) a b = some (unpOf a b) := by
  unfold sjis_Unpack.f unpOf
  rw [isLead_eq, isTrail_eq]
  simp only [Option.bind_some]
  by_cases h1 : (129 ≤ a ∧ a ≤ 159 ∨ 224 ≤ a ∧ a ≤ 239)
  · rw [decide_eq_true h1, if_pos rfl]
    by_cases h2 : (64 ≤ b ∧ b ≤ 252 ∧ b ≠ 127)
    · rw [decide_eq_true h2, if_pos ⟨h1, h2⟩]
      simp only [sjis_Unpack.j0, sjis_Unpack.j1, w64 (x := a) (by omega) (by omega), w64 (x := b) (by omega) (by omega), w64 (x := a - 129) (by omega) (by omega), w64 (x := a - 129 - 64) (by omega) (by omega), w64 (x := b - 159) (by omega) (by omega), w64 (x := b - 159 + 1) (by omega) (by omega), w64 (x := b - 64) (by omega) (by omega), w64 (x := b - 64 + 1) (by omega) (by omega), w64 (x := b - 64 + 1 - 1) (by omega) (by omega), w64 (x := 2 * (a - 129 - 64)) (by omega) (by omega), w64 (x := 2 * (a - 129 - 64) + 2) (by omega) (by omega), w64 (x := 2 * (a - 129 - 64) + 1) (by omega) (by omega), w64 (x := 2 * (a - 129)) (by omega) (by omega), w64 (x := 2 * (a - 129) + 2) (by omega) (by omega), w64 (x := 2 * (a - 129) + 1) (by omega) (by omega)]
      simp only [Bool.not_true, Bool.false_eq_true, if_false]
      repeat' split
      all_goals first | (exfalso; omega) | (simp only [Option.some.injEq, Prod.mk.injEq, and_true, true_and]; omega)
    · rw [decide_eq_false h2, if_neg (fun h => h2 h.2)]; rfl
  · rw [decide_eq_false h1, if_neg (by decide), if_neg (fun h => h1 h.1)]; rfl
end Go.Proofs.Ytenmanionddamaa.Q
