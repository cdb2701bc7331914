/- Plain laws of the half forms of JIS X 0201, of the code. Conditions: each theorem states its own. -/
import Derived.Test.YtenmanionddamaaQjisa
import Derived.Test.YtenmanionddamaaLW
namespace Go.Proofs.Ytenmanionddamaa.Q
open Go.RowKit Go.Proofs.YtenmanionddamaaW.PrintWords Go.Proofs.YtenmanionddamaaW.PrintLast
set_option linter.unusedVariables false
set_option linter.unusedSimpArgs false
/-- a byte of JIS X 0201 -/
def halfOf (a : Int) : Int × Bool := if a = 92 then (165, true) else if a = 126 then (8254, true) else if a < 128 then (a, true) else if 161 ≤ a ∧ a ≤ 223 then (65216 + a, true) else (0, false)
/-- the byte of a scalar in JIS X 0201 -/
def halfByteOf (u : Int) : Int × Bool := if u = 165 then (92, true) else if u = 8254 then (126, true) else if 0 ≤ u ∧ u < 128 ∧ u ≠ 92 ∧ u ≠ 126 then (u, true) else if 65377 ≤ u ∧ u ≤ 65439 then (u - 65216, true) else (0, false)
theorem halfByte_some (u b : Int) (h0 : 0 ≤ b) (h1 : b < 256) (h : halfOf b = (u, true)) : halfByteOf u = (b, true) := by
  unfold halfOf at h
  unfold halfByteOf
  repeat' split at h
  all_goals first | (cases h; done) | skip
  all_goals (simp only [Prod.mk.injEq, and_true] at h; subst h; repeat' split)
  all_goals first | rfl | (exfalso; omega) | (simp only [Prod.mk.injEq, and_true, true_and]; done) | (simp only [Prod.mk.injEq, and_true, true_and]; omega)
theorem half_of_byte (u b : Int) (h : halfByteOf u = (b, true)) : 0 ≤ b ∧ b < 256 ∧ halfOf b = (u, true) := by
  unfold halfByteOf at h
  unfold halfOf
  repeat' split at h
  all_goals first | (cases h; done) | skip
  all_goals (simp only [Prod.mk.injEq, and_true] at h; subst h; refine ⟨by omega, by omega, ?_⟩; repeat' split)
  all_goals first | rfl | (exfalso; omega) | (simp only [Prod.mk.injEq, and_true, true_and]; done) | (simp only [Prod.mk.injEq, and_true, true_and]; omega)
theorem halfByte_none (u b : Int) (h : halfByteOf u = (b, false)) : b = 0 := by
  unfold halfByteOf at h
  repeat' split at h
  all_goals first | (cases h; done) | (cases h; rfl)
theorem jis_HalfByte_eq (k : Nat) (u : Int) (h0 : -2147483648 ≤ u) (h1 : u < 2147483648) : jis_HalfByte.f (k + 1) u = some (halfByteOf u) := by
  unfold jis_HalfByte.f halfByteOf
  by_cases a : u = 165
  · rw [if_pos a, if_pos a]
  rw [if_neg a, if_neg a]
  by_cases b : u = 8254
  · rw [if_pos b, if_pos b]
  rw [if_neg b, if_neg b]
  by_cases c : 0 ≤ u ∧ u < 128 ∧ u ≠ 92 ∧ u ≠ 126
  · rw [if_pos c, if_pos c.1, if_pos c.2.1, if_neg c.2.2.1]
    have : (u != 126) = true := by simpa using c.2.2.2
    rw [this]
    simp only [jis_HalfByte.j0, if_true]
    rw [show u % 256 = u by omega]
  rw [if_neg c]
  have hj : jis_HalfByte.j0 (k + 1) u false = some (if 65377 ≤ u ∧ u ≤ 65439 then (u - 65216, true) else (0, false)) := by
    simp only [jis_HalfByte.j0, Bool.false_eq_true, if_false]
    by_cases d : 65377 ≤ u ∧ u ≤ 65439
    · rw [if_pos d, if_pos d.1, if_pos d.2, w32 (x := u - 65377) (by omega) (by omega), w32 (x := u - 65377 + 161) (by omega) (by omega)]
      simp only [Option.some.injEq, Prod.mk.injEq, and_true]; omega
    · rw [if_neg d]
      by_cases e : u ≥ 65377
      · rw [if_pos e, if_neg (by omega)]
      · rw [if_neg e]
  by_cases e : u ≥ 0
  · rw [if_pos e]
    by_cases f : u < 128
    · rw [if_pos f]
      by_cases g : u = 92
      · rw [if_pos g, hj]
      · rw [if_neg g]
        have : u = 126 := by omega
        have h2 : (u != 126) = false := by simpa using this
        rw [h2, hj]
    · rw [if_neg f, hj]
  · rw [if_neg e, hj]
end Go.Proofs.Ytenmanionddamaa.Q
