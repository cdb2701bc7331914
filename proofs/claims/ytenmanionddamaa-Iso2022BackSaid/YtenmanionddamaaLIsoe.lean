/- Plain laws of iso2022: End in closed form. Conditions: each theorem states its own. -/
import Derived.Test.YtenmanionddamaaLIso
namespace Go.Proofs.Ytenmanionddamaa.Q
open Go.RowKit Go.Proofs.YtenmanionddamaaW.PrintWords Go.Proofs.YtenmanionddamaaW.PrintLast
set_option linter.unusedVariables false
set_option linter.unusedSimpArgs false
theorem iso_End_eq (k : Nat) (n a b c d : Int) : iso2022_End.f (k + 1) n a b c d = some (if isoLook n a b c d = 0 then isoEnd n a else (⟨#[]⟩, 0, 0, 0, 0, isoLook n a b c d)) := by
  unfold iso2022_End.f
  rw [iso_look_eq]
  simp only [Option.bind_some]
  by_cases h : isoLook n a b c d = 0
  · rw [if_pos h, if_pos h]
    obtain ⟨hn, h0, h2, rfl, rfl, rfl⟩ : isoHas n ∧ isoFit a b c d := by
      unfold isoLook at h
      split at h
      · split at h
        · exact ⟨by assumption, by assumption⟩
        · simp at h
      · simp at h
    unfold isoEnd
    rcases hn with rfl | rfl
    · rw [if_pos rfl]
      simp only [iso2022_End.j0]
      by_cases ha : a = 0
      · subst ha; rfl
      · rw [show (a != 0) = true by simpa using ha, if_pos rfl, if_pos ⟨trivial, ha⟩]
    · rw [if_neg (by decide)]
      simp only [iso2022_End.j0, Bool.false_eq_true, if_false, if_true]
      rw [if_neg (show ¬ ((88 : Int) = 83 ∧ a ≠ 0) from fun x => absurd x.1 (by decide))]
      by_cases ha : a = 2
      · rw [if_pos ha, if_pos ⟨trivial, ha⟩]
      · rw [if_neg ha, if_neg (fun x => ha x.2)]
  · rw [if_neg h, if_neg h]
end Go.Proofs.Ytenmanionddamaa.Q
