/- Plain laws of iso2022: which kinds and states it takes. Conditions: each theorem states its own. -/
import Derived.Test.YtenmanionddamaaQiso2022a
import Derived.Test.YtenmanionddamaaLW
import Derived.OpenShut
namespace Go.Proofs.Ytenmanionddamaa.Q
open Go.RowKit Go.Proofs.YtenmanionddamaaW.PrintWords Go.Proofs.YtenmanionddamaaW.PrintLast
set_option linter.unusedVariables false
set_option linter.unusedSimpArgs false
theorem str_size (l : List Int) : (strOfNums l).size = l.length := by simp [strOfNums, ByteArray.size]
theorem empty_app (b : ByteArray) : (⟨#[]⟩ : ByteArray) ++ b = b := by
  apply ByteArray.ext; simp
theorem app_size (a b : ByteArray) : (a ++ b).size = a.size + b.size := ByteArray.size_append
/-- a kind of this layer -/
def isoHas (n : Int) : Prop := n = 83 ∨ n = 88
instance (n : Int) : Decidable (isoHas n) := by unfold isoHas; infer_instance
/-- a state of it -/
def isoFit (a b c d : Int) : Prop := 0 ≤ a ∧ a ≤ 2 ∧ b = 0 ∧ c = 0 ∧ d = 0
instance (a b c d : Int) : Decidable (isoFit a b c d) := by unfold isoFit; infer_instance
def isoLook (n a b c d : Int) : Int := if isoHas n then (if isoFit a b c d then 0 else 7) else 5
theorem iso_Has_eq (n : Int) : iso2022_Has.f n = some (decide (isoHas n)) := by
  show iso2022_Has.f n = some (decide (n = 83 ∨ n = 88))
  unfold iso2022_Has.f
  by_cases h : n = 83
  · rw [if_pos h, decide_eq_true (show n = 83 ∨ n = 88 from .inl h)]
  · rw [if_neg h]
    congr 1
    rw [Bool.eq_iff_iff, decide_eq_true_iff, beq_iff_eq]
    omega
theorem iso_look_eq (n a b c d : Int) : iso2022_look.f n a b c d = some (isoLook n a b c d) := by
  unfold iso2022_look.f isoLook
  rw [iso_Has_eq]
  simp only [Option.bind_some]
  by_cases h : isoHas n
  · rw [decide_eq_true h, if_pos rfl, if_pos h]
    by_cases h1 : a < 0
    · rw [if_pos h1, if_neg (fun x => by have := x.1; omega)]
    rw [if_neg h1]
    by_cases h2 : a > 2
    · rw [if_pos h2, if_neg (fun x => by have := x.2.1; omega)]
    rw [if_neg h2]
    by_cases h3 : (!(b == 0) || (!(c == 0) || (!(d == 0)))) = true
    · rw [if_pos h3, if_neg (fun x => by obtain ⟨_, _, rfl, rfl, rfl⟩ := x; simp at h3)]
    · rw [if_neg h3, if_pos]
      simp at h3
      exact ⟨by omega, by omega, h3.1, h3.2.1, h3.2.2⟩
  · rw [decide_eq_false h, if_neg (by decide), if_neg h]
theorem isoLook_fit {n a b c d : Int} (h : isoHas n) (hf : isoFit a b c d) : isoLook n a b c d = 0 := by unfold isoLook; rw [if_pos h, if_pos hf]
end Go.Proofs.Ytenmanionddamaa.Q
