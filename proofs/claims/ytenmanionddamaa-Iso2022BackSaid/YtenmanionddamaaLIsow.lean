/- Plain laws: the law package's 'works' answers true. Conditions: each theorem states its own. -/
import Derived.Test.YtenmanionddamaaQdragomanlaw21a
import Derived.Test.YtenmanionddamaaLIso
namespace Go.Proofs.Ytenmanionddamaa.Q
open Go.RowKit Go.Proofs.YtenmanionddamaaW.PrintWords Go.Proofs.YtenmanionddamaaW.PrintLast
theorem Get_bad (k : Nat) : iso2022_Get.f (8 + k) 83 0 0 0 0 [27, 41] = some (10, 1, 0, 0, 0, 0, 0, 0, 0) := by
  induction k with
  | zero =>
    show iso2022_Get.f 8 83 0 0 0 0 [27, 41] = some (10, 1, 0, 0, 0, 0, 0, 0, 0)
    kernel_rfl
  | succ k ih => exact iso2022_Get.mono _ _ _ _ _ _ (8 + k) _ ih
theorem works21 (k : Nat) : dragomanlaw21_works.f (k + 8) = some true := by
  unfold dragomanlaw21_works.f
  rw [iso_Set_eq (k + 5) 83 12354 0 0 0 0 (.inl rfl) ⟨by decide, by decide, rfl, rfl, rfl⟩ (by decide) (by decide), iso_Set_eq (k + 5) 88 44032 0 0 0 0 (.inr rfl) ⟨by decide, by decide, rfl, rfl, rfl⟩ (by decide) (by decide), Nat.add_comm k 8, Get_bad]
  have h1 : isoSet 83 0 12354 = (0, ⟨#[27, 36, 66, 36, 34]⟩, 2, 0, 0, 0) := by decide +kernel
  have h2 : isoSet 88 0 44032 = (0, ⟨#[27, 36, 41, 67, 14, 48, 33]⟩, 2, 0, 0, 0) := by decide +kernel
  rw [h1, h2]
  simp only [Option.bind_some]
  rw [ByteArray.toList_eq, ByteArray.toList_eq]
  rfl
end Go.Proofs.Ytenmanionddamaa.Q
