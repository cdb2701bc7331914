/- Plain laws, continued: the law package's 'works' answers true. No conditions. -/
import Derived.Test.YtenmanionddamaaLHzb
import Derived.Test.YtenmanionddamaaLBytes
import Derived.Test.YtenmanionddamaaQdragomanlaw20a
namespace Go.Proofs.Ytenmanionddamaa.Q
open Go.RowKit Go.Proofs.YtenmanionddamaaW.PrintWords Go.Proofs.YtenmanionddamaaW.PrintLast
theorem hz_Get_tilde_bad (k : Nat) : hz_Get.f (k + 8) 0 0 0 0 [126, 65] = some (10, 1, 0, 0, 0, 0, 0, 0, 0) := by
  rw [hz_Get_head _ _ _ _ (.inl rfl)]
  simp only [hz_Get.j0]
  rw [if_pos (show 0 < (([126, 65] : List Int).length : Int) by decide), rd0, if_pos rfl, if_neg (by simp), rd0, show ((([126, 65] : List Int).length : Int) == 1) = false by decide]
  simp only [hz_Get.j1, Bool.false_eq_true, if_false, if_true, hz_Get.j4, show ((65 : Int) == 126) = false by decide, hz_Get.j5, show ((65 : Int) == 123) = false by decide, hz_Get.j6, show ((65 : Int) == 10) = false by decide, show ((0 : Int) = 1) = False by simp, hz_Get.j7]
theorem works20 (k : Nat) : dragomanlaw20_works.f (k + 8) = some true := by
  have hset : hzSet 0 12354 = (0, ⟨#[126, 123, 36, 34]⟩, 1, 0, 0, 0) := by
    have hp : placeOf gbRow 12354 = (4, 2, true) := by decide +kernel
    unfold hzSet
    rw [hp, if_neg (by decide), if_neg (by decide), if_pos (by decide), if_pos rfl, show wrap64 (32 + ((4 : Int), (2 : Int), true).1) % 256 = 36 by rw [w64' (by decide) (by decide)]; rfl, show wrap64 (32 + ((4 : Int), (2 : Int), true).2.1) % 256 = 34 by rw [w64' (by decide) (by decide)]; rfl]
    rfl
  unfold dragomanlaw20_works.f
  rw [hz_Set_eq (k + 6) 0 0 0 0 12354 ⟨.inl rfl, rfl, rfl, rfl⟩, hset]
  simp only [Option.bind_some]
  rw [hz_End_eq, show hzEnd 1 0 0 0 = (⟨#[126, 125]⟩, 0) by decide]
  simp only [Option.bind_some]
  rw [show (⟨#[126, 123, 36, 34]⟩ : ByteArray).toList = [126, 123, 36, 34] by rw [ByteArray.toList_eq], show (⟨#[126, 125]⟩ : ByteArray).toList = [126, 125] by rw [ByteArray.toList_eq], show constbytes.f (⟨#[126, 65]⟩ : ByteArray) = some [126, 65] by decide]
  simp only [Option.bind_some, if_true]
  rw [hz_Get_tilde_bad]
  rfl
end Go.Proofs.Ytenmanionddamaa.Q
