/- Plain law: a line feed within a stretch leads outside, whatever was there. No conditions but those that the statement names. -/
import Derived.Test.YtenmanionddamaaQdragomanlaw20HzLinesa
import Derived.Test.YtenmanionddamaaLHzd
namespace Go.Proofs.Ytenmanionddamaa.Pure
open Go.RowKit Go.Proofs.Ytenmanionddamaa.Q Go.Proofs.YtenmanionddamaaW.PrintWords Go.Proofs.YtenmanionddamaaW.PrintLast
theorem HzLines : dragomanlaw20_HzLines.Pure := by
  intro l0 _ hl _
  refine ⟨0 + 8, ?_⟩
  unfold dragomanlaw20_HzLines.f
  have ha : appconst.f (⟨#[10]⟩ : ByteArray) l0 = some (10 :: l0) := by
    unfold appconst.f
    rw [show (⟨#[10]⟩ : ByteArray).size = 1 from rfl, if_pos (by omega), show bytesOf (⟨#[10]⟩ : ByteArray) = [10] by decide]
    rfl
  rw [works20, ha]
  simp only [Option.bind_some, if_true]
  rw [hz_Get_line (5 + 0), hz_Get_plain (5 + 0) 10 l0 (by decide) (by decide) (by decide)]
  rfl
end Go.Proofs.Ytenmanionddamaa.Pure
