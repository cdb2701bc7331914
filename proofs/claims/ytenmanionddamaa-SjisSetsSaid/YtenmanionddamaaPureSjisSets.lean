/- For every 32-bit number u, sjis.Set(u) equals the reference's Set(u). No conditions. -/
import Derived.Test.YtenmanionddamaaQdragomanlaw18SjisSetsa
import Derived.Test.YtenmanionddamaaLSjisc
namespace Go.Proofs.Ytenmanionddamaa.Pure
open Go.RowKit Go.Proofs.Ytenmanionddamaa.Q Go.Proofs.YtenmanionddamaaW.PrintWords Go.Proofs.YtenmanionddamaaW.PrintLast
theorem SjisSets : dragomanlaw18_SjisSets.Pure := by
  intro u hu
  refine ⟨998 + 2, ?_⟩
  unfold dragomanlaw18_SjisSets.f
  rw [sjis_Set_eq 998 u hu, ref18_Set_eq 998 u (by omega)]
  simp
end Go.Proofs.Ytenmanionddamaa.Pure
