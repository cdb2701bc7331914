/- For every slice b of bytes, sjis.Get(b) equals the reference's Get(b), and b is left as it was. No conditions. -/
import Derived.Test.YtenmanionddamaaQdragomanlaw18SjisGetsa
import Derived.Test.YtenmanionddamaaLSjisc
namespace Go.Proofs.Ytenmanionddamaa.Pure
open Go.RowKit Go.Proofs.Ytenmanionddamaa.Q Go.Proofs.YtenmanionddamaaW.PrintWords Go.Proofs.YtenmanionddamaaW.PrintLast
theorem SjisGets : dragomanlaw18_SjisGets.Pure := by
  intro l hl hm hw
  refine ⟨10000 + 2, ?_⟩
  unfold dragomanlaw18_SjisGets.f
  simp only [Option.bind_some, List.nil_append, List.length_nil]
  rw [if_pos (by omega), sjis_Get_eq 10000 l hw, ref18_Get_eq 10000 l (by omega) hw]
  simp
end Go.Proofs.Ytenmanionddamaa.Pure
