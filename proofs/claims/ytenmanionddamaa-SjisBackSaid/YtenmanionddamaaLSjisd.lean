/- Plain laws, continued: the law package's 'works' answers true. No conditions. -/
import Derived.Test.YtenmanionddamaaLSjisc
import Derived.Test.YtenmanionddamaaQdragomanlaw18a
namespace Go.Proofs.Ytenmanionddamaa.Q
open Go.RowKit Go.Proofs.YtenmanionddamaaW.PrintWords Go.Proofs.YtenmanionddamaaW.PrintLast
theorem strOfNums_toList (xs : List Int) : (strOfNums xs).toList = xs.map fun n => UInt8.ofNat n.toNat := by rw [ByteArray.toList_eq]; rfl
theorem works18 (k : Nat) : dragomanlaw18_works.f (k + 2) = some true := by
  unfold dragomanlaw18_works.f
  rw [sjis_Pack_eq, show packOf 94 94 = (239, 252, true) by decide]
  simp only [Option.bind_some]
  rw [sjis_Get_eq k [130, 160] (by decide), show sjisGet [130, 160] = (0, 2, 1, 12354, 0, 0, 0, 0, 0) by kernel_rfl, sjis_Set_eq k 65393 (by decide), show sjisSet 65393 = (0, strOfNums [177], 0, 0, 0, 0) by unfold sjisSet; rw [show halfByteOf 65393 = (177, true) by decide]; rfl]
  simp only [Option.bind_some]
  rw [strOfNums_toList]
  simp
end Go.Proofs.Ytenmanionddamaa.Q
