/- Contracts of functions that the laws reach: each call answers what the plain function beside it answers. No conditions but those that each theorem states. (Written by a patched copy of the print, wip/gen/patch_print.py, over contracts of our own.) -/
import Derived.Test.YtenmanionddamaaProg
import Derived.Below
import Derived.Deep.Draws
import Derived.Deep.AppendLies
import Derived.Maps.AppendAt
import Derived.OwnWalk
import Derived.Laws.BytesArg
import Derived.Laws.MakeOwn
import Derived.Laws.OwnMore
import Derived.Deep.OwnRows
import Derived.Tactics
import Derived.Lib.ConvBytes
import Derived.Laws.Slices
import Derived.WalkKit
import Derived.KernelRfl
import Derived.RowKit3
import Derived.Deep.LoopGhost
import Derived.Deep.QuietTactic
import Derived.BigQuiet
import Derived.WideLaws
import Derived.Deep.DeepCutAuto
import Derived.Deep.CutBlock
import Derived.Deep.RegionHeld3
import Derived.Laws.Rows
import Derived.Lib.AppendStr
import Derived.ArgAppend
import Derived.Laws.IdiomCopy
import Derived.OrdersHeld
import Derived.Laws.BitsLemmas
import Derived.RowKit
import Derived.Test.YtenmanionddamaaXConv
import Derived.Test.YtenmanionddamaaWWords
import Derived.Test.YtenmanionddamaaWLast
import Derived.Test.YtenmanionddamaaWTab
import Derived.Test.YtenmanionddamaaWFour
import Derived.Test.YtenmanionddamaaWQPut
import Derived.Test.YtenmanionddamaaWApart
import Derived.Test.YtenmanionddamaaWArr
import Derived.Test.YtenmanionddamaaWZeros
import Derived.Test.YtenmanionddamaaWFoot
import Derived.Test.YtenmanionddamaaWKept
import Derived.Test.YtenmanionddamaaWShare
import Derived.Test.YtenmanionddamaaWN
import Derived.Test.YtenmanionddamaaWFootNe
import Derived.Test.YtenmanionddamaaWAt
import Derived.Test.YtenmanionddamaaWEqStruct
import Derived.Test.YtenmanionddamaaWRepsOne
import Derived.Test.YtenmanionddamaaWInv
import Derived.Test.YtenmanionddamaaWInvWords
import Derived.Test.YtenmanionddamaaWGuard
import Derived.Test.YtenmanionddamaaWNEv
import Derived.Test.YtenmanionddamaaWMore
namespace Go.Proofs.Ytenmanionddamaa.Q
open Go.RowKit Go.Proofs.YtenmanionddamaaW.PrintWords Go.Proofs.YtenmanionddamaaW.PrintLast Go.Proofs.YtenmanionddamaaW.PrintMore
attribute [local go_sem] max2_int min2_int max_two min_two max_three min_three max_four min_four   -- for this text's walks alone
set_option linter.unusedVariables false
set_option linter.unusedSimpArgs false



def errW : Option Int → Value
  | none => .nilIface
  | some c => .iface 0 (.int .i64 c)
theorem errW_none : errW none = .nilIface := rfl
theorem errW_some (c : Int) : errW (some c) = .iface 0 (.int .i64 c) := rfl

theorem info3 : (Try.prog.info? 3).map (fun i => (i.zero, i.size, i.bytes)) = some (some (.int .i64 0), 1, 8) := by kernel_rfl
theorem info5 : (Try.prog.info? 5).map (fun i => (i.zero, i.size, i.bytes)) = some (some (.int .u8 0), 1, 1) := by kernel_rfl
-- the values' own types

end Go.Proofs.Ytenmanionddamaa.Q
