/-
  No cell of these rows narrows 'for every input' (looked for: loops, veiled, ifaces, maps, wideKeys, modest, calm, conditions, laid).
  DERIVED. THE GIVEN ROWS OF THIS SEAT. 16 by the template 'for every input the law returns true; each argument reads behind the call as it read before'; 0 by the template 'total and deterministic' (their statements: YtenmanionddamaaTotals.lean).
  GIVEN WITH THE SEED: the statements are not yours to turn. If you find one false, say at which input.
  Laid BY PROGRAM, IN A SANDBOX (cutbox-rows.mjs): the forced cells as the released guide's own fill.sh prints them over the translation ee497c4a0b26b14f… (all of the seat's roots in one cut). By AI agents, Wed Nov 11 2026. No macro, syntax, notation, axiom, sorry.
-/
import Derived.Test.YtenmanionddamaaChecked
import GoSem.Claim
import GoSem.ClaimJoined
import GoSem.ClaimMapViews
import Derived.JoinedTies
import Derived.KernelRfl
namespace Go.Proofs.Ytenmanionddamaa
/- THE CELL 'sum', in the pinned program and in every row, IS THE sha256 OF THE DUMP (.gsa) THAT YtenmanionddamaaProg.lean LOADS. Nothing in Lean hashes anything: it is a label: what it is worth is what the hold of that sum in a sandbox is worth. -/
noncomputable def Try.pinned : Pinned := { name := "ytenmanionddamaa", sum := "ee497c4a0b26b14f95b04a617a32a3a02804d9e7eb90457a298bc60411511289", checked := Try.checked }
namespace Rows
def none {H : Type} : Left H := { results := [], args := [] }

/-- 'dragomanlaw18.SjisSets': WHATEVER THE INPUT: true; the input reads as it did. -/
def sjisSetsSpec : ChangeSpec := { name := "sjisSets", fn := fun _ => fun
  | [d] => { results := [.lit (.bool true)], args := [d] }
  | _ => none }
def sjisSetsRow : OpenClaim := { program := "ytenmanionddamaa", sum := "ee497c4a0b26b14f95b04a617a32a3a02804d9e7eb90457a298bc60411511289", func := "dragoman/dragomanlaw18.SjisSets", spec := "sjisSets", apart := false }
def SjisSetsSaid : Prop := sjisSetsRow.holds Try.pinned (OpenSpec.ofChange sjisSetsSpec)

/-- ITS FALSE NEIGHBOUR: 'it returns false'. Refute it at one input. -/
def sjisSetsWrong : ChangeSpec := { name := "sjisSets", fn := fun _ => fun
  | [d] => { results := [.lit (.bool false)], args := [d] }
  | _ => none }
def SjisSetsWrongFalsely : Prop := sjisSetsRow.holds Try.pinned (OpenSpec.ofChange sjisSetsWrong)

/-- 'dragomanlaw20.HzSets': WHATEVER THE INPUT: true; the input reads as it did. -/
def hzSetsSpec : ChangeSpec := { name := "hzSets", fn := fun _ => fun
  | [d1, d2] => { results := [.lit (.bool true)], args := [d1, d2] }
  | _ => none }
def hzSetsRow : OpenClaim := { program := "ytenmanionddamaa", sum := "ee497c4a0b26b14f95b04a617a32a3a02804d9e7eb90457a298bc60411511289", func := "dragoman/dragomanlaw20.HzSets", spec := "hzSets", apart := false }
def HzSetsSaid : Prop := hzSetsRow.holds Try.pinned (OpenSpec.ofChange hzSetsSpec)

/-- ITS FALSE NEIGHBOUR: 'it returns false'. Refute it at one input. -/
def hzSetsWrong : ChangeSpec := { name := "hzSets", fn := fun _ => fun
  | [d1, d2] => { results := [.lit (.bool false)], args := [d1, d2] }
  | _ => none }
def HzSetsWrongFalsely : Prop := hzSetsRow.holds Try.pinned (OpenSpec.ofChange hzSetsWrong)

/-- 'dragomanlaw18.SjisGets': WHATEVER THE INPUT: true; the input reads as it did. -/
def sjisGetsSpec : ChangeSpec := { name := "sjisGets", fn := fun _ => fun
  | [d] => { results := [.lit (.bool true)], args := [d] }
  | _ => none }
def sjisGetsRow : OpenClaim := { program := "ytenmanionddamaa", sum := "ee497c4a0b26b14f95b04a617a32a3a02804d9e7eb90457a298bc60411511289", func := "dragoman/dragomanlaw18.SjisGets", spec := "sjisGets", apart := false }
def SjisGetsSaid : Prop := sjisGetsRow.holds Try.pinned (OpenSpec.ofChange sjisGetsSpec)

/-- ITS FALSE NEIGHBOUR: 'it returns false'. Refute it at one input. -/
def sjisGetsWrong : ChangeSpec := { name := "sjisGets", fn := fun _ => fun
  | [d] => { results := [.lit (.bool false)], args := [d] }
  | _ => none }
def SjisGetsWrongFalsely : Prop := sjisGetsRow.holds Try.pinned (OpenSpec.ofChange sjisGetsWrong)

/-- 'dragomanlaw20.HzBack': WHATEVER THE INPUT: true; the input reads as it did. -/
def hzBackSpec : ChangeSpec := { name := "hzBack", fn := fun _ => fun
  | [d] => { results := [.lit (.bool true)], args := [d] }
  | _ => none }
def hzBackRow : OpenClaim := { program := "ytenmanionddamaa", sum := "ee497c4a0b26b14f95b04a617a32a3a02804d9e7eb90457a298bc60411511289", func := "dragoman/dragomanlaw20.HzBack", spec := "hzBack", apart := false }
def HzBackSaid : Prop := hzBackRow.holds Try.pinned (OpenSpec.ofChange hzBackSpec)

/-- ITS FALSE NEIGHBOUR: 'it returns false'. Refute it at one input. -/
def hzBackWrong : ChangeSpec := { name := "hzBack", fn := fun _ => fun
  | [d] => { results := [.lit (.bool false)], args := [d] }
  | _ => none }
def HzBackWrongFalsely : Prop := hzBackRow.holds Try.pinned (OpenSpec.ofChange hzBackWrong)

/-- 'dragomanlaw20.HzLines': WHATEVER THE INPUT: true; the input reads as it did. -/
def hzLinesSpec : ChangeSpec := { name := "hzLines", fn := fun _ => fun
  | [d] => { results := [.lit (.bool true)], args := [d] }
  | _ => none }
def hzLinesRow : OpenClaim := { program := "ytenmanionddamaa", sum := "ee497c4a0b26b14f95b04a617a32a3a02804d9e7eb90457a298bc60411511289", func := "dragoman/dragomanlaw20.HzLines", spec := "hzLines", apart := false }
def HzLinesSaid : Prop := hzLinesRow.holds Try.pinned (OpenSpec.ofChange hzLinesSpec)

/-- ITS FALSE NEIGHBOUR: 'it returns false'. Refute it at one input. -/
def hzLinesWrong : ChangeSpec := { name := "hzLines", fn := fun _ => fun
  | [d] => { results := [.lit (.bool false)], args := [d] }
  | _ => none }
def HzLinesWrongFalsely : Prop := hzLinesRow.holds Try.pinned (OpenSpec.ofChange hzLinesWrong)

/-- 'dragomanlaw20.HzPlain': WHATEVER THE INPUT: true; the input reads as it did. -/
def hzPlainSpec : ChangeSpec := { name := "hzPlain", fn := fun _ => fun
  | [d] => { results := [.lit (.bool true)], args := [d] }
  | _ => none }
def hzPlainRow : OpenClaim := { program := "ytenmanionddamaa", sum := "ee497c4a0b26b14f95b04a617a32a3a02804d9e7eb90457a298bc60411511289", func := "dragoman/dragomanlaw20.HzPlain", spec := "hzPlain", apart := false }
def HzPlainSaid : Prop := hzPlainRow.holds Try.pinned (OpenSpec.ofChange hzPlainSpec)

/-- ITS FALSE NEIGHBOUR: 'it returns false'. Refute it at one input. -/
def hzPlainWrong : ChangeSpec := { name := "hzPlain", fn := fun _ => fun
  | [d] => { results := [.lit (.bool false)], args := [d] }
  | _ => none }
def HzPlainWrongFalsely : Prop := hzPlainRow.holds Try.pinned (OpenSpec.ofChange hzPlainWrong)

/-- 'dragomanlaw18.SjisAll': WHATEVER THE INPUT: true; the input reads as it did. -/
def sjisAllSpec : ChangeSpec := { name := "sjisAll", fn := fun _ => fun
  | [d1, d2] => { results := [.lit (.bool true)], args := [d1, d2] }
  | _ => none }
def sjisAllRow : OpenClaim := { program := "ytenmanionddamaa", sum := "ee497c4a0b26b14f95b04a617a32a3a02804d9e7eb90457a298bc60411511289", func := "dragoman/dragomanlaw18.SjisAll", spec := "sjisAll", apart := false }
def SjisAllSaid : Prop := sjisAllRow.holds Try.pinned (OpenSpec.ofChange sjisAllSpec)

/-- ITS FALSE NEIGHBOUR: 'it returns false'. Refute it at one input. -/
def sjisAllWrong : ChangeSpec := { name := "sjisAll", fn := fun _ => fun
  | [d1, d2] => { results := [.lit (.bool false)], args := [d1, d2] }
  | _ => none }
def SjisAllWrongFalsely : Prop := sjisAllRow.holds Try.pinned (OpenSpec.ofChange sjisAllWrong)

/-- 'dragomanlaw18.SjisBack': WHATEVER THE INPUT: true; the input reads as it did. -/
def sjisBackSpec : ChangeSpec := { name := "sjisBack", fn := fun _ => fun
  | [d1, d2] => { results := [.lit (.bool true)], args := [d1, d2] }
  | _ => none }
def sjisBackRow : OpenClaim := { program := "ytenmanionddamaa", sum := "ee497c4a0b26b14f95b04a617a32a3a02804d9e7eb90457a298bc60411511289", func := "dragoman/dragomanlaw18.SjisBack", spec := "sjisBack", apart := false }
def SjisBackSaid : Prop := sjisBackRow.holds Try.pinned (OpenSpec.ofChange sjisBackSpec)

/-- ITS FALSE NEIGHBOUR: 'it returns false'. Refute it at one input. -/
def sjisBackWrong : ChangeSpec := { name := "sjisBack", fn := fun _ => fun
  | [d1, d2] => { results := [.lit (.bool false)], args := [d1, d2] }
  | _ => none }
def SjisBackWrongFalsely : Prop := sjisBackRow.holds Try.pinned (OpenSpec.ofChange sjisBackWrong)

/-- 'dragomanlaw18.SjisPlain': WHATEVER THE INPUT: true; the input reads as it did. -/
def sjisPlainSpec : ChangeSpec := { name := "sjisPlain", fn := fun _ => fun
  | [d1, d2] => { results := [.lit (.bool true)], args := [d1, d2] }
  | _ => none }
def sjisPlainRow : OpenClaim := { program := "ytenmanionddamaa", sum := "ee497c4a0b26b14f95b04a617a32a3a02804d9e7eb90457a298bc60411511289", func := "dragoman/dragomanlaw18.SjisPlain", spec := "sjisPlain", apart := false }
def SjisPlainSaid : Prop := sjisPlainRow.holds Try.pinned (OpenSpec.ofChange sjisPlainSpec)

/-- ITS FALSE NEIGHBOUR: 'it returns false'. Refute it at one input. -/
def sjisPlainWrong : ChangeSpec := { name := "sjisPlain", fn := fun _ => fun
  | [d1, d2] => { results := [.lit (.bool false)], args := [d1, d2] }
  | _ => none }
def SjisPlainWrongFalsely : Prop := sjisPlainRow.holds Try.pinned (OpenSpec.ofChange sjisPlainWrong)

/-- 'dragomanlaw21.Iso2022Gets': WHATEVER THE INPUT: true; the input reads as it did. -/
def iso2022GetsSpec : ChangeSpec := { name := "iso2022Gets", fn := fun _ => fun
  | [d1, d2, d3] => { results := [.lit (.bool true)], args := [d1, d2, d3] }
  | _ => none }
def iso2022GetsRow : OpenClaim := { program := "ytenmanionddamaa", sum := "ee497c4a0b26b14f95b04a617a32a3a02804d9e7eb90457a298bc60411511289", func := "dragoman/dragomanlaw21.Iso2022Gets", spec := "iso2022Gets", unfollowed := true, recurses := true, apart := false }
def Iso2022GetsSaid : Prop := iso2022GetsRow.holds Try.pinned (OpenSpec.ofChange iso2022GetsSpec)

/-- ITS FALSE NEIGHBOUR: 'it returns false'. Refute it at one input. -/
def iso2022GetsWrong : ChangeSpec := { name := "iso2022Gets", fn := fun _ => fun
  | [d1, d2, d3] => { results := [.lit (.bool false)], args := [d1, d2, d3] }
  | _ => none }
def Iso2022GetsWrongFalsely : Prop := iso2022GetsRow.holds Try.pinned (OpenSpec.ofChange iso2022GetsWrong)

/-- 'dragomanlaw21.Iso2022Sets': WHATEVER THE INPUT: true; the input reads as it did. -/
def iso2022SetsSpec : ChangeSpec := { name := "iso2022Sets", fn := fun _ => fun
  | [d1, d2, d3] => { results := [.lit (.bool true)], args := [d1, d2, d3] }
  | _ => none }
def iso2022SetsRow : OpenClaim := { program := "ytenmanionddamaa", sum := "ee497c4a0b26b14f95b04a617a32a3a02804d9e7eb90457a298bc60411511289", func := "dragoman/dragomanlaw21.Iso2022Sets", spec := "iso2022Sets", apart := false }
def Iso2022SetsSaid : Prop := iso2022SetsRow.holds Try.pinned (OpenSpec.ofChange iso2022SetsSpec)

/-- ITS FALSE NEIGHBOUR: 'it returns false'. Refute it at one input. -/
def iso2022SetsWrong : ChangeSpec := { name := "iso2022Sets", fn := fun _ => fun
  | [d1, d2, d3] => { results := [.lit (.bool false)], args := [d1, d2, d3] }
  | _ => none }
def Iso2022SetsWrongFalsely : Prop := iso2022SetsRow.holds Try.pinned (OpenSpec.ofChange iso2022SetsWrong)

/-- 'dragomanlaw21.Iso2022Cuts': WHATEVER THE INPUT: true; the input reads as it did. -/
def iso2022CutsSpec : ChangeSpec := { name := "iso2022Cuts", fn := fun _ => fun
  | [d1, d2, d3] => { results := [.lit (.bool true)], args := [d1, d2, d3] }
  | _ => none }
def iso2022CutsRow : OpenClaim := { program := "ytenmanionddamaa", sum := "ee497c4a0b26b14f95b04a617a32a3a02804d9e7eb90457a298bc60411511289", func := "dragoman/dragomanlaw21.Iso2022Cuts", spec := "iso2022Cuts", unfollowed := true, recurses := true, apart := false }
def Iso2022CutsSaid : Prop := iso2022CutsRow.holds Try.pinned (OpenSpec.ofChange iso2022CutsSpec)

/-- ITS FALSE NEIGHBOUR: 'it returns false'. Refute it at one input. -/
def iso2022CutsWrong : ChangeSpec := { name := "iso2022Cuts", fn := fun _ => fun
  | [d1, d2, d3] => { results := [.lit (.bool false)], args := [d1, d2, d3] }
  | _ => none }
def Iso2022CutsWrongFalsely : Prop := iso2022CutsRow.holds Try.pinned (OpenSpec.ofChange iso2022CutsWrong)

/-- 'dragomanlaw21.Iso2022Plain': WHATEVER THE INPUT: true; the input reads as it did. -/
def iso2022PlainSpec : ChangeSpec := { name := "iso2022Plain", fn := fun _ => fun
  | [d] => { results := [.lit (.bool true)], args := [d] }
  | _ => none }
def iso2022PlainRow : OpenClaim := { program := "ytenmanionddamaa", sum := "ee497c4a0b26b14f95b04a617a32a3a02804d9e7eb90457a298bc60411511289", func := "dragoman/dragomanlaw21.Iso2022Plain", spec := "iso2022Plain", unfollowed := true, recurses := true, apart := false }
def Iso2022PlainSaid : Prop := iso2022PlainRow.holds Try.pinned (OpenSpec.ofChange iso2022PlainSpec)

/-- ITS FALSE NEIGHBOUR: 'it returns false'. Refute it at one input. -/
def iso2022PlainWrong : ChangeSpec := { name := "iso2022Plain", fn := fun _ => fun
  | [d] => { results := [.lit (.bool false)], args := [d] }
  | _ => none }
def Iso2022PlainWrongFalsely : Prop := iso2022PlainRow.holds Try.pinned (OpenSpec.ofChange iso2022PlainWrong)

/-- 'dragomanlaw21.Iso2022Back': WHATEVER THE INPUT: true; the input reads as it did. -/
def iso2022BackSpec : ChangeSpec := { name := "iso2022Back", fn := fun _ => fun
  | [d1, d2] => { results := [.lit (.bool true)], args := [d1, d2] }
  | _ => none }
def iso2022BackRow : OpenClaim := { program := "ytenmanionddamaa", sum := "ee497c4a0b26b14f95b04a617a32a3a02804d9e7eb90457a298bc60411511289", func := "dragoman/dragomanlaw21.Iso2022Back", spec := "iso2022Back", unfollowed := true, recurses := true, apart := false }
def Iso2022BackSaid : Prop := iso2022BackRow.holds Try.pinned (OpenSpec.ofChange iso2022BackSpec)

/-- ITS FALSE NEIGHBOUR: 'it returns false'. Refute it at one input. -/
def iso2022BackWrong : ChangeSpec := { name := "iso2022Back", fn := fun _ => fun
  | [d1, d2] => { results := [.lit (.bool false)], args := [d1, d2] }
  | _ => none }
def Iso2022BackWrongFalsely : Prop := iso2022BackRow.holds Try.pinned (OpenSpec.ofChange iso2022BackWrong)

/-- 'dragomanlaw17.EucPairs': WHATEVER THE INPUT: true; the input reads as it did. -/
def eucPairsSpec : ChangeSpec := { name := "eucPairs", fn := fun _ => fun
  | [d1, d2] => { results := [.lit (.bool true)], args := [d1, d2] }
  | _ => none }
def eucPairsRow : OpenClaim := { program := "ytenmanionddamaa", sum := "ee497c4a0b26b14f95b04a617a32a3a02804d9e7eb90457a298bc60411511289", func := "dragoman/dragomanlaw17.EucPairs", spec := "eucPairs", unfollowed := true, recurses := true, apart := false }
def EucPairsSaid : Prop := eucPairsRow.holds Try.pinned (OpenSpec.ofChange eucPairsSpec)

/-- ITS FALSE NEIGHBOUR: 'it returns false'. Refute it at one input. -/
def eucPairsWrong : ChangeSpec := { name := "eucPairs", fn := fun _ => fun
  | [d1, d2] => { results := [.lit (.bool false)], args := [d1, d2] }
  | _ => none }
def EucPairsWrongFalsely : Prop := eucPairsRow.holds Try.pinned (OpenSpec.ofChange eucPairsWrong)

/-- 'dragomanlaw17.EucPlain': WHATEVER THE INPUT: true; the input reads as it did. -/
def eucPlainSpec : ChangeSpec := { name := "eucPlain", fn := fun _ => fun
  | [d1, d2, d3] => { results := [.lit (.bool true)], args := [d1, d2, d3] }
  | _ => none }
def eucPlainRow : OpenClaim := { program := "ytenmanionddamaa", sum := "ee497c4a0b26b14f95b04a617a32a3a02804d9e7eb90457a298bc60411511289", func := "dragoman/dragomanlaw17.EucPlain", spec := "eucPlain", unfollowed := true, recurses := true, apart := false }
def EucPlainSaid : Prop := eucPlainRow.holds Try.pinned (OpenSpec.ofChange eucPlainSpec)

/-- ITS FALSE NEIGHBOUR: 'it returns false'. Refute it at one input. -/
def eucPlainWrong : ChangeSpec := { name := "eucPlain", fn := fun _ => fun
  | [d1, d2, d3] => { results := [.lit (.bool false)], args := [d1, d2, d3] }
  | _ => none }
def EucPlainWrongFalsely : Prop := eucPlainRow.holds Try.pinned (OpenSpec.ofChange eucPlainWrong)

/- THE SECOND FORM. 'bulk': how many values and letters a reading holds, each counted each time it is reached (what is shared counts as often as it is met; a slice's spare places count too). A statement '..UptoSaid' is the law's where the arguments, and the package variables that the reading takes, are together of bulk at most 1048576: NARROWER than '..Said'. Prove '..Said' where nothing that the law and all that it calls make is longer than what came in: it says more and counts as full. Else prove '..UptoSaid'. A law counts once. -/
mutual
def uptoBulk {H : Type} : DataW H → Nat
  | .lit (.string bytes) => bytes.length + 1
  | .lit _ => 1
  | .nil => 1
  | .ptr d => uptoBulk d + 1
  | .slice elems spare => uptoBulkAll elems + uptoBulkAll spare + 1
  | .agg parts => uptoBulkAll parts + 1
  | .iface _ d => uptoBulk d + 1
  | .map entries => uptoBulkEntries entries + 1
  | .held _ => 1
def uptoBulkAll {H : Type} : List (DataW H) → Nat
  | [] => 0
  | d :: r => uptoBulk d + uptoBulkAll r
def uptoBulkEntries {H : Type} : List (Lit × DataW H) → Nat
  | [] => 0
  | x :: r => uptoBulkEntry x + uptoBulkEntries r
def uptoBulkEntry {H : Type} : Lit × DataW H → Nat
  | (.string bytes, d) => bytes.length + uptoBulk d + 1
  | (_, d) => uptoBulk d + 1
 end
def uptoSmall : (H : Type) → List (DataW H) → Bool := fun _ ds => decide (uptoBulkAll ds ≤ 1048576)
def OpenSpec.upto (s : _root_.Go.ChangeSpec) : _root_.Go.OpenSpec := { _root_.Go.OpenSpec.ofChange s with cond := some uptoSmall }

/-- 'dragomanlaw18.SjisSets', WHERE WHAT IT READS IS OF BULK AT MOST 1048576: true; the input reads as it did. -/
def sjisSetsUptoRow : OpenClaim := { program := "ytenmanionddamaa", sum := "ee497c4a0b26b14f95b04a617a32a3a02804d9e7eb90457a298bc60411511289", func := "dragoman/dragomanlaw18.SjisSets", spec := "sjisSets", apart := false, narrowed := true }
def SjisSetsUptoSaid : Prop := sjisSetsUptoRow.holds Try.pinned (OpenSpec.upto sjisSetsSpec)

/-- 'dragomanlaw20.HzSets', WHERE WHAT IT READS IS OF BULK AT MOST 1048576: true; the input reads as it did. -/
def hzSetsUptoRow : OpenClaim := { program := "ytenmanionddamaa", sum := "ee497c4a0b26b14f95b04a617a32a3a02804d9e7eb90457a298bc60411511289", func := "dragoman/dragomanlaw20.HzSets", spec := "hzSets", apart := false, narrowed := true }
def HzSetsUptoSaid : Prop := hzSetsUptoRow.holds Try.pinned (OpenSpec.upto hzSetsSpec)

/-- 'dragomanlaw18.SjisGets', WHERE WHAT IT READS IS OF BULK AT MOST 1048576: true; the input reads as it did. -/
def sjisGetsUptoRow : OpenClaim := { program := "ytenmanionddamaa", sum := "ee497c4a0b26b14f95b04a617a32a3a02804d9e7eb90457a298bc60411511289", func := "dragoman/dragomanlaw18.SjisGets", spec := "sjisGets", apart := false, narrowed := true }
def SjisGetsUptoSaid : Prop := sjisGetsUptoRow.holds Try.pinned (OpenSpec.upto sjisGetsSpec)

/-- 'dragomanlaw20.HzBack', WHERE WHAT IT READS IS OF BULK AT MOST 1048576: true; the input reads as it did. -/
def hzBackUptoRow : OpenClaim := { program := "ytenmanionddamaa", sum := "ee497c4a0b26b14f95b04a617a32a3a02804d9e7eb90457a298bc60411511289", func := "dragoman/dragomanlaw20.HzBack", spec := "hzBack", apart := false, narrowed := true }
def HzBackUptoSaid : Prop := hzBackUptoRow.holds Try.pinned (OpenSpec.upto hzBackSpec)

/-- 'dragomanlaw20.HzLines', WHERE WHAT IT READS IS OF BULK AT MOST 1048576: true; the input reads as it did. -/
def hzLinesUptoRow : OpenClaim := { program := "ytenmanionddamaa", sum := "ee497c4a0b26b14f95b04a617a32a3a02804d9e7eb90457a298bc60411511289", func := "dragoman/dragomanlaw20.HzLines", spec := "hzLines", apart := false, narrowed := true }
def HzLinesUptoSaid : Prop := hzLinesUptoRow.holds Try.pinned (OpenSpec.upto hzLinesSpec)

/-- 'dragomanlaw20.HzPlain', WHERE WHAT IT READS IS OF BULK AT MOST 1048576: true; the input reads as it did. -/
def hzPlainUptoRow : OpenClaim := { program := "ytenmanionddamaa", sum := "ee497c4a0b26b14f95b04a617a32a3a02804d9e7eb90457a298bc60411511289", func := "dragoman/dragomanlaw20.HzPlain", spec := "hzPlain", apart := false, narrowed := true }
def HzPlainUptoSaid : Prop := hzPlainUptoRow.holds Try.pinned (OpenSpec.upto hzPlainSpec)

/-- 'dragomanlaw18.SjisAll', WHERE WHAT IT READS IS OF BULK AT MOST 1048576: true; the input reads as it did. -/
def sjisAllUptoRow : OpenClaim := { program := "ytenmanionddamaa", sum := "ee497c4a0b26b14f95b04a617a32a3a02804d9e7eb90457a298bc60411511289", func := "dragoman/dragomanlaw18.SjisAll", spec := "sjisAll", apart := false, narrowed := true }
def SjisAllUptoSaid : Prop := sjisAllUptoRow.holds Try.pinned (OpenSpec.upto sjisAllSpec)

/-- 'dragomanlaw18.SjisBack', WHERE WHAT IT READS IS OF BULK AT MOST 1048576: true; the input reads as it did. -/
def sjisBackUptoRow : OpenClaim := { program := "ytenmanionddamaa", sum := "ee497c4a0b26b14f95b04a617a32a3a02804d9e7eb90457a298bc60411511289", func := "dragoman/dragomanlaw18.SjisBack", spec := "sjisBack", apart := false, narrowed := true }
def SjisBackUptoSaid : Prop := sjisBackUptoRow.holds Try.pinned (OpenSpec.upto sjisBackSpec)

/-- 'dragomanlaw18.SjisPlain', WHERE WHAT IT READS IS OF BULK AT MOST 1048576: true; the input reads as it did. -/
def sjisPlainUptoRow : OpenClaim := { program := "ytenmanionddamaa", sum := "ee497c4a0b26b14f95b04a617a32a3a02804d9e7eb90457a298bc60411511289", func := "dragoman/dragomanlaw18.SjisPlain", spec := "sjisPlain", apart := false, narrowed := true }
def SjisPlainUptoSaid : Prop := sjisPlainUptoRow.holds Try.pinned (OpenSpec.upto sjisPlainSpec)

/-- 'dragomanlaw21.Iso2022Gets', WHERE WHAT IT READS IS OF BULK AT MOST 1048576: true; the input reads as it did. -/
def iso2022GetsUptoRow : OpenClaim := { program := "ytenmanionddamaa", sum := "ee497c4a0b26b14f95b04a617a32a3a02804d9e7eb90457a298bc60411511289", func := "dragoman/dragomanlaw21.Iso2022Gets", spec := "iso2022Gets", unfollowed := true, recurses := true, apart := false, narrowed := true }
def Iso2022GetsUptoSaid : Prop := iso2022GetsUptoRow.holds Try.pinned (OpenSpec.upto iso2022GetsSpec)

/-- 'dragomanlaw21.Iso2022Sets', WHERE WHAT IT READS IS OF BULK AT MOST 1048576: true; the input reads as it did. -/
def iso2022SetsUptoRow : OpenClaim := { program := "ytenmanionddamaa", sum := "ee497c4a0b26b14f95b04a617a32a3a02804d9e7eb90457a298bc60411511289", func := "dragoman/dragomanlaw21.Iso2022Sets", spec := "iso2022Sets", apart := false, narrowed := true }
def Iso2022SetsUptoSaid : Prop := iso2022SetsUptoRow.holds Try.pinned (OpenSpec.upto iso2022SetsSpec)

/-- 'dragomanlaw21.Iso2022Cuts', WHERE WHAT IT READS IS OF BULK AT MOST 1048576: true; the input reads as it did. -/
def iso2022CutsUptoRow : OpenClaim := { program := "ytenmanionddamaa", sum := "ee497c4a0b26b14f95b04a617a32a3a02804d9e7eb90457a298bc60411511289", func := "dragoman/dragomanlaw21.Iso2022Cuts", spec := "iso2022Cuts", unfollowed := true, recurses := true, apart := false, narrowed := true }
def Iso2022CutsUptoSaid : Prop := iso2022CutsUptoRow.holds Try.pinned (OpenSpec.upto iso2022CutsSpec)

/-- 'dragomanlaw21.Iso2022Plain', WHERE WHAT IT READS IS OF BULK AT MOST 1048576: true; the input reads as it did. -/
def iso2022PlainUptoRow : OpenClaim := { program := "ytenmanionddamaa", sum := "ee497c4a0b26b14f95b04a617a32a3a02804d9e7eb90457a298bc60411511289", func := "dragoman/dragomanlaw21.Iso2022Plain", spec := "iso2022Plain", unfollowed := true, recurses := true, apart := false, narrowed := true }
def Iso2022PlainUptoSaid : Prop := iso2022PlainUptoRow.holds Try.pinned (OpenSpec.upto iso2022PlainSpec)

/-- 'dragomanlaw21.Iso2022Back', WHERE WHAT IT READS IS OF BULK AT MOST 1048576: true; the input reads as it did. -/
def iso2022BackUptoRow : OpenClaim := { program := "ytenmanionddamaa", sum := "ee497c4a0b26b14f95b04a617a32a3a02804d9e7eb90457a298bc60411511289", func := "dragoman/dragomanlaw21.Iso2022Back", spec := "iso2022Back", unfollowed := true, recurses := true, apart := false, narrowed := true }
def Iso2022BackUptoSaid : Prop := iso2022BackUptoRow.holds Try.pinned (OpenSpec.upto iso2022BackSpec)

/-- 'dragomanlaw17.EucPairs', WHERE WHAT IT READS IS OF BULK AT MOST 1048576: true; the input reads as it did. -/
def eucPairsUptoRow : OpenClaim := { program := "ytenmanionddamaa", sum := "ee497c4a0b26b14f95b04a617a32a3a02804d9e7eb90457a298bc60411511289", func := "dragoman/dragomanlaw17.EucPairs", spec := "eucPairs", unfollowed := true, recurses := true, apart := false, narrowed := true }
def EucPairsUptoSaid : Prop := eucPairsUptoRow.holds Try.pinned (OpenSpec.upto eucPairsSpec)

/-- 'dragomanlaw17.EucPlain', WHERE WHAT IT READS IS OF BULK AT MOST 1048576: true; the input reads as it did. -/
def eucPlainUptoRow : OpenClaim := { program := "ytenmanionddamaa", sum := "ee497c4a0b26b14f95b04a617a32a3a02804d9e7eb90457a298bc60411511289", func := "dragoman/dragomanlaw17.EucPlain", spec := "eucPlain", unfollowed := true, recurses := true, apart := false, narrowed := true }
def EucPlainUptoSaid : Prop := eucPlainUptoRow.holds Try.pinned (OpenSpec.upto eucPlainSpec)

end Rows
end Go.Proofs.Ytenmanionddamaa
