/-
  No cell of these rows narrows 'for every input' (looked for: loops, veiled, ifaces, maps, wideKeys, modest, calm, conditions, laid).
  DERIVED. THE GIVEN ROWS OF THIS SEAT. 16 by the template 'for every input the law returns true; each argument reads behind the call as it read before'; 0 by the template 'total and deterministic' (their statements: YtflooghnoljpcaaTotals.lean).
  GIVEN WITH THE SEED: the statements are not yours to turn. If you find one false, say at which input.
  Laid BY PROGRAM, IN A SANDBOX (cutbox-rows.mjs): the forced cells as the released guide's own fill.sh prints them over the translation 7316ac08d44c9807… (all of the seat's roots in one cut). By AI agents, Wed Nov 11 2026. No macro, syntax, notation, axiom, sorry.
-/
import Derived.Test.YtflooghnoljpcaaChecked
import GoSem.Claim
import GoSem.ClaimJoined
import GoSem.ClaimMapViews
import Derived.JoinedTies
import Derived.KernelRfl
namespace Go.Proofs.Ytflooghnoljpcaa
/- THE CELL 'sum', in the pinned program and in every row, IS THE sha256 OF THE DUMP (.gsa) THAT YtflooghnoljpcaaProg.lean LOADS. Nothing in Lean hashes anything: it is a label: what it is worth is what the hold of that sum in a sandbox is worth. -/
noncomputable def Try.pinned : Pinned := { name := "ytflooghnoljpcaa", sum := "7316ac08d44c98076d8b9f9b40823c0b027cc11b767535486b84601c8e4f961e", checked := Try.checked }
namespace Rows
def none {H : Type} : Left H := { results := [], args := [] }

/-- 'ordeallaw16.RelOrders': WHATEVER THE INPUT: true; the input reads as it did. -/
def relOrdersSpec : ChangeSpec := { name := "relOrders", fn := fun _ => fun
  | [d1, d2] => { results := [.lit (.bool true)], args := [d1, d2] }
  | _ => none }
def relOrdersRow : OpenClaim := { program := "ytflooghnoljpcaa", sum := "7316ac08d44c98076d8b9f9b40823c0b027cc11b767535486b84601c8e4f961e", func := "ordeal/ordeallaw16.RelOrders", spec := "relOrders", plainKeys := false, apart := false }
def RelOrdersSaid : Prop := relOrdersRow.holds Try.pinned (OpenSpec.ofChange relOrdersSpec)

/-- ITS FALSE NEIGHBOUR: 'it returns false'. Refute it at one input. -/
def relOrdersWrong : ChangeSpec := { name := "relOrders", fn := fun _ => fun
  | [d1, d2] => { results := [.lit (.bool false)], args := [d1, d2] }
  | _ => none }
def RelOrdersWrongFalsely : Prop := relOrdersRow.holds Try.pinned (OpenSpec.ofChange relOrdersWrong)

/-- 'ordeallaw16.RelSets': WHATEVER THE INPUT: true; the input reads as it did. -/
def relSetsSpec : ChangeSpec := { name := "relSets", fn := fun _ => fun
  | [d1, d2, d3, d4] => { results := [.lit (.bool true)], args := [d1, d2, d3, d4] }
  | _ => none }
def relSetsRow : OpenClaim := { program := "ytflooghnoljpcaa", sum := "7316ac08d44c98076d8b9f9b40823c0b027cc11b767535486b84601c8e4f961e", func := "ordeal/ordeallaw16.RelSets", spec := "relSets", plainKeys := false, apart := false }
def RelSetsSaid : Prop := relSetsRow.holds Try.pinned (OpenSpec.ofChange relSetsSpec)

/-- ITS FALSE NEIGHBOUR: 'it returns false'. Refute it at one input. -/
def relSetsWrong : ChangeSpec := { name := "relSets", fn := fun _ => fun
  | [d1, d2, d3, d4] => { results := [.lit (.bool false)], args := [d1, d2, d3, d4] }
  | _ => none }
def RelSetsWrongFalsely : Prop := relSetsRow.holds Try.pinned (OpenSpec.ofChange relSetsWrong)

/-- 'ordeallaw16.RelLaws': WHATEVER THE INPUT: true; the input reads as it did. -/
def relLawsSpec : ChangeSpec := { name := "relLaws", fn := fun _ => fun
  | [d1, d2] => { results := [.lit (.bool true)], args := [d1, d2] }
  | _ => none }
def relLawsRow : OpenClaim := { program := "ytflooghnoljpcaa", sum := "7316ac08d44c98076d8b9f9b40823c0b027cc11b767535486b84601c8e4f961e", func := "ordeal/ordeallaw16.RelLaws", spec := "relLaws", plainKeys := false, apart := false }
def RelLawsSaid : Prop := relLawsRow.holds Try.pinned (OpenSpec.ofChange relLawsSpec)

/-- ITS FALSE NEIGHBOUR: 'it returns false'. Refute it at one input. -/
def relLawsWrong : ChangeSpec := { name := "relLaws", fn := fun _ => fun
  | [d1, d2] => { results := [.lit (.bool false)], args := [d1, d2] }
  | _ => none }
def RelLawsWrongFalsely : Prop := relLawsRow.holds Try.pinned (OpenSpec.ofChange relLawsWrong)

/-- 'ordeallaw16.RelPairs': WHATEVER THE INPUT: true; the input reads as it did. -/
def relPairsSpec : ChangeSpec := { name := "relPairs", fn := fun _ => fun
  | [d1, d2, d3, d4] => { results := [.lit (.bool true)], args := [d1, d2, d3, d4] }
  | _ => none }
def relPairsRow : OpenClaim := { program := "ytflooghnoljpcaa", sum := "7316ac08d44c98076d8b9f9b40823c0b027cc11b767535486b84601c8e4f961e", func := "ordeal/ordeallaw16.RelPairs", spec := "relPairs", plainKeys := false, apart := false }
def RelPairsSaid : Prop := relPairsRow.holds Try.pinned (OpenSpec.ofChange relPairsSpec)

/-- ITS FALSE NEIGHBOUR: 'it returns false'. Refute it at one input. -/
def relPairsWrong : ChangeSpec := { name := "relPairs", fn := fun _ => fun
  | [d1, d2, d3, d4] => { results := [.lit (.bool false)], args := [d1, d2, d3, d4] }
  | _ => none }
def RelPairsWrongFalsely : Prop := relPairsRow.holds Try.pinned (OpenSpec.ofChange relPairsWrong)

/-- 'ordeallaw08.LitmusParts': WHATEVER THE INPUT: true; the input reads as it did. -/
def litmusPartsSpec : ChangeSpec := { name := "litmusParts", fn := fun _ => fun
  | [d1, d2] => { results := [.lit (.bool true)], args := [d1, d2] }
  | _ => none }
def litmusPartsRow : OpenClaim := { program := "ytflooghnoljpcaa", sum := "7316ac08d44c98076d8b9f9b40823c0b027cc11b767535486b84601c8e4f961e", func := "ordeal/ordeallaw08.LitmusParts", spec := "litmusParts", plainKeys := false, apart := false }
def LitmusPartsSaid : Prop := litmusPartsRow.holds Try.pinned (OpenSpec.ofChange litmusPartsSpec)

/-- ITS FALSE NEIGHBOUR: 'it returns false'. Refute it at one input. -/
def litmusPartsWrong : ChangeSpec := { name := "litmusParts", fn := fun _ => fun
  | [d1, d2] => { results := [.lit (.bool false)], args := [d1, d2] }
  | _ => none }
def LitmusPartsWrongFalsely : Prop := litmusPartsRow.holds Try.pinned (OpenSpec.ofChange litmusPartsWrong)

/-- 'ordeallaw13.FlowReckons': WHATEVER THE INPUT: true; the input reads as it did. -/
def flowReckonsSpec : ChangeSpec := { name := "flowReckons", fn := fun _ => fun
  | [d1, d2, d3] => { results := [.lit (.bool true)], args := [d1, d2, d3] }
  | _ => none }
def flowReckonsRow : OpenClaim := { program := "ytflooghnoljpcaa", sum := "7316ac08d44c98076d8b9f9b40823c0b027cc11b767535486b84601c8e4f961e", func := "ordeal/ordeallaw13.FlowReckons", spec := "flowReckons", plainKeys := false, apart := false }
def FlowReckonsSaid : Prop := flowReckonsRow.holds Try.pinned (OpenSpec.ofChange flowReckonsSpec)

/-- ITS FALSE NEIGHBOUR: 'it returns false'. Refute it at one input. -/
def flowReckonsWrong : ChangeSpec := { name := "flowReckons", fn := fun _ => fun
  | [d1, d2, d3] => { results := [.lit (.bool false)], args := [d1, d2, d3] }
  | _ => none }
def FlowReckonsWrongFalsely : Prop := flowReckonsRow.holds Try.pinned (OpenSpec.ofChange flowReckonsWrong)

/-- 'ordeallaw13.FlowStraight': WHATEVER THE INPUT: true; the input reads as it did. -/
def flowStraightSpec : ChangeSpec := { name := "flowStraight", fn := fun _ => fun
  | [d1, d2, d3] => { results := [.lit (.bool true)], args := [d1, d2, d3] }
  | _ => none }
def flowStraightRow : OpenClaim := { program := "ytflooghnoljpcaa", sum := "7316ac08d44c98076d8b9f9b40823c0b027cc11b767535486b84601c8e4f961e", func := "ordeal/ordeallaw13.FlowStraight", spec := "flowStraight", plainKeys := false, apart := false }
def FlowStraightSaid : Prop := flowStraightRow.holds Try.pinned (OpenSpec.ofChange flowStraightSpec)

/-- ITS FALSE NEIGHBOUR: 'it returns false'. Refute it at one input. -/
def flowStraightWrong : ChangeSpec := { name := "flowStraight", fn := fun _ => fun
  | [d1, d2, d3] => { results := [.lit (.bool false)], args := [d1, d2, d3] }
  | _ => none }
def FlowStraightWrongFalsely : Prop := flowStraightRow.holds Try.pinned (OpenSpec.ofChange flowStraightWrong)

/-- 'ordeallaw13.FlowOf': WHATEVER THE INPUT: true; the input reads as it did. -/
def flowOfSpec : ChangeSpec := { name := "flowOf", fn := fun _ => fun
  | [d1, d2, d3] => { results := [.lit (.bool true)], args := [d1, d2, d3] }
  | _ => none }
def flowOfRow : OpenClaim := { program := "ytflooghnoljpcaa", sum := "7316ac08d44c98076d8b9f9b40823c0b027cc11b767535486b84601c8e4f961e", func := "ordeal/ordeallaw13.FlowOf", spec := "flowOf", plainKeys := false, apart := false }
def FlowOfSaid : Prop := flowOfRow.holds Try.pinned (OpenSpec.ofChange flowOfSpec)

/-- ITS FALSE NEIGHBOUR: 'it returns false'. Refute it at one input. -/
def flowOfWrong : ChangeSpec := { name := "flowOf", fn := fun _ => fun
  | [d1, d2, d3] => { results := [.lit (.bool false)], args := [d1, d2, d3] }
  | _ => none }
def FlowOfWrongFalsely : Prop := flowOfRow.holds Try.pinned (OpenSpec.ofChange flowOfWrong)

/-- 'ordeallaw13.FlowMore': WHATEVER THE INPUT: true; the input reads as it did. -/
def flowMoreSpec : ChangeSpec := { name := "flowMore", fn := fun _ => fun
  | [d1, d2, d3, d4] => { results := [.lit (.bool true)], args := [d1, d2, d3, d4] }
  | _ => none }
def flowMoreRow : OpenClaim := { program := "ytflooghnoljpcaa", sum := "7316ac08d44c98076d8b9f9b40823c0b027cc11b767535486b84601c8e4f961e", func := "ordeal/ordeallaw13.FlowMore", spec := "flowMore", plainKeys := false, apart := false }
def FlowMoreSaid : Prop := flowMoreRow.holds Try.pinned (OpenSpec.ofChange flowMoreSpec)

/-- ITS FALSE NEIGHBOUR: 'it returns false'. Refute it at one input. -/
def flowMoreWrong : ChangeSpec := { name := "flowMore", fn := fun _ => fun
  | [d1, d2, d3, d4] => { results := [.lit (.bool false)], args := [d1, d2, d3, d4] }
  | _ => none }
def FlowMoreWrongFalsely : Prop := flowMoreRow.holds Try.pinned (OpenSpec.ofChange flowMoreWrong)

/-- 'ordeallaw15.SeqcPairs': WHATEVER THE INPUT: true; the input reads as it did. -/
def seqcPairsSpec : ChangeSpec := { name := "seqcPairs", fn := fun _ => fun
  | [d] => { results := [.lit (.bool true)], args := [d] }
  | _ => none }
def seqcPairsRow : OpenClaim := { program := "ytflooghnoljpcaa", sum := "7316ac08d44c98076d8b9f9b40823c0b027cc11b767535486b84601c8e4f961e", func := "ordeal/ordeallaw15.SeqcPairs", spec := "seqcPairs", unfollowed := true, recurses := true, plainKeys := false, apart := false }
def SeqcPairsSaid : Prop := seqcPairsRow.holds Try.pinned (OpenSpec.ofChange seqcPairsSpec)

/-- ITS FALSE NEIGHBOUR: 'it returns false'. Refute it at one input. -/
def seqcPairsWrong : ChangeSpec := { name := "seqcPairs", fn := fun _ => fun
  | [d] => { results := [.lit (.bool false)], args := [d] }
  | _ => none }
def SeqcPairsWrongFalsely : Prop := seqcPairsRow.holds Try.pinned (OpenSpec.ofChange seqcPairsWrong)

/-- 'ordeallaw14.TsoAlone': WHATEVER THE INPUT: true; the input reads as it did. -/
def tsoAloneSpec : ChangeSpec := { name := "tsoAlone", fn := fun _ => fun
  | [d] => { results := [.lit (.bool true)], args := [d] }
  | _ => none }
def tsoAloneRow : OpenClaim := { program := "ytflooghnoljpcaa", sum := "7316ac08d44c98076d8b9f9b40823c0b027cc11b767535486b84601c8e4f961e", func := "ordeal/ordeallaw14.TsoAlone", spec := "tsoAlone", unfollowed := true, recurses := true, plainKeys := false, apart := false }
def TsoAloneSaid : Prop := tsoAloneRow.holds Try.pinned (OpenSpec.ofChange tsoAloneSpec)

/-- ITS FALSE NEIGHBOUR: 'it returns false'. Refute it at one input. -/
def tsoAloneWrong : ChangeSpec := { name := "tsoAlone", fn := fun _ => fun
  | [d] => { results := [.lit (.bool false)], args := [d] }
  | _ => none }
def TsoAloneWrongFalsely : Prop := tsoAloneRow.holds Try.pinned (OpenSpec.ofChange tsoAloneWrong)

/-- 'ordeallaw14.TsoPlain': WHATEVER THE INPUT: true; the input reads as it did. -/
def tsoPlainSpec : ChangeSpec := { name := "tsoPlain", fn := fun _ => fun
  | [d] => { results := [.lit (.bool true)], args := [d] }
  | _ => none }
def tsoPlainRow : OpenClaim := { program := "ytflooghnoljpcaa", sum := "7316ac08d44c98076d8b9f9b40823c0b027cc11b767535486b84601c8e4f961e", func := "ordeal/ordeallaw14.TsoPlain", spec := "tsoPlain", unfollowed := true, recurses := true, plainKeys := false, apart := false }
def TsoPlainSaid : Prop := tsoPlainRow.holds Try.pinned (OpenSpec.ofChange tsoPlainSpec)

/-- ITS FALSE NEIGHBOUR: 'it returns false'. Refute it at one input. -/
def tsoPlainWrong : ChangeSpec := { name := "tsoPlain", fn := fun _ => fun
  | [d] => { results := [.lit (.bool false)], args := [d] }
  | _ => none }
def TsoPlainWrongFalsely : Prop := tsoPlainRow.holds Try.pinned (OpenSpec.ofChange tsoPlainWrong)

/-- 'ordeallaw14.TsoFenced': WHATEVER THE INPUT: true; the input reads as it did. -/
def tsoFencedSpec : ChangeSpec := { name := "tsoFenced", fn := fun _ => fun
  | [d1, d2, d3] => { results := [.lit (.bool true)], args := [d1, d2, d3] }
  | _ => none }
def tsoFencedRow : OpenClaim := { program := "ytflooghnoljpcaa", sum := "7316ac08d44c98076d8b9f9b40823c0b027cc11b767535486b84601c8e4f961e", func := "ordeal/ordeallaw14.TsoFenced", spec := "tsoFenced", unfollowed := true, recurses := true, plainKeys := false, apart := false }
def TsoFencedSaid : Prop := tsoFencedRow.holds Try.pinned (OpenSpec.ofChange tsoFencedSpec)

/-- ITS FALSE NEIGHBOUR: 'it returns false'. Refute it at one input. -/
def tsoFencedWrong : ChangeSpec := { name := "tsoFenced", fn := fun _ => fun
  | [d1, d2, d3] => { results := [.lit (.bool false)], args := [d1, d2, d3] }
  | _ => none }
def TsoFencedWrongFalsely : Prop := tsoFencedRow.holds Try.pinned (OpenSpec.ofChange tsoFencedWrong)

/-- 'ordeallaw14.TsoSome': WHATEVER THE INPUT: true; the input reads as it did. -/
def tsoSomeSpec : ChangeSpec := { name := "tsoSome", fn := fun _ => fun
  | [d] => { results := [.lit (.bool true)], args := [d] }
  | _ => none }
def tsoSomeRow : OpenClaim := { program := "ytflooghnoljpcaa", sum := "7316ac08d44c98076d8b9f9b40823c0b027cc11b767535486b84601c8e4f961e", func := "ordeal/ordeallaw14.TsoSome", spec := "tsoSome", unfollowed := true, recurses := true, plainKeys := false, apart := false }
def TsoSomeSaid : Prop := tsoSomeRow.holds Try.pinned (OpenSpec.ofChange tsoSomeSpec)

/-- ITS FALSE NEIGHBOUR: 'it returns false'. Refute it at one input. -/
def tsoSomeWrong : ChangeSpec := { name := "tsoSome", fn := fun _ => fun
  | [d] => { results := [.lit (.bool false)], args := [d] }
  | _ => none }
def TsoSomeWrongFalsely : Prop := tsoSomeRow.holds Try.pinned (OpenSpec.ofChange tsoSomeWrong)

/-- 'ordeallaw15.SeqcFenced': WHATEVER THE INPUT: true; the input reads as it did. -/
def seqcFencedSpec : ChangeSpec := { name := "seqcFenced", fn := fun _ => fun
  | [d] => { results := [.lit (.bool true)], args := [d] }
  | _ => none }
def seqcFencedRow : OpenClaim := { program := "ytflooghnoljpcaa", sum := "7316ac08d44c98076d8b9f9b40823c0b027cc11b767535486b84601c8e4f961e", func := "ordeal/ordeallaw15.SeqcFenced", spec := "seqcFenced", unfollowed := true, recurses := true, plainKeys := false, apart := false }
def SeqcFencedSaid : Prop := seqcFencedRow.holds Try.pinned (OpenSpec.ofChange seqcFencedSpec)

/-- ITS FALSE NEIGHBOUR: 'it returns false'. Refute it at one input. -/
def seqcFencedWrong : ChangeSpec := { name := "seqcFenced", fn := fun _ => fun
  | [d] => { results := [.lit (.bool false)], args := [d] }
  | _ => none }
def SeqcFencedWrongFalsely : Prop := seqcFencedRow.holds Try.pinned (OpenSpec.ofChange seqcFencedWrong)

/-- 'ordeallaw15.SeqcWithin': WHATEVER THE INPUT: true; the input reads as it did. -/
def seqcWithinSpec : ChangeSpec := { name := "seqcWithin", fn := fun _ => fun
  | [d] => { results := [.lit (.bool true)], args := [d] }
  | _ => none }
def seqcWithinRow : OpenClaim := { program := "ytflooghnoljpcaa", sum := "7316ac08d44c98076d8b9f9b40823c0b027cc11b767535486b84601c8e4f961e", func := "ordeal/ordeallaw15.SeqcWithin", spec := "seqcWithin", unfollowed := true, recurses := true, plainKeys := false, apart := false }
def SeqcWithinSaid : Prop := seqcWithinRow.holds Try.pinned (OpenSpec.ofChange seqcWithinSpec)

/-- ITS FALSE NEIGHBOUR: 'it returns false'. Refute it at one input. -/
def seqcWithinWrong : ChangeSpec := { name := "seqcWithin", fn := fun _ => fun
  | [d] => { results := [.lit (.bool false)], args := [d] }
  | _ => none }
def SeqcWithinWrongFalsely : Prop := seqcWithinRow.holds Try.pinned (OpenSpec.ofChange seqcWithinWrong)

/- THE SECOND FORM. 'bulk': how many values and letters a reading holds, each counted each time it is reached (what is shared counts as often as it is met; a slice's spare places count too). A statement '..UptoSaid' is the law's where the arguments, and the package variables that the reading takes, are together of bulk at most 1048576: NARROWER than '..Said'. Prove '..Said' where nothing that the law and all that it calls make is longer than what came in: it says more and counts as full. Else prove '..UptoSaid'. A law counts once. -/
mutual
def uptoBulk {H : Type} : DataW H → Nat
  | .lit (.string bytes) => bytes.length + 1
  | .lit _ => 1
  | .nil => 1
  | .ptr d => uptoBulk d + 1
  | .slice elems spare => uptoBulkAll elems + uptoBulkAll spare + 1
  | .agg parts => uptoBulkAll parts + 1
  | .iface _ d => uptoBulk d + 1
  | .map entries => uptoBulkEntries entries + 1
  | .held _ => 1
def uptoBulkAll {H : Type} : List (DataW H) → Nat
  | [] => 0
  | d :: r => uptoBulk d + uptoBulkAll r
def uptoBulkEntries {H : Type} : List (Lit × DataW H) → Nat
  | [] => 0
  | x :: r => uptoBulkEntry x + uptoBulkEntries r
def uptoBulkEntry {H : Type} : Lit × DataW H → Nat
  | (.string bytes, d) => bytes.length + uptoBulk d + 1
  | (_, d) => uptoBulk d + 1
 end
def uptoSmall : (H : Type) → List (DataW H) → Bool := fun _ ds => decide (uptoBulkAll ds ≤ 1048576)
def OpenSpec.upto (s : _root_.Go.ChangeSpec) : _root_.Go.OpenSpec := { _root_.Go.OpenSpec.ofChange s with cond := some uptoSmall }

/-- 'ordeallaw16.RelOrders', WHERE WHAT IT READS IS OF BULK AT MOST 1048576: true; the input reads as it did. -/
def relOrdersUptoRow : OpenClaim := { program := "ytflooghnoljpcaa", sum := "7316ac08d44c98076d8b9f9b40823c0b027cc11b767535486b84601c8e4f961e", func := "ordeal/ordeallaw16.RelOrders", spec := "relOrders", plainKeys := false, apart := false, narrowed := true }
def RelOrdersUptoSaid : Prop := relOrdersUptoRow.holds Try.pinned (OpenSpec.upto relOrdersSpec)

/-- 'ordeallaw16.RelSets', WHERE WHAT IT READS IS OF BULK AT MOST 1048576: true; the input reads as it did. -/
def relSetsUptoRow : OpenClaim := { program := "ytflooghnoljpcaa", sum := "7316ac08d44c98076d8b9f9b40823c0b027cc11b767535486b84601c8e4f961e", func := "ordeal/ordeallaw16.RelSets", spec := "relSets", plainKeys := false, apart := false, narrowed := true }
def RelSetsUptoSaid : Prop := relSetsUptoRow.holds Try.pinned (OpenSpec.upto relSetsSpec)

/-- 'ordeallaw16.RelLaws', WHERE WHAT IT READS IS OF BULK AT MOST 1048576: true; the input reads as it did. -/
def relLawsUptoRow : OpenClaim := { program := "ytflooghnoljpcaa", sum := "7316ac08d44c98076d8b9f9b40823c0b027cc11b767535486b84601c8e4f961e", func := "ordeal/ordeallaw16.RelLaws", spec := "relLaws", plainKeys := false, apart := false, narrowed := true }
def RelLawsUptoSaid : Prop := relLawsUptoRow.holds Try.pinned (OpenSpec.upto relLawsSpec)

/-- 'ordeallaw16.RelPairs', WHERE WHAT IT READS IS OF BULK AT MOST 1048576: true; the input reads as it did. -/
def relPairsUptoRow : OpenClaim := { program := "ytflooghnoljpcaa", sum := "7316ac08d44c98076d8b9f9b40823c0b027cc11b767535486b84601c8e4f961e", func := "ordeal/ordeallaw16.RelPairs", spec := "relPairs", plainKeys := false, apart := false, narrowed := true }
def RelPairsUptoSaid : Prop := relPairsUptoRow.holds Try.pinned (OpenSpec.upto relPairsSpec)

/-- 'ordeallaw08.LitmusParts', WHERE WHAT IT READS IS OF BULK AT MOST 1048576: true; the input reads as it did. -/
def litmusPartsUptoRow : OpenClaim := { program := "ytflooghnoljpcaa", sum := "7316ac08d44c98076d8b9f9b40823c0b027cc11b767535486b84601c8e4f961e", func := "ordeal/ordeallaw08.LitmusParts", spec := "litmusParts", plainKeys := false, apart := false, narrowed := true }
def LitmusPartsUptoSaid : Prop := litmusPartsUptoRow.holds Try.pinned (OpenSpec.upto litmusPartsSpec)

/-- 'ordeallaw13.FlowReckons', WHERE WHAT IT READS IS OF BULK AT MOST 1048576: true; the input reads as it did. -/
def flowReckonsUptoRow : OpenClaim := { program := "ytflooghnoljpcaa", sum := "7316ac08d44c98076d8b9f9b40823c0b027cc11b767535486b84601c8e4f961e", func := "ordeal/ordeallaw13.FlowReckons", spec := "flowReckons", plainKeys := false, apart := false, narrowed := true }
def FlowReckonsUptoSaid : Prop := flowReckonsUptoRow.holds Try.pinned (OpenSpec.upto flowReckonsSpec)

/-- 'ordeallaw13.FlowStraight', WHERE WHAT IT READS IS OF BULK AT MOST 1048576: true; the input reads as it did. -/
def flowStraightUptoRow : OpenClaim := { program := "ytflooghnoljpcaa", sum := "7316ac08d44c98076d8b9f9b40823c0b027cc11b767535486b84601c8e4f961e", func := "ordeal/ordeallaw13.FlowStraight", spec := "flowStraight", plainKeys := false, apart := false, narrowed := true }
def FlowStraightUptoSaid : Prop := flowStraightUptoRow.holds Try.pinned (OpenSpec.upto flowStraightSpec)

/-- 'ordeallaw13.FlowOf', WHERE WHAT IT READS IS OF BULK AT MOST 1048576: true; the input reads as it did. -/
def flowOfUptoRow : OpenClaim := { program := "ytflooghnoljpcaa", sum := "7316ac08d44c98076d8b9f9b40823c0b027cc11b767535486b84601c8e4f961e", func := "ordeal/ordeallaw13.FlowOf", spec := "flowOf", plainKeys := false, apart := false, narrowed := true }
def FlowOfUptoSaid : Prop := flowOfUptoRow.holds Try.pinned (OpenSpec.upto flowOfSpec)

/-- 'ordeallaw13.FlowMore', WHERE WHAT IT READS IS OF BULK AT MOST 1048576: true; the input reads as it did. -/
def flowMoreUptoRow : OpenClaim := { program := "ytflooghnoljpcaa", sum := "7316ac08d44c98076d8b9f9b40823c0b027cc11b767535486b84601c8e4f961e", func := "ordeal/ordeallaw13.FlowMore", spec := "flowMore", plainKeys := false, apart := false, narrowed := true }
def FlowMoreUptoSaid : Prop := flowMoreUptoRow.holds Try.pinned (OpenSpec.upto flowMoreSpec)

/-- 'ordeallaw15.SeqcPairs', WHERE WHAT IT READS IS OF BULK AT MOST 1048576: true; the input reads as it did. -/
def seqcPairsUptoRow : OpenClaim := { program := "ytflooghnoljpcaa", sum := "7316ac08d44c98076d8b9f9b40823c0b027cc11b767535486b84601c8e4f961e", func := "ordeal/ordeallaw15.SeqcPairs", spec := "seqcPairs", unfollowed := true, recurses := true, plainKeys := false, apart := false, narrowed := true }
def SeqcPairsUptoSaid : Prop := seqcPairsUptoRow.holds Try.pinned (OpenSpec.upto seqcPairsSpec)

/-- 'ordeallaw14.TsoAlone', WHERE WHAT IT READS IS OF BULK AT MOST 1048576: true; the input reads as it did. -/
def tsoAloneUptoRow : OpenClaim := { program := "ytflooghnoljpcaa", sum := "7316ac08d44c98076d8b9f9b40823c0b027cc11b767535486b84601c8e4f961e", func := "ordeal/ordeallaw14.TsoAlone", spec := "tsoAlone", unfollowed := true, recurses := true, plainKeys := false, apart := false, narrowed := true }
def TsoAloneUptoSaid : Prop := tsoAloneUptoRow.holds Try.pinned (OpenSpec.upto tsoAloneSpec)

/-- 'ordeallaw14.TsoPlain', WHERE WHAT IT READS IS OF BULK AT MOST 1048576: true; the input reads as it did. -/
def tsoPlainUptoRow : OpenClaim := { program := "ytflooghnoljpcaa", sum := "7316ac08d44c98076d8b9f9b40823c0b027cc11b767535486b84601c8e4f961e", func := "ordeal/ordeallaw14.TsoPlain", spec := "tsoPlain", unfollowed := true, recurses := true, plainKeys := false, apart := false, narrowed := true }
def TsoPlainUptoSaid : Prop := tsoPlainUptoRow.holds Try.pinned (OpenSpec.upto tsoPlainSpec)

/-- 'ordeallaw14.TsoFenced', WHERE WHAT IT READS IS OF BULK AT MOST 1048576: true; the input reads as it did. -/
def tsoFencedUptoRow : OpenClaim := { program := "ytflooghnoljpcaa", sum := "7316ac08d44c98076d8b9f9b40823c0b027cc11b767535486b84601c8e4f961e", func := "ordeal/ordeallaw14.TsoFenced", spec := "tsoFenced", unfollowed := true, recurses := true, plainKeys := false, apart := false, narrowed := true }
def TsoFencedUptoSaid : Prop := tsoFencedUptoRow.holds Try.pinned (OpenSpec.upto tsoFencedSpec)

/-- 'ordeallaw14.TsoSome', WHERE WHAT IT READS IS OF BULK AT MOST 1048576: true; the input reads as it did. -/
def tsoSomeUptoRow : OpenClaim := { program := "ytflooghnoljpcaa", sum := "7316ac08d44c98076d8b9f9b40823c0b027cc11b767535486b84601c8e4f961e", func := "ordeal/ordeallaw14.TsoSome", spec := "tsoSome", unfollowed := true, recurses := true, plainKeys := false, apart := false, narrowed := true }
def TsoSomeUptoSaid : Prop := tsoSomeUptoRow.holds Try.pinned (OpenSpec.upto tsoSomeSpec)

/-- 'ordeallaw15.SeqcFenced', WHERE WHAT IT READS IS OF BULK AT MOST 1048576: true; the input reads as it did. -/
def seqcFencedUptoRow : OpenClaim := { program := "ytflooghnoljpcaa", sum := "7316ac08d44c98076d8b9f9b40823c0b027cc11b767535486b84601c8e4f961e", func := "ordeal/ordeallaw15.SeqcFenced", spec := "seqcFenced", unfollowed := true, recurses := true, plainKeys := false, apart := false, narrowed := true }
def SeqcFencedUptoSaid : Prop := seqcFencedUptoRow.holds Try.pinned (OpenSpec.upto seqcFencedSpec)

/-- 'ordeallaw15.SeqcWithin', WHERE WHAT IT READS IS OF BULK AT MOST 1048576: true; the input reads as it did. -/
def seqcWithinUptoRow : OpenClaim := { program := "ytflooghnoljpcaa", sum := "7316ac08d44c98076d8b9f9b40823c0b027cc11b767535486b84601c8e4f961e", func := "ordeal/ordeallaw15.SeqcWithin", spec := "seqcWithin", unfollowed := true, recurses := true, plainKeys := false, apart := false, narrowed := true }
def SeqcWithinUptoSaid : Prop := seqcWithinUptoRow.holds Try.pinned (OpenSpec.upto seqcWithinSpec)

end Rows
end Go.Proofs.Ytflooghnoljpcaa
