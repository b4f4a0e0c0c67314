/-
  No cell of these rows narrows 'for every input' (looked for: loops, veiled, ifaces, maps, wideKeys, modest, calm, conditions, laid).
  DERIVED. THE GIVEN ROWS OF THIS SEAT. 4 by the template 'for every input the law returns true; each argument reads behind the call as it read before'; 0 by the template 'total and deterministic' (their statements: YtokdphmnlcmbbaaTotals.lean).
  GIVEN WITH THE SEED: the statements are not yours to turn. If you find one false, say at which input.
  Laid BY PROGRAM, IN A SANDBOX (cutbox-rows.mjs): the forced cells as the released guide's own fill.sh prints them over the translation 383fc3ef6b123d15… (all of the seat's roots in one cut). By AI agents, Wed Nov 11 2026. No macro, syntax, notation, axiom, sorry.
-/
import Derived.Test.YtokdphmnlcmbbaaChecked
import GoSem.Claim
import GoSem.ClaimJoined
import GoSem.ClaimMapViews
import Derived.JoinedTies
import Derived.KernelRfl
namespace Go.Proofs.Ytokdphmnlcmbbaa
/- THE CELL 'sum', in the pinned program and in every row, IS THE sha256 OF THE DUMP (.gsa) THAT YtokdphmnlcmbbaaProg.lean LOADS. Nothing in Lean hashes anything: it is a label: what it is worth is what the hold of that sum in a sandbox is worth. -/
noncomputable def Try.pinned : Pinned := { name := "ytokdphmnlcmbbaa", sum := "383fc3ef6b123d15e4248b8ed28bc9aec2eec9f15a1a39d5e4ef170ef0bfad04", checked := Try.checked }
namespace Rows
def none {H : Type} : Left H := { results := [], args := [] }

/-- 'ordeallaw13.FlowReckons': WHATEVER THE INPUT: true; the input reads as it did. -/
def flowReckonsSpec : ChangeSpec := { name := "flowReckons", fn := fun _ => fun
  | [d1, d2, d3] => { results := [.lit (.bool true)], args := [d1, d2, d3] }
  | _ => none }
def flowReckonsRow : OpenClaim := { program := "ytokdphmnlcmbbaa", sum := "383fc3ef6b123d15e4248b8ed28bc9aec2eec9f15a1a39d5e4ef170ef0bfad04", func := "ordeal/ordeallaw13.FlowReckons", spec := "flowReckons", apart := false }
def FlowReckonsSaid : Prop := flowReckonsRow.holds Try.pinned (OpenSpec.ofChange flowReckonsSpec)

/-- ITS FALSE NEIGHBOUR: 'it returns false'. Refute it at one input. -/
def flowReckonsWrong : ChangeSpec := { name := "flowReckons", fn := fun _ => fun
  | [d1, d2, d3] => { results := [.lit (.bool false)], args := [d1, d2, d3] }
  | _ => none }
def FlowReckonsWrongFalsely : Prop := flowReckonsRow.holds Try.pinned (OpenSpec.ofChange flowReckonsWrong)

/-- 'ordeallaw13.FlowStraight': WHATEVER THE INPUT: true; the input reads as it did. -/
def flowStraightSpec : ChangeSpec := { name := "flowStraight", fn := fun _ => fun
  | [d1, d2, d3] => { results := [.lit (.bool true)], args := [d1, d2, d3] }
  | _ => none }
def flowStraightRow : OpenClaim := { program := "ytokdphmnlcmbbaa", sum := "383fc3ef6b123d15e4248b8ed28bc9aec2eec9f15a1a39d5e4ef170ef0bfad04", func := "ordeal/ordeallaw13.FlowStraight", spec := "flowStraight", apart := false }
def FlowStraightSaid : Prop := flowStraightRow.holds Try.pinned (OpenSpec.ofChange flowStraightSpec)

/-- ITS FALSE NEIGHBOUR: 'it returns false'. Refute it at one input. -/
def flowStraightWrong : ChangeSpec := { name := "flowStraight", fn := fun _ => fun
  | [d1, d2, d3] => { results := [.lit (.bool false)], args := [d1, d2, d3] }
  | _ => none }
def FlowStraightWrongFalsely : Prop := flowStraightRow.holds Try.pinned (OpenSpec.ofChange flowStraightWrong)

/-- 'ordeallaw13.FlowOf': WHATEVER THE INPUT: true; the input reads as it did. -/
def flowOfSpec : ChangeSpec := { name := "flowOf", fn := fun _ => fun
  | [d1, d2, d3] => { results := [.lit (.bool true)], args := [d1, d2, d3] }
  | _ => none }
def flowOfRow : OpenClaim := { program := "ytokdphmnlcmbbaa", sum := "383fc3ef6b123d15e4248b8ed28bc9aec2eec9f15a1a39d5e4ef170ef0bfad04", func := "ordeal/ordeallaw13.FlowOf", spec := "flowOf", apart := false }
def FlowOfSaid : Prop := flowOfRow.holds Try.pinned (OpenSpec.ofChange flowOfSpec)

/-- ITS FALSE NEIGHBOUR: 'it returns false'. Refute it at one input. -/
def flowOfWrong : ChangeSpec := { name := "flowOf", fn := fun _ => fun
  | [d1, d2, d3] => { results := [.lit (.bool false)], args := [d1, d2, d3] }
  | _ => none }
def FlowOfWrongFalsely : Prop := flowOfRow.holds Try.pinned (OpenSpec.ofChange flowOfWrong)

/-- 'ordeallaw13.FlowMore': WHATEVER THE INPUT: true; the input reads as it did. -/
def flowMoreSpec : ChangeSpec := { name := "flowMore", fn := fun _ => fun
  | [d1, d2, d3, d4] => { results := [.lit (.bool true)], args := [d1, d2, d3, d4] }
  | _ => none }
def flowMoreRow : OpenClaim := { program := "ytokdphmnlcmbbaa", sum := "383fc3ef6b123d15e4248b8ed28bc9aec2eec9f15a1a39d5e4ef170ef0bfad04", func := "ordeal/ordeallaw13.FlowMore", spec := "flowMore", apart := false }
def FlowMoreSaid : Prop := flowMoreRow.holds Try.pinned (OpenSpec.ofChange flowMoreSpec)

/-- ITS FALSE NEIGHBOUR: 'it returns false'. Refute it at one input. -/
def flowMoreWrong : ChangeSpec := { name := "flowMore", fn := fun _ => fun
  | [d1, d2, d3, d4] => { results := [.lit (.bool false)], args := [d1, d2, d3, d4] }
  | _ => none }
def FlowMoreWrongFalsely : Prop := flowMoreRow.holds Try.pinned (OpenSpec.ofChange flowMoreWrong)

/- THE SECOND FORM. 'bulk': how many values and letters a reading holds, each counted each time it is reached (what is shared counts as often as it is met; a slice's spare places count too). A statement '..UptoSaid' is the law's where the arguments, and the package variables that the reading takes, are together of bulk at most 1048576: NARROWER than '..Said'. Prove '..Said' where nothing that the law and all that it calls make is longer than what came in: it says more and counts as full. Else prove '..UptoSaid'. A law counts once. -/
mutual
def uptoBulk {H : Type} : DataW H → Nat
  | .lit (.string bytes) => bytes.length + 1
  | .lit _ => 1
  | .nil => 1
  | .ptr d => uptoBulk d + 1
  | .slice elems spare => uptoBulkAll elems + uptoBulkAll spare + 1
  | .agg parts => uptoBulkAll parts + 1
  | .iface _ d => uptoBulk d + 1
  | .map entries => uptoBulkEntries entries + 1
  | .held _ => 1
def uptoBulkAll {H : Type} : List (DataW H) → Nat
  | [] => 0
  | d :: r => uptoBulk d + uptoBulkAll r
def uptoBulkEntries {H : Type} : List (Lit × DataW H) → Nat
  | [] => 0
  | x :: r => uptoBulkEntry x + uptoBulkEntries r
def uptoBulkEntry {H : Type} : Lit × DataW H → Nat
  | (.string bytes, d) => bytes.length + uptoBulk d + 1
  | (_, d) => uptoBulk d + 1
 end
def uptoSmall : (H : Type) → List (DataW H) → Bool := fun _ ds => decide (uptoBulkAll ds ≤ 1048576)
def OpenSpec.upto (s : _root_.Go.ChangeSpec) : _root_.Go.OpenSpec := { _root_.Go.OpenSpec.ofChange s with cond := some uptoSmall }

/-- 'ordeallaw13.FlowReckons', WHERE WHAT IT READS IS OF BULK AT MOST 1048576: true; the input reads as it did. -/
def flowReckonsUptoRow : OpenClaim := { program := "ytokdphmnlcmbbaa", sum := "383fc3ef6b123d15e4248b8ed28bc9aec2eec9f15a1a39d5e4ef170ef0bfad04", func := "ordeal/ordeallaw13.FlowReckons", spec := "flowReckons", apart := false, narrowed := true }
def FlowReckonsUptoSaid : Prop := flowReckonsUptoRow.holds Try.pinned (OpenSpec.upto flowReckonsSpec)

/-- 'ordeallaw13.FlowStraight', WHERE WHAT IT READS IS OF BULK AT MOST 1048576: true; the input reads as it did. -/
def flowStraightUptoRow : OpenClaim := { program := "ytokdphmnlcmbbaa", sum := "383fc3ef6b123d15e4248b8ed28bc9aec2eec9f15a1a39d5e4ef170ef0bfad04", func := "ordeal/ordeallaw13.FlowStraight", spec := "flowStraight", apart := false, narrowed := true }
def FlowStraightUptoSaid : Prop := flowStraightUptoRow.holds Try.pinned (OpenSpec.upto flowStraightSpec)

/-- 'ordeallaw13.FlowOf', WHERE WHAT IT READS IS OF BULK AT MOST 1048576: true; the input reads as it did. -/
def flowOfUptoRow : OpenClaim := { program := "ytokdphmnlcmbbaa", sum := "383fc3ef6b123d15e4248b8ed28bc9aec2eec9f15a1a39d5e4ef170ef0bfad04", func := "ordeal/ordeallaw13.FlowOf", spec := "flowOf", apart := false, narrowed := true }
def FlowOfUptoSaid : Prop := flowOfUptoRow.holds Try.pinned (OpenSpec.upto flowOfSpec)

/-- 'ordeallaw13.FlowMore', WHERE WHAT IT READS IS OF BULK AT MOST 1048576: true; the input reads as it did. -/
def flowMoreUptoRow : OpenClaim := { program := "ytokdphmnlcmbbaa", sum := "383fc3ef6b123d15e4248b8ed28bc9aec2eec9f15a1a39d5e4ef170ef0bfad04", func := "ordeal/ordeallaw13.FlowMore", spec := "flowMore", apart := false, narrowed := true }
def FlowMoreUptoSaid : Prop := flowMoreUptoRow.holds Try.pinned (OpenSpec.upto flowMoreSpec)

end Rows
end Go.Proofs.Ytokdphmnlcmbbaa
