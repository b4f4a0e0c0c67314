/-
  No cell of these rows narrows 'for every input' (looked for: loops, veiled, ifaces, maps, wideKeys, modest, calm, conditions, laid).
  DERIVED. THE GIVEN ROWS OF THIS SEAT. 4 by the template 'for every input the law returns true; each argument reads behind the call as it read before'; 0 by the template 'total and deterministic' (their statements: YtjdaofmhklihiaaTotals.lean).
  GIVEN WITH THE SEED: the statements are not yours to turn. If you find one false, say at which input.
  Laid BY PROGRAM, IN A SANDBOX (cutbox-rows.mjs): the forced cells as the released guide's own fill.sh prints them over the translation 81255599cf0405cc… (all of the seat's roots in one cut). By AI agents, Wed Nov 11 2026. No macro, syntax, notation, axiom, sorry.
-/
import Derived.Test.YtjdaofmhklihiaaChecked
import GoSem.Claim
import GoSem.ClaimJoined
import GoSem.ClaimMapViews
import Derived.JoinedTies
import Derived.KernelRfl
namespace Go.Proofs.Ytjdaofmhklihiaa
/- THE CELL 'sum', in the pinned program and in every row, IS THE sha256 OF THE DUMP (.gsa) THAT YtjdaofmhklihiaaProg.lean LOADS. Nothing in Lean hashes anything: it is a label: what it is worth is what the hold of that sum in a sandbox is worth. -/
noncomputable def Try.pinned : Pinned := { name := "ytjdaofmhklihiaa", sum := "81255599cf0405cc766a331908a89efe6df23a0e838296189b1eff4a2897e4cc", checked := Try.checked }
namespace Rows
def none {H : Type} : Left H := { results := [], args := [] }

/-- 'ordeallaw16.RelOrders': WHATEVER THE INPUT: true; the input reads as it did. -/
def relOrdersSpec : ChangeSpec := { name := "relOrders", fn := fun _ => fun
  | [d1, d2] => { results := [.lit (.bool true)], args := [d1, d2] }
  | _ => none }
def relOrdersRow : OpenClaim := { program := "ytjdaofmhklihiaa", sum := "81255599cf0405cc766a331908a89efe6df23a0e838296189b1eff4a2897e4cc", func := "ordeal/ordeallaw16.RelOrders", spec := "relOrders", apart := false }
def RelOrdersSaid : Prop := relOrdersRow.holds Try.pinned (OpenSpec.ofChange relOrdersSpec)

/-- ITS FALSE NEIGHBOUR: 'it returns false'. Refute it at one input. -/
def relOrdersWrong : ChangeSpec := { name := "relOrders", fn := fun _ => fun
  | [d1, d2] => { results := [.lit (.bool false)], args := [d1, d2] }
  | _ => none }
def RelOrdersWrongFalsely : Prop := relOrdersRow.holds Try.pinned (OpenSpec.ofChange relOrdersWrong)

/-- 'ordeallaw16.RelSets': WHATEVER THE INPUT: true; the input reads as it did. -/
def relSetsSpec : ChangeSpec := { name := "relSets", fn := fun _ => fun
  | [d1, d2, d3, d4] => { results := [.lit (.bool true)], args := [d1, d2, d3, d4] }
  | _ => none }
def relSetsRow : OpenClaim := { program := "ytjdaofmhklihiaa", sum := "81255599cf0405cc766a331908a89efe6df23a0e838296189b1eff4a2897e4cc", func := "ordeal/ordeallaw16.RelSets", spec := "relSets", apart := false }
def RelSetsSaid : Prop := relSetsRow.holds Try.pinned (OpenSpec.ofChange relSetsSpec)

/-- ITS FALSE NEIGHBOUR: 'it returns false'. Refute it at one input. -/
def relSetsWrong : ChangeSpec := { name := "relSets", fn := fun _ => fun
  | [d1, d2, d3, d4] => { results := [.lit (.bool false)], args := [d1, d2, d3, d4] }
  | _ => none }
def RelSetsWrongFalsely : Prop := relSetsRow.holds Try.pinned (OpenSpec.ofChange relSetsWrong)

/-- 'ordeallaw16.RelLaws': WHATEVER THE INPUT: true; the input reads as it did. -/
def relLawsSpec : ChangeSpec := { name := "relLaws", fn := fun _ => fun
  | [d1, d2] => { results := [.lit (.bool true)], args := [d1, d2] }
  | _ => none }
def relLawsRow : OpenClaim := { program := "ytjdaofmhklihiaa", sum := "81255599cf0405cc766a331908a89efe6df23a0e838296189b1eff4a2897e4cc", func := "ordeal/ordeallaw16.RelLaws", spec := "relLaws", apart := false }
def RelLawsSaid : Prop := relLawsRow.holds Try.pinned (OpenSpec.ofChange relLawsSpec)

/-- ITS FALSE NEIGHBOUR: 'it returns false'. Refute it at one input. -/
def relLawsWrong : ChangeSpec := { name := "relLaws", fn := fun _ => fun
  | [d1, d2] => { results := [.lit (.bool false)], args := [d1, d2] }
  | _ => none }
def RelLawsWrongFalsely : Prop := relLawsRow.holds Try.pinned (OpenSpec.ofChange relLawsWrong)

/-- 'ordeallaw16.RelPairs': WHATEVER THE INPUT: true; the input reads as it did. -/
def relPairsSpec : ChangeSpec := { name := "relPairs", fn := fun _ => fun
  | [d1, d2, d3, d4] => { results := [.lit (.bool true)], args := [d1, d2, d3, d4] }
  | _ => none }
def relPairsRow : OpenClaim := { program := "ytjdaofmhklihiaa", sum := "81255599cf0405cc766a331908a89efe6df23a0e838296189b1eff4a2897e4cc", func := "ordeal/ordeallaw16.RelPairs", spec := "relPairs", apart := false }
def RelPairsSaid : Prop := relPairsRow.holds Try.pinned (OpenSpec.ofChange relPairsSpec)

/-- ITS FALSE NEIGHBOUR: 'it returns false'. Refute it at one input. -/
def relPairsWrong : ChangeSpec := { name := "relPairs", fn := fun _ => fun
  | [d1, d2, d3, d4] => { results := [.lit (.bool false)], args := [d1, d2, d3, d4] }
  | _ => none }
def RelPairsWrongFalsely : Prop := relPairsRow.holds Try.pinned (OpenSpec.ofChange relPairsWrong)

/- THE SECOND FORM. 'bulk': how many values and letters a reading holds, each counted each time it is reached (what is shared counts as often as it is met; a slice's spare places count too). A statement '..UptoSaid' is the law's where the arguments, and the package variables that the reading takes, are together of bulk at most 1048576: NARROWER than '..Said'. Prove '..Said' where nothing that the law and all that it calls make is longer than what came in: it says more and counts as full. Else prove '..UptoSaid'. A law counts once. -/
mutual
def uptoBulk {H : Type} : DataW H → Nat
  | .lit (.string bytes) => bytes.length + 1
  | .lit _ => 1
  | .nil => 1
  | .ptr d => uptoBulk d + 1
  | .slice elems spare => uptoBulkAll elems + uptoBulkAll spare + 1
  | .agg parts => uptoBulkAll parts + 1
  | .iface _ d => uptoBulk d + 1
  | .map entries => uptoBulkEntries entries + 1
  | .held _ => 1
def uptoBulkAll {H : Type} : List (DataW H) → Nat
  | [] => 0
  | d :: r => uptoBulk d + uptoBulkAll r
def uptoBulkEntries {H : Type} : List (Lit × DataW H) → Nat
  | [] => 0
  | x :: r => uptoBulkEntry x + uptoBulkEntries r
def uptoBulkEntry {H : Type} : Lit × DataW H → Nat
  | (.string bytes, d) => bytes.length + uptoBulk d + 1
  | (_, d) => uptoBulk d + 1
 end
def uptoSmall : (H : Type) → List (DataW H) → Bool := fun _ ds => decide (uptoBulkAll ds ≤ 1048576)
def OpenSpec.upto (s : _root_.Go.ChangeSpec) : _root_.Go.OpenSpec := { _root_.Go.OpenSpec.ofChange s with cond := some uptoSmall }

/-- 'ordeallaw16.RelOrders', WHERE WHAT IT READS IS OF BULK AT MOST 1048576: true; the input reads as it did. -/
def relOrdersUptoRow : OpenClaim := { program := "ytjdaofmhklihiaa", sum := "81255599cf0405cc766a331908a89efe6df23a0e838296189b1eff4a2897e4cc", func := "ordeal/ordeallaw16.RelOrders", spec := "relOrders", apart := false, narrowed := true }
def RelOrdersUptoSaid : Prop := relOrdersUptoRow.holds Try.pinned (OpenSpec.upto relOrdersSpec)

/-- 'ordeallaw16.RelSets', WHERE WHAT IT READS IS OF BULK AT MOST 1048576: true; the input reads as it did. -/
def relSetsUptoRow : OpenClaim := { program := "ytjdaofmhklihiaa", sum := "81255599cf0405cc766a331908a89efe6df23a0e838296189b1eff4a2897e4cc", func := "ordeal/ordeallaw16.RelSets", spec := "relSets", apart := false, narrowed := true }
def RelSetsUptoSaid : Prop := relSetsUptoRow.holds Try.pinned (OpenSpec.upto relSetsSpec)

/-- 'ordeallaw16.RelLaws', WHERE WHAT IT READS IS OF BULK AT MOST 1048576: true; the input reads as it did. -/
def relLawsUptoRow : OpenClaim := { program := "ytjdaofmhklihiaa", sum := "81255599cf0405cc766a331908a89efe6df23a0e838296189b1eff4a2897e4cc", func := "ordeal/ordeallaw16.RelLaws", spec := "relLaws", apart := false, narrowed := true }
def RelLawsUptoSaid : Prop := relLawsUptoRow.holds Try.pinned (OpenSpec.upto relLawsSpec)

/-- 'ordeallaw16.RelPairs', WHERE WHAT IT READS IS OF BULK AT MOST 1048576: true; the input reads as it did. -/
def relPairsUptoRow : OpenClaim := { program := "ytjdaofmhklihiaa", sum := "81255599cf0405cc766a331908a89efe6df23a0e838296189b1eff4a2897e4cc", func := "ordeal/ordeallaw16.RelPairs", spec := "relPairs", apart := false, narrowed := true }
def RelPairsUptoSaid : Prop := relPairsUptoRow.holds Try.pinned (OpenSpec.upto relPairsSpec)

end Rows
end Go.Proofs.Ytjdaofmhklihiaa
