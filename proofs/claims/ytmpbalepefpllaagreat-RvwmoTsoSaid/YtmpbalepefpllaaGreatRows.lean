/-
  No cell of these rows narrows 'for every input' (looked for: loops, veiled, ifaces, maps, wideKeys, modest, calm, conditions, laid).
  DERIVED. THE GIVEN ROWS OF THIS SEAT. 15 by the template 'for every input the law returns true; each argument reads behind the call as it read before'; 0 by the template 'total and deterministic' (their statements: YtmpbalepefpllaaGreatTotals.lean).
  GIVEN WITH THE SEED: the statements are not yours to turn. If you find one false, say at which input.
  Laid BY PROGRAM, IN A SANDBOX (cutbox-rows.mjs): the forced cells as the released guide's own fill.sh prints them over the translation 7ba961b0a10ab746… (all of the seat's roots in one cut). By AI agents, Wed Nov 11 2026. No macro, syntax, notation, axiom, sorry.
-/
import Derived.Test.YtmpbalepefpllaaGreatChecked
import GoSem.Claim
import GoSem.ClaimJoined
import GoSem.ClaimMapViews
import Derived.JoinedTies
import Derived.KernelRfl
namespace Go.Proofs.YtmpbalepefpllaaGreat
/- THE CELL 'sum', in the pinned program and in every row, IS THE sha256 OF THE DUMP (.gsa) THAT YtmpbalepefpllaaGreatProg.lean LOADS. Nothing in Lean hashes anything: it is a label: what it is worth is what the hold of that sum in a sandbox is worth. -/
noncomputable def Tryz.pinned : Pinned := { name := "ytmpbalepefpllaagreat", sum := "7ba961b0a10ab746a970b3dc5fb1e2bf472774bc7bd923c5f115797da63d0481", checked := Tryz.checked }
namespace Rows
def none {H : Type} : Left H := { results := [], args := [] }

/-- 'ordeallaw14.TsoStates': WHATEVER THE INPUT: true; the input reads as it did. -/
def tsoStatesSpec : ChangeSpec := { name := "tsoStates", fn := fun _ => fun
  | [d] => { results := [.lit (.bool true)], args := [d] }
  | _ => none }
def tsoStatesRow : OpenClaim := { program := "ytmpbalepefpllaagreat", sum := "7ba961b0a10ab746a970b3dc5fb1e2bf472774bc7bd923c5f115797da63d0481", func := "ordeal/ordeallaw14.TsoStates", spec := "tsoStates", unfollowed := true, recurses := true, plainKeys := false, apart := false }
def TsoStatesSaid : Prop := tsoStatesRow.holds Tryz.pinned (OpenSpec.ofChange tsoStatesSpec)

/-- ITS FALSE NEIGHBOUR: 'it returns false'. Refute it at one input. -/
def tsoStatesWrong : ChangeSpec := { name := "tsoStates", fn := fun _ => fun
  | [d] => { results := [.lit (.bool false)], args := [d] }
  | _ => none }
def TsoStatesWrongFalsely : Prop := tsoStatesRow.holds Tryz.pinned (OpenSpec.ofChange tsoStatesWrong)

/-- 'ordeallaw15.SeqcStates': WHATEVER THE INPUT: true; the input reads as it did. -/
def seqcStatesSpec : ChangeSpec := { name := "seqcStates", fn := fun _ => fun
  | [d] => { results := [.lit (.bool true)], args := [d] }
  | _ => none }
def seqcStatesRow : OpenClaim := { program := "ytmpbalepefpllaagreat", sum := "7ba961b0a10ab746a970b3dc5fb1e2bf472774bc7bd923c5f115797da63d0481", func := "ordeal/ordeallaw15.SeqcStates", spec := "seqcStates", unfollowed := true, recurses := true, plainKeys := false, apart := false }
def SeqcStatesSaid : Prop := seqcStatesRow.holds Tryz.pinned (OpenSpec.ofChange seqcStatesSpec)

/-- ITS FALSE NEIGHBOUR: 'it returns false'. Refute it at one input. -/
def seqcStatesWrong : ChangeSpec := { name := "seqcStates", fn := fun _ => fun
  | [d] => { results := [.lit (.bool false)], args := [d] }
  | _ => none }
def SeqcStatesWrongFalsely : Prop := seqcStatesRow.holds Tryz.pinned (OpenSpec.ofChange seqcStatesWrong)

/-- 'ordeallaw19.AxtsoOnly': WHATEVER THE INPUT: true; the input reads as it did. -/
def axtsoOnlySpec : ChangeSpec := { name := "axtsoOnly", fn := fun _ => fun
  | [d1, d2, d3] => { results := [.lit (.bool true)], args := [d1, d2, d3] }
  | _ => none }
def axtsoOnlyRow : OpenClaim := { program := "ytmpbalepefpllaagreat", sum := "7ba961b0a10ab746a970b3dc5fb1e2bf472774bc7bd923c5f115797da63d0481", func := "ordeal/ordeallaw19.AxtsoOnly", spec := "axtsoOnly", unfollowed := true, recurses := true, plainKeys := false, apart := false }
def AxtsoOnlySaid : Prop := axtsoOnlyRow.holds Tryz.pinned (OpenSpec.ofChange axtsoOnlySpec)

/-- ITS FALSE NEIGHBOUR: 'it returns false'. Refute it at one input. -/
def axtsoOnlyWrong : ChangeSpec := { name := "axtsoOnly", fn := fun _ => fun
  | [d1, d2, d3] => { results := [.lit (.bool false)], args := [d1, d2, d3] }
  | _ => none }
def AxtsoOnlyWrongFalsely : Prop := axtsoOnlyRow.holds Tryz.pinned (OpenSpec.ofChange axtsoOnlyWrong)

/-- 'ordeallaw18.RvwmoStates': WHATEVER THE INPUT: true; the input reads as it did. -/
def rvwmoStatesSpec : ChangeSpec := { name := "rvwmoStates", fn := fun _ => fun
  | [d] => { results := [.lit (.bool true)], args := [d] }
  | _ => none }
def rvwmoStatesRow : OpenClaim := { program := "ytmpbalepefpllaagreat", sum := "7ba961b0a10ab746a970b3dc5fb1e2bf472774bc7bd923c5f115797da63d0481", func := "ordeal/ordeallaw18.RvwmoStates", spec := "rvwmoStates", unfollowed := true, recurses := true, plainKeys := false, apart := false }
def RvwmoStatesSaid : Prop := rvwmoStatesRow.holds Tryz.pinned (OpenSpec.ofChange rvwmoStatesSpec)

/-- ITS FALSE NEIGHBOUR: 'it returns false'. Refute it at one input. -/
def rvwmoStatesWrong : ChangeSpec := { name := "rvwmoStates", fn := fun _ => fun
  | [d] => { results := [.lit (.bool false)], args := [d] }
  | _ => none }
def RvwmoStatesWrongFalsely : Prop := rvwmoStatesRow.holds Tryz.pinned (OpenSpec.ofChange rvwmoStatesWrong)

/-- 'ordeallaw18.RvwmoAlone': WHATEVER THE INPUT: true; the input reads as it did. -/
def rvwmoAloneSpec : ChangeSpec := { name := "rvwmoAlone", fn := fun _ => fun
  | [d] => { results := [.lit (.bool true)], args := [d] }
  | _ => none }
def rvwmoAloneRow : OpenClaim := { program := "ytmpbalepefpllaagreat", sum := "7ba961b0a10ab746a970b3dc5fb1e2bf472774bc7bd923c5f115797da63d0481", func := "ordeal/ordeallaw18.RvwmoAlone", spec := "rvwmoAlone", unfollowed := true, recurses := true, plainKeys := false, apart := false }
def RvwmoAloneSaid : Prop := rvwmoAloneRow.holds Tryz.pinned (OpenSpec.ofChange rvwmoAloneSpec)

/-- ITS FALSE NEIGHBOUR: 'it returns false'. Refute it at one input. -/
def rvwmoAloneWrong : ChangeSpec := { name := "rvwmoAlone", fn := fun _ => fun
  | [d] => { results := [.lit (.bool false)], args := [d] }
  | _ => none }
def RvwmoAloneWrongFalsely : Prop := rvwmoAloneRow.holds Tryz.pinned (OpenSpec.ofChange rvwmoAloneWrong)

/-- 'ordeallaw18.RvwmoTso': WHATEVER THE INPUT: true; the input reads as it did. -/
def rvwmoTsoSpec : ChangeSpec := { name := "rvwmoTso", fn := fun _ => fun
  | [d] => { results := [.lit (.bool true)], args := [d] }
  | _ => none }
def rvwmoTsoRow : OpenClaim := { program := "ytmpbalepefpllaagreat", sum := "7ba961b0a10ab746a970b3dc5fb1e2bf472774bc7bd923c5f115797da63d0481", func := "ordeal/ordeallaw18.RvwmoTso", spec := "rvwmoTso", unfollowed := true, recurses := true, plainKeys := false, apart := false }
def RvwmoTsoSaid : Prop := rvwmoTsoRow.holds Tryz.pinned (OpenSpec.ofChange rvwmoTsoSpec)

/-- ITS FALSE NEIGHBOUR: 'it returns false'. Refute it at one input. -/
def rvwmoTsoWrong : ChangeSpec := { name := "rvwmoTso", fn := fun _ => fun
  | [d] => { results := [.lit (.bool false)], args := [d] }
  | _ => none }
def RvwmoTsoWrongFalsely : Prop := rvwmoTsoRow.holds Tryz.pinned (OpenSpec.ofChange rvwmoTsoWrong)

/-- 'ordeallaw18.RvwmoRuns': WHATEVER THE INPUT: true; the input reads as it did. -/
def rvwmoRunsSpec : ChangeSpec := { name := "rvwmoRuns", fn := fun _ => fun
  | [d] => { results := [.lit (.bool true)], args := [d] }
  | _ => none }
def rvwmoRunsRow : OpenClaim := { program := "ytmpbalepefpllaagreat", sum := "7ba961b0a10ab746a970b3dc5fb1e2bf472774bc7bd923c5f115797da63d0481", func := "ordeal/ordeallaw18.RvwmoRuns", spec := "rvwmoRuns", unfollowed := true, recurses := true, plainKeys := false, apart := false }
def RvwmoRunsSaid : Prop := rvwmoRunsRow.holds Tryz.pinned (OpenSpec.ofChange rvwmoRunsSpec)

/-- ITS FALSE NEIGHBOUR: 'it returns false'. Refute it at one input. -/
def rvwmoRunsWrong : ChangeSpec := { name := "rvwmoRuns", fn := fun _ => fun
  | [d] => { results := [.lit (.bool false)], args := [d] }
  | _ => none }
def RvwmoRunsWrongFalsely : Prop := rvwmoRunsRow.holds Tryz.pinned (OpenSpec.ofChange rvwmoRunsWrong)

/-- 'ordeallaw18.RvwmoFenced': WHATEVER THE INPUT: true; the input reads as it did. -/
def rvwmoFencedSpec : ChangeSpec := { name := "rvwmoFenced", fn := fun _ => fun
  | [d] => { results := [.lit (.bool true)], args := [d] }
  | _ => none }
def rvwmoFencedRow : OpenClaim := { program := "ytmpbalepefpllaagreat", sum := "7ba961b0a10ab746a970b3dc5fb1e2bf472774bc7bd923c5f115797da63d0481", func := "ordeal/ordeallaw18.RvwmoFenced", spec := "rvwmoFenced", unfollowed := true, recurses := true, plainKeys := false, apart := false }
def RvwmoFencedSaid : Prop := rvwmoFencedRow.holds Tryz.pinned (OpenSpec.ofChange rvwmoFencedSpec)

/-- ITS FALSE NEIGHBOUR: 'it returns false'. Refute it at one input. -/
def rvwmoFencedWrong : ChangeSpec := { name := "rvwmoFenced", fn := fun _ => fun
  | [d] => { results := [.lit (.bool false)], args := [d] }
  | _ => none }
def RvwmoFencedWrongFalsely : Prop := rvwmoFencedRow.holds Tryz.pinned (OpenSpec.ofChange rvwmoFencedWrong)

/-- 'ordeallaw18.RvwmoStronger': WHATEVER THE INPUT: true; the input reads as it did. -/
def rvwmoStrongerSpec : ChangeSpec := { name := "rvwmoStronger", fn := fun _ => fun
  | [d] => { results := [.lit (.bool true)], args := [d] }
  | _ => none }
def rvwmoStrongerRow : OpenClaim := { program := "ytmpbalepefpllaagreat", sum := "7ba961b0a10ab746a970b3dc5fb1e2bf472774bc7bd923c5f115797da63d0481", func := "ordeal/ordeallaw18.RvwmoStronger", spec := "rvwmoStronger", unfollowed := true, recurses := true, plainKeys := false, apart := false }
def RvwmoStrongerSaid : Prop := rvwmoStrongerRow.holds Tryz.pinned (OpenSpec.ofChange rvwmoStrongerSpec)

/-- ITS FALSE NEIGHBOUR: 'it returns false'. Refute it at one input. -/
def rvwmoStrongerWrong : ChangeSpec := { name := "rvwmoStronger", fn := fun _ => fun
  | [d] => { results := [.lit (.bool false)], args := [d] }
  | _ => none }
def RvwmoStrongerWrongFalsely : Prop := rvwmoStrongerRow.holds Tryz.pinned (OpenSpec.ofChange rvwmoStrongerWrong)

/-- 'ordeallaw18.RvwmoWithin': WHATEVER THE INPUT: true; the input reads as it did. -/
def rvwmoWithinSpec : ChangeSpec := { name := "rvwmoWithin", fn := fun _ => fun
  | [d] => { results := [.lit (.bool true)], args := [d] }
  | _ => none }
def rvwmoWithinRow : OpenClaim := { program := "ytmpbalepefpllaagreat", sum := "7ba961b0a10ab746a970b3dc5fb1e2bf472774bc7bd923c5f115797da63d0481", func := "ordeal/ordeallaw18.RvwmoWithin", spec := "rvwmoWithin", unfollowed := true, recurses := true, plainKeys := false, apart := false }
def RvwmoWithinSaid : Prop := rvwmoWithinRow.holds Tryz.pinned (OpenSpec.ofChange rvwmoWithinSpec)

/-- ITS FALSE NEIGHBOUR: 'it returns false'. Refute it at one input. -/
def rvwmoWithinWrong : ChangeSpec := { name := "rvwmoWithin", fn := fun _ => fun
  | [d] => { results := [.lit (.bool false)], args := [d] }
  | _ => none }
def RvwmoWithinWrongFalsely : Prop := rvwmoWithinRow.holds Tryz.pinned (OpenSpec.ofChange rvwmoWithinWrong)

/-- 'ordeallaw19.AxtsoModels': WHATEVER THE INPUT: true; the input reads as it did. -/
def axtsoModelsSpec : ChangeSpec := { name := "axtsoModels", fn := fun _ => fun
  | [d] => { results := [.lit (.bool true)], args := [d] }
  | _ => none }
def axtsoModelsRow : OpenClaim := { program := "ytmpbalepefpllaagreat", sum := "7ba961b0a10ab746a970b3dc5fb1e2bf472774bc7bd923c5f115797da63d0481", func := "ordeal/ordeallaw19.AxtsoModels", spec := "axtsoModels", unfollowed := true, recurses := true, plainKeys := false, apart := false }
def AxtsoModelsSaid : Prop := axtsoModelsRow.holds Tryz.pinned (OpenSpec.ofChange axtsoModelsSpec)

/-- ITS FALSE NEIGHBOUR: 'it returns false'. Refute it at one input. -/
def axtsoModelsWrong : ChangeSpec := { name := "axtsoModels", fn := fun _ => fun
  | [d] => { results := [.lit (.bool false)], args := [d] }
  | _ => none }
def AxtsoModelsWrongFalsely : Prop := axtsoModelsRow.holds Tryz.pinned (OpenSpec.ofChange axtsoModelsWrong)

/-- 'ordeallaw19.AxtsoOrder': WHATEVER THE INPUT: true; the input reads as it did. -/
def axtsoOrderSpec : ChangeSpec := { name := "axtsoOrder", fn := fun _ => fun
  | [d1, d2, d3] => { results := [.lit (.bool true)], args := [d1, d2, d3] }
  | _ => none }
def axtsoOrderRow : OpenClaim := { program := "ytmpbalepefpllaagreat", sum := "7ba961b0a10ab746a970b3dc5fb1e2bf472774bc7bd923c5f115797da63d0481", func := "ordeal/ordeallaw19.AxtsoOrder", spec := "axtsoOrder", unfollowed := true, recurses := true, plainKeys := false, apart := false }
def AxtsoOrderSaid : Prop := axtsoOrderRow.holds Tryz.pinned (OpenSpec.ofChange axtsoOrderSpec)

/-- ITS FALSE NEIGHBOUR: 'it returns false'. Refute it at one input. -/
def axtsoOrderWrong : ChangeSpec := { name := "axtsoOrder", fn := fun _ => fun
  | [d1, d2, d3] => { results := [.lit (.bool false)], args := [d1, d2, d3] }
  | _ => none }
def AxtsoOrderWrongFalsely : Prop := axtsoOrderRow.holds Tryz.pinned (OpenSpec.ofChange axtsoOrderWrong)

/-- 'ordeallaw19.AxtsoAll': WHATEVER THE INPUT: true; the input reads as it did. -/
def axtsoAllSpec : ChangeSpec := { name := "axtsoAll", fn := fun _ => fun
  | [d] => { results := [.lit (.bool true)], args := [d] }
  | _ => none }
def axtsoAllRow : OpenClaim := { program := "ytmpbalepefpllaagreat", sum := "7ba961b0a10ab746a970b3dc5fb1e2bf472774bc7bd923c5f115797da63d0481", func := "ordeal/ordeallaw19.AxtsoAll", spec := "axtsoAll", unfollowed := true, recurses := true, plainKeys := false, apart := false }
def AxtsoAllSaid : Prop := axtsoAllRow.holds Tryz.pinned (OpenSpec.ofChange axtsoAllSpec)

/-- ITS FALSE NEIGHBOUR: 'it returns false'. Refute it at one input. -/
def axtsoAllWrong : ChangeSpec := { name := "axtsoAll", fn := fun _ => fun
  | [d] => { results := [.lit (.bool false)], args := [d] }
  | _ => none }
def AxtsoAllWrongFalsely : Prop := axtsoAllRow.holds Tryz.pinned (OpenSpec.ofChange axtsoAllWrong)

/-- 'ordeallaw19.AxtsoMachine': WHATEVER THE INPUT: true; the input reads as it did. -/
def axtsoMachineSpec : ChangeSpec := { name := "axtsoMachine", fn := fun _ => fun
  | [d] => { results := [.lit (.bool true)], args := [d] }
  | _ => none }
def axtsoMachineRow : OpenClaim := { program := "ytmpbalepefpllaagreat", sum := "7ba961b0a10ab746a970b3dc5fb1e2bf472774bc7bd923c5f115797da63d0481", func := "ordeal/ordeallaw19.AxtsoMachine", spec := "axtsoMachine", unfollowed := true, recurses := true, plainKeys := false, apart := false }
def AxtsoMachineSaid : Prop := axtsoMachineRow.holds Tryz.pinned (OpenSpec.ofChange axtsoMachineSpec)

/-- ITS FALSE NEIGHBOUR: 'it returns false'. Refute it at one input. -/
def axtsoMachineWrong : ChangeSpec := { name := "axtsoMachine", fn := fun _ => fun
  | [d] => { results := [.lit (.bool false)], args := [d] }
  | _ => none }
def AxtsoMachineWrongFalsely : Prop := axtsoMachineRow.holds Tryz.pinned (OpenSpec.ofChange axtsoMachineWrong)

/-- 'ordeallaw19.AxtsoKinds': WHATEVER THE INPUT: true; the input reads as it did. -/
def axtsoKindsSpec : ChangeSpec := { name := "axtsoKinds", fn := fun _ => fun
  | [d] => { results := [.lit (.bool true)], args := [d] }
  | _ => none }
def axtsoKindsRow : OpenClaim := { program := "ytmpbalepefpllaagreat", sum := "7ba961b0a10ab746a970b3dc5fb1e2bf472774bc7bd923c5f115797da63d0481", func := "ordeal/ordeallaw19.AxtsoKinds", spec := "axtsoKinds", unfollowed := true, recurses := true, plainKeys := false, apart := false }
def AxtsoKindsSaid : Prop := axtsoKindsRow.holds Tryz.pinned (OpenSpec.ofChange axtsoKindsSpec)

/-- ITS FALSE NEIGHBOUR: 'it returns false'. Refute it at one input. -/
def axtsoKindsWrong : ChangeSpec := { name := "axtsoKinds", fn := fun _ => fun
  | [d] => { results := [.lit (.bool false)], args := [d] }
  | _ => none }
def AxtsoKindsWrongFalsely : Prop := axtsoKindsRow.holds Tryz.pinned (OpenSpec.ofChange axtsoKindsWrong)

/- THE SECOND FORM. 'bulk': how many values and letters a reading holds, each counted each time it is reached (what is shared counts as often as it is met; a slice's spare places count too). A statement '..UptoSaid' is the law's where the arguments, and the package variables that the reading takes, are together of bulk at most 1048576: NARROWER than '..Said'. Prove '..Said' where nothing that the law and all that it calls make is longer than what came in: it says more and counts as full. Else prove '..UptoSaid'. A law counts once. -/
mutual
def uptoBulk {H : Type} : DataW H → Nat
  | .lit (.string bytes) => bytes.length + 1
  | .lit _ => 1
  | .nil => 1
  | .ptr d => uptoBulk d + 1
  | .slice elems spare => uptoBulkAll elems + uptoBulkAll spare + 1
  | .agg parts => uptoBulkAll parts + 1
  | .iface _ d => uptoBulk d + 1
  | .map entries => uptoBulkEntries entries + 1
  | .held _ => 1
def uptoBulkAll {H : Type} : List (DataW H) → Nat
  | [] => 0
  | d :: r => uptoBulk d + uptoBulkAll r
def uptoBulkEntries {H : Type} : List (Lit × DataW H) → Nat
  | [] => 0
  | x :: r => uptoBulkEntry x + uptoBulkEntries r
def uptoBulkEntry {H : Type} : Lit × DataW H → Nat
  | (.string bytes, d) => bytes.length + uptoBulk d + 1
  | (_, d) => uptoBulk d + 1
 end
def uptoSmall : (H : Type) → List (DataW H) → Bool := fun _ ds => decide (uptoBulkAll ds ≤ 1048576)
def OpenSpec.upto (s : _root_.Go.ChangeSpec) : _root_.Go.OpenSpec := { _root_.Go.OpenSpec.ofChange s with cond := some uptoSmall }

/-- 'ordeallaw14.TsoStates', WHERE WHAT IT READS IS OF BULK AT MOST 1048576: true; the input reads as it did. -/
def tsoStatesUptoRow : OpenClaim := { program := "ytmpbalepefpllaagreat", sum := "7ba961b0a10ab746a970b3dc5fb1e2bf472774bc7bd923c5f115797da63d0481", func := "ordeal/ordeallaw14.TsoStates", spec := "tsoStates", unfollowed := true, recurses := true, plainKeys := false, apart := false, narrowed := true }
def TsoStatesUptoSaid : Prop := tsoStatesUptoRow.holds Tryz.pinned (OpenSpec.upto tsoStatesSpec)

/-- 'ordeallaw15.SeqcStates', WHERE WHAT IT READS IS OF BULK AT MOST 1048576: true; the input reads as it did. -/
def seqcStatesUptoRow : OpenClaim := { program := "ytmpbalepefpllaagreat", sum := "7ba961b0a10ab746a970b3dc5fb1e2bf472774bc7bd923c5f115797da63d0481", func := "ordeal/ordeallaw15.SeqcStates", spec := "seqcStates", unfollowed := true, recurses := true, plainKeys := false, apart := false, narrowed := true }
def SeqcStatesUptoSaid : Prop := seqcStatesUptoRow.holds Tryz.pinned (OpenSpec.upto seqcStatesSpec)

/-- 'ordeallaw19.AxtsoOnly', WHERE WHAT IT READS IS OF BULK AT MOST 1048576: true; the input reads as it did. -/
def axtsoOnlyUptoRow : OpenClaim := { program := "ytmpbalepefpllaagreat", sum := "7ba961b0a10ab746a970b3dc5fb1e2bf472774bc7bd923c5f115797da63d0481", func := "ordeal/ordeallaw19.AxtsoOnly", spec := "axtsoOnly", unfollowed := true, recurses := true, plainKeys := false, apart := false, narrowed := true }
def AxtsoOnlyUptoSaid : Prop := axtsoOnlyUptoRow.holds Tryz.pinned (OpenSpec.upto axtsoOnlySpec)

/-- 'ordeallaw18.RvwmoStates', WHERE WHAT IT READS IS OF BULK AT MOST 1048576: true; the input reads as it did. -/
def rvwmoStatesUptoRow : OpenClaim := { program := "ytmpbalepefpllaagreat", sum := "7ba961b0a10ab746a970b3dc5fb1e2bf472774bc7bd923c5f115797da63d0481", func := "ordeal/ordeallaw18.RvwmoStates", spec := "rvwmoStates", unfollowed := true, recurses := true, plainKeys := false, apart := false, narrowed := true }
def RvwmoStatesUptoSaid : Prop := rvwmoStatesUptoRow.holds Tryz.pinned (OpenSpec.upto rvwmoStatesSpec)

/-- 'ordeallaw18.RvwmoAlone', WHERE WHAT IT READS IS OF BULK AT MOST 1048576: true; the input reads as it did. -/
def rvwmoAloneUptoRow : OpenClaim := { program := "ytmpbalepefpllaagreat", sum := "7ba961b0a10ab746a970b3dc5fb1e2bf472774bc7bd923c5f115797da63d0481", func := "ordeal/ordeallaw18.RvwmoAlone", spec := "rvwmoAlone", unfollowed := true, recurses := true, plainKeys := false, apart := false, narrowed := true }
def RvwmoAloneUptoSaid : Prop := rvwmoAloneUptoRow.holds Tryz.pinned (OpenSpec.upto rvwmoAloneSpec)

/-- 'ordeallaw18.RvwmoTso', WHERE WHAT IT READS IS OF BULK AT MOST 1048576: true; the input reads as it did. -/
def rvwmoTsoUptoRow : OpenClaim := { program := "ytmpbalepefpllaagreat", sum := "7ba961b0a10ab746a970b3dc5fb1e2bf472774bc7bd923c5f115797da63d0481", func := "ordeal/ordeallaw18.RvwmoTso", spec := "rvwmoTso", unfollowed := true, recurses := true, plainKeys := false, apart := false, narrowed := true }
def RvwmoTsoUptoSaid : Prop := rvwmoTsoUptoRow.holds Tryz.pinned (OpenSpec.upto rvwmoTsoSpec)

/-- 'ordeallaw18.RvwmoRuns', WHERE WHAT IT READS IS OF BULK AT MOST 1048576: true; the input reads as it did. -/
def rvwmoRunsUptoRow : OpenClaim := { program := "ytmpbalepefpllaagreat", sum := "7ba961b0a10ab746a970b3dc5fb1e2bf472774bc7bd923c5f115797da63d0481", func := "ordeal/ordeallaw18.RvwmoRuns", spec := "rvwmoRuns", unfollowed := true, recurses := true, plainKeys := false, apart := false, narrowed := true }
def RvwmoRunsUptoSaid : Prop := rvwmoRunsUptoRow.holds Tryz.pinned (OpenSpec.upto rvwmoRunsSpec)

/-- 'ordeallaw18.RvwmoFenced', WHERE WHAT IT READS IS OF BULK AT MOST 1048576: true; the input reads as it did. -/
def rvwmoFencedUptoRow : OpenClaim := { program := "ytmpbalepefpllaagreat", sum := "7ba961b0a10ab746a970b3dc5fb1e2bf472774bc7bd923c5f115797da63d0481", func := "ordeal/ordeallaw18.RvwmoFenced", spec := "rvwmoFenced", unfollowed := true, recurses := true, plainKeys := false, apart := false, narrowed := true }
def RvwmoFencedUptoSaid : Prop := rvwmoFencedUptoRow.holds Tryz.pinned (OpenSpec.upto rvwmoFencedSpec)

/-- 'ordeallaw18.RvwmoStronger', WHERE WHAT IT READS IS OF BULK AT MOST 1048576: true; the input reads as it did. -/
def rvwmoStrongerUptoRow : OpenClaim := { program := "ytmpbalepefpllaagreat", sum := "7ba961b0a10ab746a970b3dc5fb1e2bf472774bc7bd923c5f115797da63d0481", func := "ordeal/ordeallaw18.RvwmoStronger", spec := "rvwmoStronger", unfollowed := true, recurses := true, plainKeys := false, apart := false, narrowed := true }
def RvwmoStrongerUptoSaid : Prop := rvwmoStrongerUptoRow.holds Tryz.pinned (OpenSpec.upto rvwmoStrongerSpec)

/-- 'ordeallaw18.RvwmoWithin', WHERE WHAT IT READS IS OF BULK AT MOST 1048576: true; the input reads as it did. -/
def rvwmoWithinUptoRow : OpenClaim := { program := "ytmpbalepefpllaagreat", sum := "7ba961b0a10ab746a970b3dc5fb1e2bf472774bc7bd923c5f115797da63d0481", func := "ordeal/ordeallaw18.RvwmoWithin", spec := "rvwmoWithin", unfollowed := true, recurses := true, plainKeys := false, apart := false, narrowed := true }
def RvwmoWithinUptoSaid : Prop := rvwmoWithinUptoRow.holds Tryz.pinned (OpenSpec.upto rvwmoWithinSpec)

/-- 'ordeallaw19.AxtsoModels', WHERE WHAT IT READS IS OF BULK AT MOST 1048576: true; the input reads as it did. -/
def axtsoModelsUptoRow : OpenClaim := { program := "ytmpbalepefpllaagreat", sum := "7ba961b0a10ab746a970b3dc5fb1e2bf472774bc7bd923c5f115797da63d0481", func := "ordeal/ordeallaw19.AxtsoModels", spec := "axtsoModels", unfollowed := true, recurses := true, plainKeys := false, apart := false, narrowed := true }
def AxtsoModelsUptoSaid : Prop := axtsoModelsUptoRow.holds Tryz.pinned (OpenSpec.upto axtsoModelsSpec)

/-- 'ordeallaw19.AxtsoOrder', WHERE WHAT IT READS IS OF BULK AT MOST 1048576: true; the input reads as it did. -/
def axtsoOrderUptoRow : OpenClaim := { program := "ytmpbalepefpllaagreat", sum := "7ba961b0a10ab746a970b3dc5fb1e2bf472774bc7bd923c5f115797da63d0481", func := "ordeal/ordeallaw19.AxtsoOrder", spec := "axtsoOrder", unfollowed := true, recurses := true, plainKeys := false, apart := false, narrowed := true }
def AxtsoOrderUptoSaid : Prop := axtsoOrderUptoRow.holds Tryz.pinned (OpenSpec.upto axtsoOrderSpec)

/-- 'ordeallaw19.AxtsoAll', WHERE WHAT IT READS IS OF BULK AT MOST 1048576: true; the input reads as it did. -/
def axtsoAllUptoRow : OpenClaim := { program := "ytmpbalepefpllaagreat", sum := "7ba961b0a10ab746a970b3dc5fb1e2bf472774bc7bd923c5f115797da63d0481", func := "ordeal/ordeallaw19.AxtsoAll", spec := "axtsoAll", unfollowed := true, recurses := true, plainKeys := false, apart := false, narrowed := true }
def AxtsoAllUptoSaid : Prop := axtsoAllUptoRow.holds Tryz.pinned (OpenSpec.upto axtsoAllSpec)

/-- 'ordeallaw19.AxtsoMachine', WHERE WHAT IT READS IS OF BULK AT MOST 1048576: true; the input reads as it did. -/
def axtsoMachineUptoRow : OpenClaim := { program := "ytmpbalepefpllaagreat", sum := "7ba961b0a10ab746a970b3dc5fb1e2bf472774bc7bd923c5f115797da63d0481", func := "ordeal/ordeallaw19.AxtsoMachine", spec := "axtsoMachine", unfollowed := true, recurses := true, plainKeys := false, apart := false, narrowed := true }
def AxtsoMachineUptoSaid : Prop := axtsoMachineUptoRow.holds Tryz.pinned (OpenSpec.upto axtsoMachineSpec)

/-- 'ordeallaw19.AxtsoKinds', WHERE WHAT IT READS IS OF BULK AT MOST 1048576: true; the input reads as it did. -/
def axtsoKindsUptoRow : OpenClaim := { program := "ytmpbalepefpllaagreat", sum := "7ba961b0a10ab746a970b3dc5fb1e2bf472774bc7bd923c5f115797da63d0481", func := "ordeal/ordeallaw19.AxtsoKinds", spec := "axtsoKinds", unfollowed := true, recurses := true, plainKeys := false, apart := false, narrowed := true }
def AxtsoKindsUptoSaid : Prop := axtsoKindsUptoRow.holds Tryz.pinned (OpenSpec.upto axtsoKindsSpec)

end Rows
end Go.Proofs.YtmpbalepefpllaaGreat
