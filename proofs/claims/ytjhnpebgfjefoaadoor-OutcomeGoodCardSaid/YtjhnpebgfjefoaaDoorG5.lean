/- The law OutcomeGood (a tied card): whatever list of states and number it is given it returns true, and what it was given reads as it did. No condition beyond the card's own: three tables of the library read as the program's text lays them. -/
import Derived.Test.YtjhnpebgfjefoaaDoorCards
import Derived.Test.YtjhnpebgfjefoaaDoorTie
import Derived.KernelRfl
import Derived.Test.YtjhnpebgfjefoaaDoorG4
set_option linter.unusedVariables false
set_option linter.unusedSimpArgs false
namespace Go.Proofs.YtjhnpebgfjefoaaDoor
open Go Go.Sl Go.Proofs.Tryd
def stE (p : Int × List Int) : V := .agg (iV p.1 :: uVs p.2)
theorem stE_cells (p : Int × List Int) : (stE p).cells = [iV p.1] ++ p.2.flatMap fun n => [uV n] := by
 show iV p.1 :: p.2.map uV = iV p.1 :: p.2.flatMap fun n => [uV n]
 rw [List.map_eq_flatMap]
theorem stE_rows (l : List (Int × List Int)) : l.map stE = stR (l.map fun p => p.1 :: p.2) := by
 unfold stR; rw [List.map_map]; rfl
theorem imp_nums40 : ImpAs Tryd.prog 24 (fun l : List Int => l.length = 40 ∧ ∀ a ∈ l, (Lit.int .u64 a).wf = true) fun l => l.flatMap fun n => [uV n] := imp_array (sz := 1) Tryd.underlying24 (by kernel_rfl) (by kernel_rfl) iU
set_option maxRecDepth 100000 in
theorem imp_state : ImpAs Tryd.prog 26 (fun p : Int × List Int => (Lit.int .i64 p.1).wf = true ∧ p.2.length = 40 ∧ ∀ a ∈ p.2, (Lit.int .u64 a).wf = true) fun p => [iV p.1] ++ p.2.flatMap fun n => [uV n] :=
 imp_struct (tot := 41) Tryd.underlying26 (by kernel_rfl) (impF_cons (ok := fun n : Int => (Lit.int .i64 n).wf = true) (f := fun n : Int => [iV n]) (ok' := fun l : List Int => l.length = 40 ∧ ∀ a ∈ l, (Lit.int .u64 a).wf = true) (f' := fun l : List Int => l.flatMap fun n => [uV n]) rfl (o' := 1) (by kernel_rfl) iI (impF_last rfl (by kernel_rfl) imp_nums40))
theorem imp_states : ImpAs Tryd.prog 22 (fun l : List (Int × List Int) => l.length ≤ maxLen ∧ ∀ p ∈ l, (Lit.int .i64 p.1).wf = true ∧ p.2.length = 40 ∧ ∀ a ∈ p.2, (Lit.int .u64 a).wf = true) fun l => [V.ro 41 (l.map stE)] :=
 imp_list stE Tryd.underlying22 (by kernel_rfl) (by kernel_rfl) (by omega) stE_cells (fun p => nl_stK (p.1 :: p.2)) imp_state
theorem outcomeGood_met (os : Os) (args : Array Value) : laidMetH Tryd.prog Rows.outcomeGoodRow.laid ((World.doorLaid Tryd.prog 39 os).forCall (fun _ _ => 0) ⟨#[], args, []⟩).memory :=
 laidMetH_of_parts3 (fuel := 8) (laidMet_of_run' 8 (by kernel_rfl) (by kernel_rfl)) (by kernel_rfl) (by kernel_rfl)
set_option maxRecDepth 100000 in
theorem outcomeGood_lifted (os : Os) (started : os.Started) (H : Type) (enc : TypeId × Value → H) :
    ReturnsInHanded {} Tryd.checked os 3 .any (fun w args => (Rows.outcomeGoodSpec.pre enc Tryd.prog Tryd.f3 [] false w args ∧ laidMetH Tryd.prog Rows.outcomeGoodRow.laid w) ∧ sizedMet enc Tryd.prog Tryd.f3 (OpenSpec.ofChange Rows.outcomeGoodSpec) false w args) (Rows.outcomeGoodSpec.post enc Tryd.prog Tryd.f3 false true false false) := by
  refine law_laid (C := Tryd.checked) (rt := 4) (X := fun w => laidMetH Tryd.prog Rows.outcomeGoodRow.laid w) (fun _ _ hh h => h.of_heap hh) ownKnob16 started (by kernel_rfl) Tryd.func3 laidOut16 (by kernel_rfl) (by kernel_rfl) Tryd.underlying4 rfl ?_
    (ChangeSpec.witness_shaped (enc := enc) (C := Tryd.checked) (os := os) (X := fun w _ => laidMetH Tryd.prog Rows.outcomeGoodRow.laid w) false (World.doorLaid Tryd.prog 39 os) #[.slice none 0 0, .int .i64 0] 16 rfl (World.shaped_of_RefB (by kernel_rfl) (by kernel_rfl)) (by kernel_rfl) (by kernel_rfl) (by kernel_rfl) (outcomeGood_met os _))
    (α := List (Int × List Int) × Int × Unit) (ok := fun a => ((a.1.length ≤ maxLen ∧ ∀ p ∈ a.1, (Lit.int .i64 p.1).wf = true ∧ p.2.length = 40 ∧ ∀ a ∈ p.2, (Lit.int .u64 a).wf = true) ∧ (Lit.int .i64 a.2.1).wf = true ∧ True)) (g := fun a => [.ro 41 (a.1.map stE), .val (.int .i64 a.2.1)]) ?_ ?_
  · intro H ds hds
    have : Tryd.f3.params.size = 2 := by kernel_rfl
    rw [this] at hds
    match ds, hds with
    | [_, _], _ => rfl
  · rw [Tryd.params3]
    exact args_one (by rw [Tryd.underlying22]) imp_states (args_one (by rw [Tryd.underlying3]) iI args_nil)
  · rintro ⟨l, n, _⟩ ⟨⟨h1, h2⟩, hn, _⟩
    have hb := bounds_i64 hn
    dsimp only
    rw [stE_rows]
    exact outcomeGood_pf _ (fun q hq => by obtain ⟨p, hp, rfl⟩ := List.mem_map.1 hq; simp [(h2 p hp).2.1]) (by rw [List.length_map]; exact h1) n hb.1 hb.2
theorem and_tt {a b : Bool} (ha : a = true) (hb : b = true) : (a && b) = true := by rw [ha, hb]; rfl
set_option maxHeartbeats 16000000 in
theorem outcomeGood_closed : joinedFacts Tryd.pinned.checked.prog 3 Tryd.f3 Rows.outcomeGoodSpec Rows.outcomeGoodRow = true := by
 unfold joinedFacts
 repeat' with_reducible refine and_tt ?_ ?_
 all_goals (as_aux_lemma => kernel_rfl)
theorem outcomeGood_over : Rows.outcomeGoodRow.holds Tryd.pinned (OpenSpec.ofChange Rows.outcomeGoodSpec) :=
 OpenClaim.holds_of_wide 3 Tryd.f3 rfl rfl rfl rfl rfl rfl rfl ⟨rfl, rfl, rfl, rfl, rfl⟩ rfl rfl rfl rfl rfl (by kernel_rfl) Tryd.func3 outcomeGood_closed
  (of_decide_eq_true (by kernel_rfl)) (by unfold Func.isWrapper; first | (rw [if_pos (by decide +kernel)]; kernel_rfl) | (rw [if_neg (by decide +kernel)]; exact ⟨rfl, rfl⟩))
  (fun os started H enc _ => outcomeGood_lifted os started H enc)
theorem outcomeGood_holds : Rows.OutcomeGoodCardSaid :=
 Claim7.holds_tied_plain_at .later [] [.data, .data, .data] true Rows.outcomeGoodCard.stood.harness false
  outcomeGood_over (fun _ h => by cases h) (by kernel_rfl) (fun _ h => by cases h) outcomeGood_row_tie rfl ⟨rfl, rfl⟩ (by kernel_rfl) rfl
  (fun f fn hf hfn => by
   obtain rfl : f = 3 := Option.some.inj ((show Tryd.prog.funcNamed "ordeal/ordeallaw12.OutcomeGood" = some 3 by kernel_rfl).symm.trans hf) |>.symm
   obtain rfl : fn = Tryd.f3 := (Option.some.inj (Tryd.func3.symm.trans hfn)).symm
   refine ⟨by kernel_rfl, fun j t ht => ?_⟩
   have hall : Tryd.f3.params.toList.all (fun t => Tryd.prog.wantsStandIn t == false) = true := by kernel_rfl
   have := List.all_eq_true.1 hall t (List.mem_of_getElem? (by rw [Array.getElem?_toList]; exact ht))
   exact eq_of_beq this)
  (by kernel_rfl)
#print axioms outcomeGood_holds
end Go.Proofs.YtjhnpebgfjefoaaDoor
