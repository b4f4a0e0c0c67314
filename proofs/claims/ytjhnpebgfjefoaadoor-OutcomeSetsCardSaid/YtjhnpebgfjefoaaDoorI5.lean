/- The law OutcomeSets (a tied card): whatever two lists of numbers and whatever number it is given it returns true, and what it was given reads as it did. No condition beyond the card's own: three tables of the library read as the program's text lays them. -/
import Derived.Test.YtjhnpebgfjefoaaDoorCards
import Derived.Test.YtjhnpebgfjefoaaDoorTie
import Derived.KernelRfl
import Derived.Test.YtjhnpebgfjefoaaDoorI4
set_option linter.unusedVariables false
set_option linter.unusedSimpArgs false
namespace Go.Proofs.YtjhnpebgfjefoaaDoor
open Go Go.Sl Go.Proofs.Tryd
theorem imp_u64s : ImpAs Tryd.prog 37 (fun l : List Int => l.length ≤ maxLen ∧ ∀ a ∈ l, (Lit.int .u64 a).wf = true) fun l => [V.ro 1 (uVs l)] := imp_list uV Tryd.underlying37 (by kernel_rfl) (by kernel_rfl) (by omega) (fun _ => rfl) (fun x => .cons (.val _) .nil) iU
theorem outcomeSets_met (os : Os) (args : Array Value) : laidMetH Tryd.prog Rows.outcomeSetsRow.laid ((World.doorLaid Tryd.prog 39 os).forCall (fun _ _ => 0) ⟨#[], args, []⟩).memory :=
 laidMetH_of_parts3 (fuel := 8) (laidMet_of_run' 8 (by kernel_rfl) (by kernel_rfl)) (by kernel_rfl) (by kernel_rfl)
set_option maxRecDepth 100000 in
theorem outcomeSets_lifted (os : Os) (started : os.Started) (H : Type) (enc : TypeId × Value → H) :
    ReturnsInHanded {} Tryd.checked os 6 .any (fun w args => (Rows.outcomeSetsSpec.pre enc Tryd.prog Tryd.f6 [] false w args ∧ laidMetH Tryd.prog Rows.outcomeSetsRow.laid w) ∧ sizedMet enc Tryd.prog Tryd.f6 (OpenSpec.ofChange Rows.outcomeSetsSpec) false w args) (Rows.outcomeSetsSpec.post enc Tryd.prog Tryd.f6 false true false false) := by
  refine law_laid (C := Tryd.checked) (rt := 4) (X := fun w => laidMetH Tryd.prog Rows.outcomeSetsRow.laid w) (fun _ _ hh h => h.of_heap hh) ownKnob16 started (by kernel_rfl) Tryd.func6 laidOut16 (by kernel_rfl) (by kernel_rfl) Tryd.underlying4 rfl ?_
    (ChangeSpec.witness_shaped (enc := enc) (C := Tryd.checked) (os := os) (X := fun w _ => laidMetH Tryd.prog Rows.outcomeSetsRow.laid w) false (World.doorLaid Tryd.prog 39 os) #[.slice none 0 0, .slice none 0 0, .int .i64 0] 16 rfl (World.shaped_of_RefB (by kernel_rfl) (by kernel_rfl)) (by kernel_rfl) (by kernel_rfl) (by kernel_rfl) (outcomeSets_met os _))
    (α := List Int × List Int × Int × Unit) (ok := fun a => ((a.1.length ≤ maxLen ∧ ∀ x ∈ a.1, (Lit.int .u64 x).wf = true) ∧ (a.2.1.length ≤ maxLen ∧ ∀ x ∈ a.2.1, (Lit.int .u64 x).wf = true) ∧ (Lit.int .i64 a.2.2.1).wf = true ∧ True)) (g := fun a => [.ro 1 (uVs a.1), .ro 1 (uVs a.2.1), .val (.int .i64 a.2.2.1)]) ?_ ?_
  · intro H ds hds
    have : Tryd.f6.params.size = 3 := by kernel_rfl
    rw [this] at hds
    match ds, hds with
    | [_, _, _], _ => rfl
  · rw [Tryd.params6]
    exact args_one (by rw [Tryd.underlying37]) imp_u64s (args_one (by rw [Tryd.underlying37]) imp_u64s (args_one (by rw [Tryd.underlying3]) iI args_nil))
  · rintro ⟨l, m, n, _⟩ ⟨⟨h1, _⟩, ⟨h2, _⟩, _, _⟩
    exact outcomeSets_pf l m h1 h2 n
theorem and_tt {a b : Bool} (ha : a = true) (hb : b = true) : (a && b) = true := by rw [ha, hb]; rfl
set_option maxHeartbeats 16000000 in
theorem outcomeSets_closed : joinedFacts Tryd.pinned.checked.prog 6 Tryd.f6 Rows.outcomeSetsSpec Rows.outcomeSetsRow = true := by
 unfold joinedFacts
 repeat' with_reducible refine and_tt ?_ ?_
 all_goals (as_aux_lemma => kernel_rfl)
theorem outcomeSets_over : Rows.outcomeSetsRow.holds Tryd.pinned (OpenSpec.ofChange Rows.outcomeSetsSpec) :=
 OpenClaim.holds_of_wide 6 Tryd.f6 rfl rfl rfl rfl rfl rfl rfl ⟨rfl, rfl, rfl, rfl, rfl⟩ rfl rfl rfl rfl rfl (by kernel_rfl) Tryd.func6 outcomeSets_closed
  (of_decide_eq_true (by kernel_rfl)) (by unfold Func.isWrapper; first | (rw [if_pos (by decide +kernel)]; kernel_rfl) | (rw [if_neg (by decide +kernel)]; exact ⟨rfl, rfl⟩))
  (fun os started H enc _ => outcomeSets_lifted os started H enc)
theorem outcomeSets_holds : Rows.OutcomeSetsCardSaid :=
 Claim7.holds_tied_plain_at .later [] [.data, .data, .data] true Rows.outcomeSetsCard.stood.harness false
  outcomeSets_over (fun _ h => by cases h) (by kernel_rfl) (fun _ h => by cases h) outcomeSets_row_tie rfl ⟨rfl, rfl⟩ (by kernel_rfl) rfl
  (fun f fn hf hfn => by
   obtain rfl : f = 6 := Option.some.inj ((show Tryd.prog.funcNamed "ordeal/ordeallaw12.OutcomeSets" = some 6 by kernel_rfl).symm.trans hf) |>.symm
   obtain rfl : fn = Tryd.f6 := (Option.some.inj (Tryd.func6.symm.trans hfn)).symm
   refine ⟨by kernel_rfl, fun j t ht => ?_⟩
   have hall : Tryd.f6.params.toList.all (fun t => Tryd.prog.wantsStandIn t == false) = true := by kernel_rfl
   have := List.all_eq_true.1 hall t (List.mem_of_getElem? (by rw [Array.getElem?_toList]; exact ht))
   exact eq_of_beq this)
  (by kernel_rfl)
#print axioms outcomeSets_holds
end Go.Proofs.YtjhnpebgfjefoaaDoor
