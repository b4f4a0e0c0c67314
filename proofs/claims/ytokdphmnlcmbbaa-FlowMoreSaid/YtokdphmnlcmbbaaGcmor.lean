/- The law FlowMore: whatever test, numbers and truths it is given, it returns true, and what it was given reads as it did. No condition. -/
import Derived.Test.YtokdphmnlcmbbaaGflon
import Derived.Test.YtokdphmnlcmbbaaGclitw
import Derived.KernelRfl
set_option linter.unusedVariables false
set_option linter.unusedSimpArgs false
namespace Go.Proofs.Ytokdphmnlcmbbaa
open Go Go.Sl Go.Proofs.Try

set_option maxRecDepth 100000 in
theorem flowMore_lifted (os : Os) (started : os.Started) (H : Type) (enc : TypeId × Value → H) :
    ReturnsInHanded {} Try.checked os 6 .any (Rows.flowMoreSpec.pre6 enc Try.prog Try.f6 Rows.flowMoreRow.domain false) (Rows.flowMoreSpec.post enc Try.prog Try.f6 false true false false) := by
  refine law_lifted (C := Try.checked) (rt := 4) ownKnob16 started (by kernel_rfl) Try.func6 laidOut16 (by kernel_rfl) (by kernel_rfl) Try.underlying4 rfl ?_
    (ChangeSpec.witness6 (enc := enc) (C := Try.checked) false ⟨#[], #[.agg #[.slice none 0 0, .slice none 0 0, .slice none 0 0], .slice none 0 0, .slice none 0 0, .slice none 0 0], []⟩ 16 (by kernel_rfl) (by kernel_rfl) (by kernel_rfl) (by kernel_rfl))
    (α := Tst × List Vl × List Bool × List Int × Unit) (ok := fun a => (tstOk a.1 ∧ tstWf a.1) ∧ (a.2.1.length ≤ maxLen ∧ ∀ b ∈ a.2.1, vlWf b) ∧ (a.2.2.1.length ≤ maxLen ∧ ∀ b ∈ a.2.2.1, True) ∧ (a.2.2.2.1.length ≤ maxLen ∧ ∀ b ∈ a.2.2.2.1, (Lit.int .u64 b).wf = true) ∧ True) (g := fun a => [.agg a.1.cs, .ro 2 (vls a.2.1), .ro 1 (bVs a.2.2.1), .ro 1 (uVs a.2.2.2.1)]) ?_ ?_
  · intro H ds hds
    have : Try.f6.params.size = 4 := by kernel_rfl
    rw [this] at hds
    match ds, hds with
    | [_, _, _, _], _ => rfl
  · rw [Try.params6]
    exact args_agg (by rw [Try.underlying37]) imp_tst2 (args_one (by rw [Try.underlying43]) imp_vls (args_one (by rw [Try.underlying44]) imp_bvs (args_one (by rw [Try.underlying46]) imp_uvs args_nil)))
  · rintro ⟨t, rd, wk, mo, _⟩ ⟨⟨ht, hw⟩, _⟩
    exact flowMore_pf t ht hw rd wk mo

theorem flowMore_over : Rows.flowMoreRow.holds Try.pinned (OpenSpec.ofChange Rows.flowMoreSpec) :=
  OpenClaim.holds_of_wide 6 Try.f6 rfl rfl rfl rfl rfl rfl rfl ⟨rfl, rfl, rfl, rfl, rfl⟩ rfl rfl rfl rfl rfl (by kernel_rfl) Try.func6 (by kernel_rfl)
    (of_decide_eq_true (by kernel_rfl)) (by unfold Func.isWrapper; first | (rw [if_pos (by decide +kernel)]; kernel_rfl) | (rw [if_neg (by decide +kernel)]; exact ⟨rfl, rfl⟩))
    (fun os started H enc _ => flowMore_lifted os started H enc)

/-- The row. -/
theorem flowMore_holds : Rows.FlowMoreSaid := flowMore_over
#print axioms flowMore_holds

end Go.Proofs.Ytokdphmnlcmbbaa
