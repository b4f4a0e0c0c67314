/- The law FlowStraight: whatever numbers it is given, it returns true, and what it was given reads as it did. No condition. -/
import Derived.Test.YtokdphmnlcmbbaaGfloi
import Derived.Test.YtokdphmnlcmbbaaGclitr
import Derived.KernelRfl
set_option linter.unusedVariables false
set_option linter.unusedSimpArgs false
namespace Go.Proofs.Ytokdphmnlcmbbaa
open Go Go.Sl Go.Proofs.Try

set_option maxRecDepth 100000 in
theorem flowStraight_lifted (os : Os) (started : os.Started) (H : Type) (enc : TypeId × Value → H) :
    ReturnsInHanded {} Try.checked os 4 .any (Rows.flowStraightSpec.pre6 enc Try.prog Try.f4 Rows.flowStraightRow.domain false) (Rows.flowStraightSpec.post enc Try.prog Try.f4 false true false false) := by
  refine law_lifted (C := Try.checked) (rt := 4) ownKnob16 started (by kernel_rfl) Try.func4 laidOut16 (by kernel_rfl) (by kernel_rfl) Try.underlying4 rfl ?_
    (ChangeSpec.witness6 (enc := enc) (C := Try.checked) false ⟨#[], #[.int .u64 0, .int .u64 0, .bool false], []⟩ 16 (by kernel_rfl) (by kernel_rfl) (by kernel_rfl) (by kernel_rfl))
    (α := Int × Int × Bool × Unit) (ok := fun a => (Lit.int .u64 a.1).wf = true ∧ (Lit.int .u64 a.2.1).wf = true ∧ True ∧ True) (g := fun a => [.val (.int .u64 a.1), .val (.int .u64 a.2.1), .val (.bool a.2.2.1)]) ?_ ?_
  · intro H ds hds
    have : Try.f4.params.size = 3 := by kernel_rfl
    rw [this] at hds
    match ds, hds with
    | [_, _, _], _ => rfl
  · rw [Try.params4]
    exact args_one (by rw [Try.underlying22]) iU (args_one (by rw [Try.underlying22]) iU (args_one (by rw [Try.underlying4]) iB args_nil))
  · rintro ⟨v, w, b, _⟩ _
    exact flowStraight_pf v w b

theorem flowStraight_over : Rows.flowStraightRow.holds Try.pinned (OpenSpec.ofChange Rows.flowStraightSpec) :=
  OpenClaim.holds_of_wide 4 Try.f4 rfl rfl rfl rfl rfl rfl rfl ⟨rfl, rfl, rfl, rfl, rfl⟩ rfl rfl rfl rfl rfl (by kernel_rfl) Try.func4 (by kernel_rfl)
    (of_decide_eq_true (by kernel_rfl)) (by unfold Func.isWrapper; first | (rw [if_pos (by decide +kernel)]; kernel_rfl) | (rw [if_neg (by decide +kernel)]; exact ⟨rfl, rfl⟩))
    (fun os started H enc _ => flowStraight_lifted os started H enc)

/-- The row. -/
theorem flowStraight_holds : Rows.FlowStraightSaid := flowStraight_over
#print axioms flowStraight_holds

end Go.Proofs.Ytokdphmnlcmbbaa
