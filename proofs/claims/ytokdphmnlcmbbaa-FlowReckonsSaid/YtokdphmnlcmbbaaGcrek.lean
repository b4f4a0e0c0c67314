/- The law FlowReckons: whatever instruction and numbers it is given, it returns true, and what it was given reads as it did. No condition. -/
import Derived.Test.YtokdphmnlcmbbaaGflol
import Derived.Test.YtokdphmnlcmbbaaGclitr
import Derived.KernelRfl
set_option linter.unusedVariables false
set_option linter.unusedSimpArgs false
namespace Go.Proofs.Ytokdphmnlcmbbaa
open Go Go.Sl Go.Proofs.Try

theorem nat_of_u64 {n : Int} (h : (Lit.int .u64 n).wf = true) : ∃ m : Nat, n = m ∧ m < 18446744073709551616 := by
  have hb := bounds_u64 h
  exact ⟨n.toNat, by omega, by omega⟩

set_option maxRecDepth 100000 in
theorem flowReckons_lifted (os : Os) (started : os.Started) (H : Type) (enc : TypeId × Value → H) :
    ReturnsInHanded {} Try.checked os 3 .any (Rows.flowReckonsSpec.pre6 enc Try.prog Try.f3 Rows.flowReckonsRow.domain false) (Rows.flowReckonsSpec.post enc Try.prog Try.f3 false true false false) := by
  refine law_lifted (C := Try.checked) (rt := 4) ownKnob16 started (by kernel_rfl) Try.func3 laidOut16 (by kernel_rfl) (by kernel_rfl) Try.underlying4 rfl ?_
    (ChangeSpec.witness6 (enc := enc) (C := Try.checked) false ⟨#[], #[.int .i64 0, .int .u64 0, .int .u64 0], []⟩ 16 (by kernel_rfl) (by kernel_rfl) (by kernel_rfl) (by kernel_rfl))
    (α := Int × Int × Int × Unit) (ok := fun a => (Lit.int .i64 a.1).wf = true ∧ (Lit.int .u64 a.2.1).wf = true ∧ (Lit.int .u64 a.2.2.1).wf = true ∧ True) (g := fun a => [.val (.int .i64 a.1), .val (.int .u64 a.2.1), .val (.int .u64 a.2.2.1)]) ?_ ?_
  · intro H ds hds
    have : Try.f3.params.size = 3 := by kernel_rfl
    rw [this] at hds
    match ds, hds with
    | [_, _, _], _ => rfl
  · rw [Try.params3]
    exact args_one (by rw [Try.underlying3]) iI (args_one (by rw [Try.underlying22]) iU (args_one (by rw [Try.underlying22]) iU args_nil))
  · rintro ⟨op, x, y, _⟩ ⟨_, hx, hy, _⟩
    dsimp only at hx hy ⊢
    obtain ⟨a, rfl, ha⟩ := nat_of_u64 hx
    obtain ⟨b, rfl, hb⟩ := nat_of_u64 hy
    exact flowReckons_pf op a b ha hb

theorem flowReckons_over : Rows.flowReckonsRow.holds Try.pinned (OpenSpec.ofChange Rows.flowReckonsSpec) :=
  OpenClaim.holds_of_wide 3 Try.f3 rfl rfl rfl rfl rfl rfl rfl ⟨rfl, rfl, rfl, rfl, rfl⟩ rfl rfl rfl rfl rfl (by kernel_rfl) Try.func3 (by kernel_rfl)
    (of_decide_eq_true (by kernel_rfl)) (by unfold Func.isWrapper; first | (rw [if_pos (by decide +kernel)]; kernel_rfl) | (rw [if_neg (by decide +kernel)]; exact ⟨rfl, rfl⟩))
    (fun os started H enc _ => flowReckons_lifted os started H enc)

/-- The row. -/
theorem flowReckons_holds : Rows.FlowReckonsSaid := flowReckons_over
#print axioms flowReckons_holds

end Go.Proofs.Ytokdphmnlcmbbaa
