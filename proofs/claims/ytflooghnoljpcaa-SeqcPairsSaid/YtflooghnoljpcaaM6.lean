/- The law SeqcPairs: whatever number it is given it returns true. No condition. -/
import Derived.KernelRfl
import Derived.Test.YtflooghnoljpcaaM5
set_option linter.unusedVariables false
set_option linter.unusedSimpArgs false
namespace Go.Proofs.Ytflooghnoljpcaa
open Go Go.Sl Go.Proofs.Try
set_option maxRecDepth 100000 in
theorem seqcPairs_lifted (os : Os) (started : os.Started) (H : Type) (enc : TypeId × Value → H) :
    ReturnsInHanded {} Try.checked os 12 .any (Rows.seqcPairsSpec.pre6 enc Try.prog Try.f12 Rows.seqcPairsRow.domain false) (Rows.seqcPairsSpec.post enc Try.prog Try.f12 false true false false) := by
  refine law_lifted (C := Try.checked) (rt := 4) ownKnob16 started (by kernel_rfl) Try.func12 laidOut16 (by kernel_rfl) (by kernel_rfl) Try.underlying4 rfl ?_
    (ChangeSpec.witness6 (enc := enc) (C := Try.checked) false ⟨#[], #[.int .u64 0], []⟩ 16 (by kernel_rfl) (by kernel_rfl) (by kernel_rfl) (by kernel_rfl))
    (α := Int × Unit) (ok := fun a => (Lit.int .u64 a.1).wf = true ∧ True) (g := fun a => [.val (.int .u64 a.1)]) ?_ ?_
  · intro H ds hds
    have : Try.f12.params.size = 1 := by kernel_rfl
    rw [this] at hds
    match ds, hds with
    | [_], _ => rfl
  · rw [Try.params12]
    exact args_one (by rw [Try.underlying64]) iU args_nil
  · rintro ⟨v, _⟩ ⟨h, _⟩
    have hb := bounds_u64 h
    exact seqcPairs_pf v hb.1 (by have := hb.2; omega)
theorem seqcPairs_over : Rows.seqcPairsRow.holds Try.pinned (OpenSpec.ofChange Rows.seqcPairsSpec) :=
 OpenClaim.holds_of_wide 12 Try.f12 rfl rfl rfl rfl rfl rfl rfl ⟨rfl, rfl, rfl, rfl, rfl⟩ rfl rfl rfl rfl rfl (by kernel_rfl) Try.func12 (by kernel_rfl)
  (of_decide_eq_true (by kernel_rfl)) (by unfold Func.isWrapper; first | (rw [if_pos (by decide +kernel)]; kernel_rfl) | (rw [if_neg (by decide +kernel)]; exact ⟨rfl, rfl⟩))
  (fun os started H enc _ => seqcPairs_lifted os started H enc)
theorem seqcPairs_holds : Rows.SeqcPairsSaid := seqcPairs_over
#print axioms seqcPairs_holds
end Go.Proofs.Ytflooghnoljpcaa
