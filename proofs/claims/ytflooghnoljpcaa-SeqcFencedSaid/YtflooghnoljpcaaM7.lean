/- The law SeqcFenced: whatever test it is given it returns true, and what it was given reads as it did. No condition. -/
import Derived.KernelRfl
import Derived.Test.YtflooghnoljpcaaM6
set_option linter.unusedVariables false
set_option linter.unusedSimpArgs false
namespace Go.Proofs.Ytflooghnoljpcaa
open Go Go.Sl Go.Proofs.Try
set_option maxRecDepth 100000 in
theorem seqcFenced_lifted (os : Os) (started : os.Started) (H : Type) (enc : TypeId × Value → H) :
    ReturnsInHanded {} Try.checked os 17 .any (Rows.seqcFencedSpec.pre6 enc Try.prog Try.f17 Rows.seqcFencedRow.domain false) (Rows.seqcFencedSpec.post enc Try.prog Try.f17 false true false false) := by
  refine law_lifted (C := Try.checked) (rt := 4) ownKnob16 started (by kernel_rfl) Try.func17 laidOut16 (by kernel_rfl) (by kernel_rfl) Try.underlying4 rfl ?_
    (ChangeSpec.witness6 (enc := enc) (C := Try.checked) false ⟨#[], #[.agg #[.slice none 0 0, .slice none 0 0, .slice none 0 0]], []⟩ 16 (by kernel_rfl) (by kernel_rfl) (by kernel_rfl) (by kernel_rfl))
    (α := Tst × Unit) (ok := fun a => (tstOk a.1 ∧ tstWf a.1) ∧ True) (g := fun a => [.agg a.1.cs]) ?_ ?_
  · intro H ds hds
    have : Try.f17.params.size = 1 := by kernel_rfl
    rw [this] at hds
    match ds, hds with
    | [_], _ => rfl
  · rw [Try.params17]
    exact args_agg (by rw [Try.underlying59]) imp_tst2 args_nil
  · rintro ⟨t, _⟩ ⟨⟨ht, hw⟩, _⟩
    exact seqcFenced_pf t ht hw
theorem seqcFenced_over : Rows.seqcFencedRow.holds Try.pinned (OpenSpec.ofChange Rows.seqcFencedSpec) :=
 OpenClaim.holds_of_wide 17 Try.f17 rfl rfl rfl rfl rfl rfl rfl ⟨rfl, rfl, rfl, rfl, rfl⟩ rfl rfl rfl rfl rfl (by kernel_rfl) Try.func17 (by kernel_rfl)
  (of_decide_eq_true (by kernel_rfl)) (by unfold Func.isWrapper; first | (rw [if_pos (by decide +kernel)]; kernel_rfl) | (rw [if_neg (by decide +kernel)]; exact ⟨rfl, rfl⟩))
  (fun os started H enc _ => seqcFenced_lifted os started H enc)
theorem seqcFenced_holds : Rows.SeqcFencedSaid := seqcFenced_over
#print axioms seqcFenced_holds
end Go.Proofs.Ytflooghnoljpcaa
