/- The law RelLaws: whatever relations it is given it returns true, and what it was given reads as it did. No condition. -/
import Derived.Test.YtjdaofmhklihiaaGrelg
import Derived.Test.YtjdaofmhklihiaaGcrel
set_option linter.unusedVariables false
set_option linter.unusedSimpArgs false
namespace Go.Proofs.Ytjdaofmhklihiaa
open Go Go.Sl Go.Proofs.Try

set_option maxRecDepth 100000 in
theorem relLaws_lifted (os : Os) (started : os.Started) (H : Type) (enc : TypeId × Value → H) :
    ReturnsInHanded {} Try.checked os 5 .any (Rows.relLawsSpec.pre6 enc Try.prog Try.f5 Rows.relLawsRow.domain false) (Rows.relLawsSpec.post enc Try.prog Try.f5 false true false false) := by
  refine law_lifted (C := Try.checked) (rt := 4) ownKnob16 started (by kernel_rfl) Try.func5 laidOut16 (by kernel_rfl) (by kernel_rfl) Try.underlying4 rfl ?_
    (ChangeSpec.witness6 (enc := enc) (C := Try.checked) false ⟨#[], #[.agg #[.int .u16 0, .int .u16 0, .int .u16 0, .int .u16 0, .int .u16 0, .int .u16 0, .int .u16 0, .int .u16 0, .int .u16 0, .int .u16 0, .int .u16 0, .int .u16 0, .int .u16 0, .int .u16 0, .int .u16 0, .int .u16 0], .agg #[.int .u16 0, .int .u16 0, .int .u16 0, .int .u16 0, .int .u16 0, .int .u16 0, .int .u16 0, .int .u16 0, .int .u16 0, .int .u16 0, .int .u16 0, .int .u16 0, .int .u16 0, .int .u16 0, .int .u16 0, .int .u16 0]], []⟩ 16 (by kernel_rfl) (by kernel_rfl) (by kernel_rfl) (by kernel_rfl))
    (α := List Int × List Int × Unit) (ok := fun a => (a.1.length = 16 ∧ ∀ n ∈ a.1, (Lit.int .u16 n).wf = true) ∧ (a.2.1.length = 16 ∧ ∀ n ∈ a.2.1, (Lit.int .u16 n).wf = true) ∧ True) (g := fun a => [.agg (a.1.flatMap fun n => [V.val (.int .u16 n)]), .agg (a.2.1.flatMap fun n => [V.val (.int .u16 n)])]) ?_ ?_
  · intro H ds hds
    have : Try.f5.params.size = 2 := by kernel_rfl
    rw [this] at hds
    match ds, hds with
    | [_, _], _ => rfl
  · rw [Try.params5]
    exact args_agg (by rw [Try.underlying24]) imp_rel (args_agg (by rw [Try.underlying24]) imp_rel args_nil)
  · rintro ⟨l, m, _⟩ ⟨⟨hl, hw⟩, ⟨hm, hv⟩, _⟩
    obtain ⟨p, hp⟩ := rel_of_list hl hw
    obtain ⟨q, hq⟩ := rel_of_list hm hv
    dsimp only
    rw [hp, hq]
    exact relLaws_pf p q

theorem relLaws_over : Rows.relLawsRow.holds Try.pinned (OpenSpec.ofChange Rows.relLawsSpec) :=
  OpenClaim.holds_of_wide 5 Try.f5 rfl rfl rfl rfl rfl rfl rfl ⟨rfl, rfl, rfl, rfl, rfl⟩ rfl rfl rfl rfl rfl (by kernel_rfl) Try.func5 (by kernel_rfl)
    (of_decide_eq_true (by kernel_rfl)) (by unfold Func.isWrapper; first | (rw [if_pos (by decide +kernel)]; kernel_rfl) | (rw [if_neg (by decide +kernel)]; exact ⟨rfl, rfl⟩))
    (fun os started H enc _ => relLaws_lifted os started H enc)

/-- The row. -/
theorem relLaws_holds : Rows.RelLawsSaid := relLaws_over
#print axioms relLaws_holds

end Go.Proofs.Ytjdaofmhklihiaa
