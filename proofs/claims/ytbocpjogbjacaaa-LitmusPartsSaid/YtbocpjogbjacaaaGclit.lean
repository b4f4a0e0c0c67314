/- The law LitmusParts: whatever test and thread it is given it returns true, and what it was given reads as it did. No condition. -/
import Derived.Test.YtbocpjogbjacaaaGlitk
import Derived.Test.YtbocpjogbjacaaaGclitr
import Derived.KernelRfl
set_option linter.unusedVariables false
set_option linter.unusedSimpArgs false
namespace Go.Proofs.Ytbocpjogbjacaaa
open Go Go.Sl Go.Proofs.Try

set_option maxRecDepth 100000 in
theorem litmusParts_lifted (os : Os) (started : os.Started) (H : Type) (enc : TypeId × Value → H) :
    ReturnsInHanded {} Try.checked os 3 .any (Rows.litmusPartsSpec.pre6 enc Try.prog Try.f3 Rows.litmusPartsRow.domain false) (Rows.litmusPartsSpec.post enc Try.prog Try.f3 false true false false) := by
  refine law_lifted (C := Try.checked) (rt := 4) ownKnob16 started (by kernel_rfl) Try.func3 laidOut16 (by kernel_rfl) (by kernel_rfl) Try.underlying4 rfl ?_
    (ChangeSpec.witness6 (enc := enc) (C := Try.checked) false ⟨#[], #[.agg #[.slice none 0 0, .slice none 0 0, .slice none 0 0], .int .i64 0], []⟩ 16 (by kernel_rfl) (by kernel_rfl) (by kernel_rfl) (by kernel_rfl))
    (α := Tst × Int × Unit) (ok := fun a => tstOk a.1 ∧ (Lit.int .i64 a.2.1).wf = true ∧ True) (g := fun a => [.agg a.1.cs, .val (.int .i64 a.2.1)]) ?_ ?_
  · intro H ds hds
    have : Try.f3.params.size = 2 := by kernel_rfl
    rw [this] at hds
    match ds, hds with
    | [_, _], _ => rfl
  · rw [Try.params3]
    exact args_agg (by rw [Try.underlying26]) imp_tst (args_one (by rw [Try.underlying3]) iI args_nil)
  · rintro ⟨t, n, _⟩ ⟨ht, _, _⟩
    exact litmusParts_pf t n ht

theorem litmusParts_over : Rows.litmusPartsRow.holds Try.pinned (OpenSpec.ofChange Rows.litmusPartsSpec) :=
  OpenClaim.holds_of_wide 3 Try.f3 rfl rfl rfl rfl rfl rfl rfl ⟨rfl, rfl, rfl, rfl, rfl⟩ rfl rfl rfl rfl rfl (by kernel_rfl) Try.func3 (by kernel_rfl)
    (of_decide_eq_true (by kernel_rfl)) (by unfold Func.isWrapper; first | (rw [if_pos (by decide +kernel)]; kernel_rfl) | (rw [if_neg (by decide +kernel)]; exact ⟨rfl, rfl⟩))
    (fun os started H enc _ => litmusParts_lifted os started H enc)

/-- The row. -/
theorem litmusParts_holds : Rows.LitmusPartsSaid := litmusParts_over
#print axioms litmusParts_holds

end Go.Proofs.Ytbocpjogbjacaaa
