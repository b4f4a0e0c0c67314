/- The law FlowOf: whatever test, numbers and truths it is given, it returns true, and what it was given reads as it did. No condition. -/
import Derived.KernelRfl
import Derived.Test.YtokdphmnlcmbbaaM5
set_option linter.unusedVariables false
set_option linter.unusedSimpArgs false
/- What the readings of litmus tests and of what is given to flow say, with the bounds of their numbers. -/
namespace Go.Proofs.Ytokdphmnlcmbbaa
open Go Go.Sl Go.Proofs.Try

set_option maxRecDepth 100000 in
theorem imp_ins2 : ImpAs Try.prog 32 insWf Ins.cs :=
  ImpAs.to (fun p : Int × Int × Int × (Bool × Int) × (Bool × Int) × Bool × Bool × Int × Int × Int × Int => ⟨p.1, p.2.1, p.2.2.1, p.2.2.2.1.1, p.2.2.2.1.2, p.2.2.2.2.1.1, p.2.2.2.2.1.2, p.2.2.2.2.2.1, p.2.2.2.2.2.2.1, p.2.2.2.2.2.2.2.1, p.2.2.2.2.2.2.2.2.1, p.2.2.2.2.2.2.2.2.2.1, p.2.2.2.2.2.2.2.2.2.2⟩)
    (imp_struct (tot := 13) Try.underlying32 (by kernel_rfl) (impF_cons rfl (o' := 1) (by kernel_rfl) iI (impF_cons rfl (o' := 2) (by kernel_rfl) iI (impF_cons rfl (o' := 3) (by kernel_rfl) iI (impF_cons rfl (o' := 5) (by kernel_rfl) imp_arg (impF_cons rfl (o' := 7) (by kernel_rfl) imp_arg (impF_cons rfl (o' := 8) (by kernel_rfl) iB (impF_cons rfl (o' := 9) (by kernel_rfl) iB (impF_cons rfl (o' := 10) (by kernel_rfl) iI (impF_cons rfl (o' := 11) (by kernel_rfl) iI (impF_cons rfl (o' := 12) (by kernel_rfl) iI (impF_last rfl (by kernel_rfl) iI))))))))))))
    (fun p h => by
      have h1 := bounds_u64 h.2.2.2.1.2
      have h2 := bounds_u64 h.2.2.2.2.1.2
      exact ⟨⟨h1.1, by have := h1.2; dsimp only; omega⟩, h2.1, by have := h2.2; dsimp only; omega⟩) (fun p _ => SeenAll.refl _) nl_ins (fun _ => rfl) (fun _ => by kernel_rfl)
theorem imp_inss2 : ImpAs Try.prog 33 (fun l : List Ins => l.length ≤ maxLen ∧ ∀ a ∈ l, insWf a) fun l => [V.ro 13 (inss l)] := imp_list insC Try.underlying33 (by kernel_rfl) (by kernel_rfl) (by omega) (fun _ => rfl) nl_ins imp_ins2
theorem imp_thrs2 : ImpAs Try.prog 34 (fun l : List (List Ins) => l.length ≤ maxLen ∧ ∀ a ∈ l, a.length ≤ maxLen ∧ ∀ b ∈ a, insWf b) fun l => [V.ro 1 (thrs l)] :=
  imp_list (fun x => .ro 13 (inss x)) Try.underlying34 (by kernel_rfl) (by kernel_rfl) (by omega) (fun _ => rfl) (fun x => .cons (nl_inss x) .nil) imp_inss2
set_option maxRecDepth 100000 in
theorem imp_tst2 : ImpAs Try.prog 37 (fun t => tstOk t ∧ tstWf t) Tst.cs :=
  ImpAs.to (fun p : List Ini × List (List Ins) × List Atm => ⟨p.1, p.2.1, p.2.2⟩)
    (imp_struct (tot := 3) Try.underlying37 (by kernel_rfl) (impF_cons rfl (o' := 1) (by kernel_rfl) imp_inis (impF_cons rfl (o' := 2) (by kernel_rfl) imp_thrs2 (impF_last rfl (by kernel_rfl) imp_atms))))
    (fun p h => ⟨h.1.2, fun l hl x hx => (h.2.1.2 l hl).2 x hx⟩) (fun p _ => SeenAll.refl _) nl_tst (fun _ => rfl) (fun _ => by kernel_rfl)
def vlWf (x : Vl) : Prop := 0 ≤ x.v ∧ x.v < 18446744073709551616
set_option maxRecDepth 100000 in
theorem imp_val0 : ImpAs Try.prog 42 (fun p : Bool × Int => True ∧ (Lit.int .u64 p.2).wf = true) fun p => [.val (.bool p.1)] ++ [.val (.int .u64 p.2)] :=
  imp_struct (tot := 2) Try.underlying42 (by kernel_rfl) (impF_cons rfl (o' := 1) (by kernel_rfl) (imp_bool Try.underlying4 (by kernel_rfl)) (impF_last rfl (by kernel_rfl) (imp_int Try.underlying22 (by kernel_rfl))))
theorem imp_val : ImpAs Try.prog 42 vlWf fun x : Vl => [bV x.k, uV x.v] :=
  ImpAs.to (fun p : Bool × Int => ⟨p.1, p.2⟩) imp_val0 (fun p h => by have := bounds_u64 h.2; exact ⟨this.1, by have := this.2; dsimp only; omega⟩) (fun p _ => SeenAll.refl _) (fun x => .cons (.val _) (.cons (.val _) .nil)) (fun _ => rfl) (fun _ => by kernel_rfl)
theorem imp_vls : ImpAs Try.prog 43 (fun l : List Vl => l.length ≤ maxLen ∧ ∀ a ∈ l, vlWf a) fun l => [V.ro 2 (vls l)] := imp_list vlC Try.underlying43 (by kernel_rfl) (by kernel_rfl) (by omega) (fun _ => rfl) (fun x => .cons (.val _) (.cons (.val _) .nil)) imp_val
theorem imp_bvs : ImpAs Try.prog 44 (fun l : List Bool => l.length ≤ maxLen ∧ ∀ a ∈ l, True) fun l => [V.ro 1 (bVs l)] := imp_list bV Try.underlying44 (by kernel_rfl) (by kernel_rfl) (by omega) (fun _ => rfl) (fun x => .cons (.val _) .nil) iB
theorem imp_uvs : ImpAs Try.prog 46 (fun l : List Int => l.length ≤ maxLen ∧ ∀ a ∈ l, (Lit.int .u64 a).wf = true) fun l => [V.ro 1 (uVs l)] := imp_list uV Try.underlying46 (by kernel_rfl) (by kernel_rfl) (by omega) (fun _ => rfl) (fun x => .cons (.val _) .nil) iU

end Go.Proofs.Ytokdphmnlcmbbaa
namespace Go.Proofs.Ytokdphmnlcmbbaa
open Go Go.Sl Go.Proofs.Try

set_option maxRecDepth 100000 in
theorem flowOf_lifted (os : Os) (started : os.Started) (H : Type) (enc : TypeId × Value → H) :
    ReturnsInHanded {} Try.checked os 5 .any (Rows.flowOfSpec.pre6 enc Try.prog Try.f5 Rows.flowOfRow.domain false) (Rows.flowOfSpec.post enc Try.prog Try.f5 false true false false) := by
  refine law_lifted (C := Try.checked) (rt := 4) ownKnob16 started (by kernel_rfl) Try.func5 laidOut16 (by kernel_rfl) (by kernel_rfl) Try.underlying4 rfl ?_
    (ChangeSpec.witness6 (enc := enc) (C := Try.checked) false ⟨#[], #[.agg #[.slice none 0 0, .slice none 0 0, .slice none 0 0], .slice none 0 0, .slice none 0 0], []⟩ 16 (by kernel_rfl) (by kernel_rfl) (by kernel_rfl) (by kernel_rfl))
    (α := Tst × List Vl × List Bool × Unit) (ok := fun a => (tstOk a.1 ∧ tstWf a.1) ∧ (a.2.1.length ≤ maxLen ∧ ∀ b ∈ a.2.1, vlWf b) ∧ (a.2.2.1.length ≤ maxLen ∧ ∀ b ∈ a.2.2.1, True) ∧ True) (g := fun a => [.agg a.1.cs, .ro 2 (vls a.2.1), .ro 1 (bVs a.2.2.1)]) ?_ ?_
  · intro H ds hds
    have : Try.f5.params.size = 3 := by kernel_rfl
    rw [this] at hds
    match ds, hds with
    | [_, _, _], _ => rfl
  · rw [Try.params5]
    exact args_agg (by rw [Try.underlying37]) imp_tst2 (args_one (by rw [Try.underlying43]) imp_vls (args_one (by rw [Try.underlying44]) imp_bvs args_nil))
  · rintro ⟨t, rd, wk, _⟩ ⟨⟨ht, hw⟩, ⟨_, hr⟩, _⟩
    exact flowOf_pf t ht hw rd (fun v hv => hr v hv) wk

theorem flowOf_over : Rows.flowOfRow.holds Try.pinned (OpenSpec.ofChange Rows.flowOfSpec) :=
  OpenClaim.holds_of_wide 5 Try.f5 rfl rfl rfl rfl rfl rfl rfl ⟨rfl, rfl, rfl, rfl, rfl⟩ rfl rfl rfl rfl rfl (by kernel_rfl) Try.func5 (by kernel_rfl)
    (of_decide_eq_true (by kernel_rfl)) (by unfold Func.isWrapper; first | (rw [if_pos (by decide +kernel)]; kernel_rfl) | (rw [if_neg (by decide +kernel)]; exact ⟨rfl, rfl⟩))
    (fun os started H enc _ => flowOf_lifted os started H enc)

/-- The row. -/
theorem flowOf_holds : Rows.FlowOfSaid := flowOf_over
#print axioms flowOf_holds

end Go.Proofs.Ytokdphmnlcmbbaa
