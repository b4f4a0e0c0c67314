/- The law RelOrders: whatever relation and set it is given it returns true, and what it was given reads as it did. No condition. -/
import Derived.Test.YtjdaofmhklihiaaGrelf
import Derived.Test.YtjdaofmhklihiaaRows
namespace Go.Proofs.Ytjdaofmhklihiaa
open Go Go.Sl Go.Proofs.Try

theorem rel_of_list {l : List Int} (hl : l.length = 16) (hw : ∀ n ∈ l, (Lit.int .u16 n).wf = true) : ∃ p, l.flatMap (fun n => [V.val (.int .u16 n)]) = relC p := by
  have e : l.flatMap (fun n => [V.val (.int .u16 n)]) = l.map fun n => V.val (.int .u16 n) := by
    clear hl hw
    induction l with
    | nil => rfl
    | cons x xs ih => simp [ih]
  refine ⟨fun a b => (l.getD a 0).toNat.testBit b, ?_⟩
  rw [e]
  refine List.ext_getElem (by simp [relC, hl]) fun i h1 h2 => ?_
  simp only [List.length_map] at h1
  have hb := bounds_u16 (hw l[i] (List.getElem_mem h1))
  have hd : l.getD i 0 = l[i] := by simp [List.getD, h1]
  simp only [relC, List.getElem_map, List.getElem_range, hd]
  rw [mask_of (by omega)]
  congr 2
  omega

theorem set_of_int {n : Int} (hw : (Lit.int .u16 n).wf = true) : ∃ s, n = ((mask s : Nat) : Int) := by
  have hb := bounds_u16 hw
  exact ⟨n.toNat.testBit, by rw [mask_of (by omega)]; omega⟩

theorem imp_rel : ImpAs Try.prog 24 (fun l : List Int => l.length = 16 ∧ ∀ n ∈ l, (Lit.int .u16 n).wf = true) fun l => l.flatMap fun n => [V.val (.int .u16 n)] :=
  imp_array Try.underlying24 (sz := 1) (by kernel_rfl) (by kernel_rfl) (imp_int Try.underlying22 (by kernel_rfl))

theorem ownKnob16 : ownKnob Try.prog.godebug = none := by kernel_rfl
theorem laidOut16 : laidOutB Try.prog = true := by kernel_rfl

set_option maxRecDepth 100000 in
theorem relOrders_lifted (os : Os) (started : os.Started) (H : Type) (enc : TypeId × Value → H) :
    ReturnsInHanded {} Try.checked os 3 .any (Rows.relOrdersSpec.pre6 enc Try.prog Try.f3 Rows.relOrdersRow.domain false) (Rows.relOrdersSpec.post enc Try.prog Try.f3 false true false false) := by
  refine law_lifted (C := Try.checked) (rt := 4) ownKnob16 started (by kernel_rfl) Try.func3 laidOut16 (by kernel_rfl) (by kernel_rfl) Try.underlying4 rfl ?_
    (ChangeSpec.witness6 (enc := enc) (C := Try.checked) false ⟨#[], #[.agg #[.int .u16 0, .int .u16 0, .int .u16 0, .int .u16 0, .int .u16 0, .int .u16 0, .int .u16 0, .int .u16 0, .int .u16 0, .int .u16 0, .int .u16 0, .int .u16 0, .int .u16 0, .int .u16 0, .int .u16 0, .int .u16 0], .int .u16 0], []⟩ 8 (by kernel_rfl) (by kernel_rfl) (by kernel_rfl) (by kernel_rfl))
    (α := List Int × Int × Unit) (ok := fun a => (a.1.length = 16 ∧ ∀ n ∈ a.1, (Lit.int .u16 n).wf = true) ∧ (Lit.int .u16 a.2.1).wf = true ∧ True) (g := fun a => [.agg (a.1.flatMap fun n => [V.val (.int .u16 n)]), .val (.int .u16 a.2.1)]) ?_ ?_
  · intro H ds hds
    have : Try.f3.params.size = 2 := by kernel_rfl
    rw [this] at hds
    match ds, hds with
    | [_, _], _ => rfl
  · rw [Try.params3]
    exact args_agg (by rw [Try.underlying24]) imp_rel (args_one (by rw [Try.underlying22]) (imp_int Try.underlying22 (by kernel_rfl)) args_nil)
  · rintro ⟨l, n, _⟩ ⟨⟨hl, hw⟩, hn, _⟩
    obtain ⟨p, hp⟩ := rel_of_list hl hw
    obtain ⟨s, rfl⟩ := set_of_int hn
    dsimp only
    rw [hp]
    exact relOrders_pf p s

theorem relOrders_over : Rows.relOrdersRow.holds Try.pinned (OpenSpec.ofChange Rows.relOrdersSpec) :=
  OpenClaim.holds_of_wide 3 Try.f3 rfl rfl rfl rfl rfl rfl rfl ⟨rfl, rfl, rfl, rfl, rfl⟩ rfl rfl rfl rfl rfl (by kernel_rfl) Try.func3 (by kernel_rfl)
    (of_decide_eq_true (by kernel_rfl)) (by unfold Func.isWrapper; first | (rw [if_pos (by decide +kernel)]; kernel_rfl) | (rw [if_neg (by decide +kernel)]; exact ⟨rfl, rfl⟩))
    (fun os started H enc _ => relOrders_lifted os started H enc)

/-- The row. -/
theorem relOrders_holds : Rows.RelOrdersSaid := relOrders_over
#print axioms relOrders_holds
end Go.Proofs.Ytjdaofmhklihiaa
