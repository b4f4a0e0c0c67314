/- The law RelSets: whatever pairs, sets and numbers it is given it returns true, and what it was given reads as it did. No condition. -/
import Derived.Test.YtjdaofmhklihiaaGreln
import Derived.Test.YtjdaofmhklihiaaGcrel
set_option linter.unusedVariables false
set_option linter.unusedSimpArgs false
namespace Go.Proofs.Ytjdaofmhklihiaa
open Go Go.Sl Go.Proofs.Try

def elP (l : List Int) : V := .agg (l.flatMap fun n => [V.val (.int .i64 n)])
theorem elP_prs {o : Option (List (List Int))} (h : ∀ l, o = some l → l.length ≤ maxLen ∧ ∀ a ∈ l, a.length = 2 ∧ ∀ n ∈ a, (Lit.int .i64 n).wf = true) : (o.getD []).map elP = prs ((o.getD []).map fun l => (l.getD 0 0, l.getD 1 0)) := by
  cases o with
  | none => rfl
  | some l =>
    unfold prs
    rw [List.map_map]
    refine List.map_congr_left fun a ha => ?_
    obtain ⟨hl, _⟩ := (h l rfl).2 a ha
    match a, hl with
    | [x, y], _ => rfl
theorem imp_pairs : ImpAs Try.prog 33 (fun o : Option (List (List Int)) => ∀ l, o = some l → l.length ≤ maxLen ∧ ∀ a ∈ l, a.length = 2 ∧ ∀ n ∈ a, (Lit.int .i64 n).wf = true) fun o => [sliceOf 2 elP o] :=
  imp_slice elP Try.underlying33 (by kernel_rfl) (by kernel_rfl) (by omega) (fun a _ => rfl) (fun a v hv => by obtain ⟨n, _, h2⟩ := List.mem_flatMap.1 hv; simp at h2; subst h2; exact .val _)
    (imp_array (sz := 1) Try.underlying56 (by kernel_rfl) (by kernel_rfl) (imp_int Try.underlying3 (by kernel_rfl)))

def elI (n : Int) : V := .val (.int .i64 n)
theorem elI_ints (o : Option (List Int)) : (o.getD []).map elI = ints (o.getD []) := rfl
theorem imp_ints : ImpAs Try.prog 25 (fun o : Option (List Int) => ∀ l, o = some l → l.length ≤ maxLen ∧ ∀ a ∈ l, (Lit.int .i64 a).wf = true) fun o => [sliceOf 1 elI o] :=
  imp_slice elI Try.underlying25 (by kernel_rfl) (by kernel_rfl) (by omega) (fun a _ => rfl) (fun a v hv => by unfold elI at hv; simp [V.cells] at hv; subst hv; exact .val _) (imp_int Try.underlying3 (by kernel_rfl))

set_option maxRecDepth 100000 in
theorem relSets_lifted (os : Os) (started : os.Started) (H : Type) (enc : TypeId × Value → H) :
    ReturnsInHanded {} Try.checked os 4 .any (Rows.relSetsSpec.pre6 enc Try.prog Try.f4 Rows.relSetsRow.domain false) (Rows.relSetsSpec.post enc Try.prog Try.f4 false true false false) := by
  refine law_lifted (C := Try.checked) (rt := 4) ownKnob16 started (by kernel_rfl) Try.func4 laidOut16 (by kernel_rfl) (by kernel_rfl) Try.underlying4 rfl ?_
    (ChangeSpec.witness6 (enc := enc) (C := Try.checked) false ⟨#[], #[.slice none 0 0, .int .u16 0, .int .u16 0, .slice none 0 0], []⟩ 16 (by kernel_rfl) (by kernel_rfl) (by kernel_rfl) (by kernel_rfl))
    (α := Option (List (List Int)) × Int × Int × Option (List Int) × Unit) (ok := fun a => (∀ l, a.1 = some l → l.length ≤ maxLen ∧ ∀ b ∈ l, b.length = 2 ∧ ∀ n ∈ b, (Lit.int .i64 n).wf = true) ∧ (Lit.int .u16 a.2.1).wf = true ∧ (Lit.int .u16 a.2.2.1).wf = true ∧ (∀ l, a.2.2.2.1 = some l → l.length ≤ maxLen ∧ ∀ b ∈ l, (Lit.int .i64 b).wf = true) ∧ True) (g := fun a => [sliceOf 2 elP a.1, .val (.int .u16 a.2.1), .val (.int .u16 a.2.2.1), sliceOf 1 elI a.2.2.2.1]) ?_ ?_
  · intro H ds hds
    have : Try.f4.params.size = 4 := by kernel_rfl
    rw [this] at hds
    match ds, hds with
    | [_, _, _, _], _ => rfl
  · rw [Try.params4]
    exact args_one (by rw [Try.underlying33]) imp_pairs (args_one (by rw [Try.underlying22]) (imp_int Try.underlying22 (by kernel_rfl)) (args_one (by rw [Try.underlying22]) (imp_int Try.underlying22 (by kernel_rfl)) (args_one (by rw [Try.underlying25]) imp_ints args_nil)))
  · rintro ⟨o, x, y, o2, _⟩ ⟨h1, hx, hy, h2, _⟩
    dsimp only at h1 hx hy h2 ⊢
    obtain ⟨s, rfl⟩ := set_of_int hx
    obtain ⟨t, rfl⟩ := set_of_int hy
    refine Pf.seen (.cons (seen_slice 2 elP o) (.cons (SeenAs.refl _) (.cons (SeenAs.refl _) (.cons (seen_slice 1 elI o2) .nil)))) ?_
    rw [elP_prs h1, elI_ints]
    exact relSets_pf _ s t _

theorem relSets_over : Rows.relSetsRow.holds Try.pinned (OpenSpec.ofChange Rows.relSetsSpec) :=
  OpenClaim.holds_of_wide 4 Try.f4 rfl rfl rfl rfl rfl rfl rfl ⟨rfl, rfl, rfl, rfl, rfl⟩ rfl rfl rfl rfl rfl (by kernel_rfl) Try.func4 (by kernel_rfl)
    (of_decide_eq_true (by kernel_rfl)) (by unfold Func.isWrapper; first | (rw [if_pos (by decide +kernel)]; kernel_rfl) | (rw [if_neg (by decide +kernel)]; exact ⟨rfl, rfl⟩))
    (fun os started H enc _ => relSets_lifted os started H enc)

/-- The row. -/
theorem relSets_holds : Rows.RelSetsSaid := relSets_over
#print axioms relSets_holds

end Go.Proofs.Ytjdaofmhklihiaa
