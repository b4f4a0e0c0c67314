/- The law RelPairs: whatever pairs and numbers it is given it returns true, and what it was given reads as it did. No condition. -/
import Derived.Test.YtjdaofmhklihiaaGrelk
import Derived.Test.YtjdaofmhklihiaaGcrel
set_option linter.unusedVariables false
set_option linter.unusedSimpArgs false
namespace Go.Proofs.Ytjdaofmhklihiaa
open Go Go.Sl Go.Proofs.Try

def elP (l : List Int) : V := .agg (l.flatMap fun n => [V.val (.int .i64 n)])
theorem elP_prs {o : Option (List (List Int))} (h : ∀ l, o = some l → l.length ≤ maxLen ∧ ∀ a ∈ l, a.length = 2 ∧ ∀ n ∈ a, (Lit.int .i64 n).wf = true) : (o.getD []).map elP = prs ((o.getD []).map fun l => (l.getD 0 0, l.getD 1 0)) := by
  cases o with
  | none => rfl
  | some l =>
    unfold prs
    rw [List.map_map]
    refine List.map_congr_left fun a ha => ?_
    obtain ⟨hl, _⟩ := (h l rfl).2 a ha
    match a, hl with
    | [x, y], _ => rfl
theorem imp_pairs : ImpAs Try.prog 33 (fun o : Option (List (List Int)) => ∀ l, o = some l → l.length ≤ maxLen ∧ ∀ a ∈ l, a.length = 2 ∧ ∀ n ∈ a, (Lit.int .i64 n).wf = true) fun o => [sliceOf 2 elP o] :=
  imp_slice elP Try.underlying33 (by kernel_rfl) (by kernel_rfl) (by omega) (fun a _ => rfl) (fun a v hv => by obtain ⟨n, _, h2⟩ := List.mem_flatMap.1 hv; simp at h2; subst h2; exact .val _)
    (imp_array (sz := 1) Try.underlying56 (by kernel_rfl) (by kernel_rfl) (imp_int Try.underlying3 (by kernel_rfl)))

set_option maxRecDepth 100000 in
theorem relPairs_lifted (os : Os) (started : os.Started) (H : Type) (enc : TypeId × Value → H) :
    ReturnsInHanded {} Try.checked os 6 .any (Rows.relPairsSpec.pre6 enc Try.prog Try.f6 Rows.relPairsRow.domain false) (Rows.relPairsSpec.post enc Try.prog Try.f6 false true false false) := by
  refine law_lifted (C := Try.checked) (rt := 4) ownKnob16 started (by kernel_rfl) Try.func6 laidOut16 (by kernel_rfl) (by kernel_rfl) Try.underlying4 rfl ?_
    (ChangeSpec.witness6 (enc := enc) (C := Try.checked) false ⟨#[], #[.slice none 0 0, .slice none 0 0, .int .i64 0, .int .i64 0], []⟩ 16 (by kernel_rfl) (by kernel_rfl) (by kernel_rfl) (by kernel_rfl))
    (α := Option (List (List Int)) × Option (List (List Int)) × Int × Int × Unit) (ok := fun a => (∀ l, a.1 = some l → l.length ≤ maxLen ∧ ∀ b ∈ l, b.length = 2 ∧ ∀ n ∈ b, (Lit.int .i64 n).wf = true) ∧ (∀ l, a.2.1 = some l → l.length ≤ maxLen ∧ ∀ b ∈ l, b.length = 2 ∧ ∀ n ∈ b, (Lit.int .i64 n).wf = true) ∧ (Lit.int .i64 a.2.2.1).wf = true ∧ (Lit.int .i64 a.2.2.2.1).wf = true ∧ True) (g := fun a => [sliceOf 2 elP a.1, sliceOf 2 elP a.2.1, .val (.int .i64 a.2.2.1), .val (.int .i64 a.2.2.2.1)]) ?_ ?_
  · intro H ds hds
    have : Try.f6.params.size = 4 := by kernel_rfl
    rw [this] at hds
    match ds, hds with
    | [_, _, _, _], _ => rfl
  · rw [Try.params6]
    exact args_one (by rw [Try.underlying33]) imp_pairs (args_one (by rw [Try.underlying33]) imp_pairs (args_one (by rw [Try.underlying3]) (imp_int Try.underlying3 (by kernel_rfl)) (args_one (by rw [Try.underlying3]) (imp_int Try.underlying3 (by kernel_rfl)) args_nil)))
  · rintro ⟨o, o2, x, y, _⟩ ⟨h1, h2, _, _, _⟩
    dsimp only at h1 h2 ⊢
    refine Pf.seen (.cons (seen_slice 2 elP o) (.cons (seen_slice 2 elP o2) (.cons (SeenAs.refl _) (.cons (SeenAs.refl _) .nil)))) ?_
    rw [elP_prs h1, elP_prs h2]
    exact relPairs_pf _ _ x y

theorem relPairs_over : Rows.relPairsRow.holds Try.pinned (OpenSpec.ofChange Rows.relPairsSpec) :=
  OpenClaim.holds_of_wide 6 Try.f6 rfl rfl rfl rfl rfl rfl rfl ⟨rfl, rfl, rfl, rfl, rfl⟩ rfl rfl rfl rfl rfl (by kernel_rfl) Try.func6 (by kernel_rfl)
    (of_decide_eq_true (by kernel_rfl)) (by unfold Func.isWrapper; first | (rw [if_pos (by decide +kernel)]; kernel_rfl) | (rw [if_neg (by decide +kernel)]; exact ⟨rfl, rfl⟩))
    (fun os started H enc _ => relPairs_lifted os started H enc)

/-- The row. -/
theorem relPairs_holds : Rows.RelPairsSaid := relPairs_over
#print axioms relPairs_holds

end Go.Proofs.Ytjdaofmhklihiaa
