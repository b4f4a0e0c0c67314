/- Relations both ways: the walk of the law RelPairs. -/
import Derived.Test.YtjdaofmhklihiaaGrelj
set_option linter.unusedVariables false
set_option linter.unusedSimpArgs false
namespace Go.Proofs.Ytjdaofmhklihiaa
open Go Go.Sl Go.Proofs.Try

theorem rsame_true {p : Nat → Nat → Bool} {z : List Pr} (h : Agree p z) (hl : z.length ≤ 1000) : Pf Try.prog 17 [.ro 2 (prs (told p)), .ro 2 (prs z)] (.val (.bool true)) :=
  pf_eq (rsame_pf (told p) z (Nat.le_trans (told_len p) (by omega)) hl) (by rw [h.same])
theorem has_any {x : List Pr} (hx : Fin x) (a b : Int) : Pf Try.prog 12 [.agg (relC (relL x)), .val (.int .i64 a), .val (.int .i64 b)] (.val (.bool (x.contains (a, b)))) := by
  have hb : x.contains (a, b) = true → 0 ≤ a ∧ a ≤ 15 ∧ 0 ≤ b ∧ b ≤ 15 := fun h => by
    have := rIn_iff.1 (hx.2 (a, b) (by simpa using h))
    simpa using this
  by_cases ha : a < 0 ∨ 16 ≤ a
  · refine pf_eq (has_out (relL x) a b ha) ?_
    cases h : x.contains (a, b)
    · rfl
    · have := hb h; omega
  · obtain ⟨n, rfl⟩ := Int.eq_ofNat_of_zero_le (show 0 ≤ a by omega)
    refine pf_eq (has_in (relL x) n (by omega) b) ?_
    cases h : x.contains ((n : Int), b)
    · by_cases h0 : 0 ≤ b
      · simp only [relL, Int.toNat_of_nonneg h0, h, Bool.and_false]
      · simp [h0]
    · have h1 := hb h
      have h2 : 0 ≤ b ∧ b < 16 := by omega
      simp only [relL, Int.toNat_of_nonneg h2.1, h, h2, and_self, decide_true, Bool.and_true]

set_option maxRecDepth 100000 in
set_option maxHeartbeats 8000000 in
theorem relPairs_pf (l m : List Pr) (a b : Int) : Pf Try.prog 6 [.ro 2 (prs l), .ro 2 (prs m), .val (.int .i64 a), .val (.int .i64 b)] (.val (.bool true)) := by
  refine Pf.of_fn (.cons (nl_prs l) (.cons (nl_prs m) (.cons (.val _) (.cons (.val _) .nil)))) (.val _) ?_
  refine fn_in T_ok func6 rfl rfl ntmps6 rfl (by simp) ?_
  refine region_k T_ok (by decide) fun K hK => ?_
  simp [go_sem]
  refine hK _ ?_; clear hK K
  refine region_k T_ok (by decide) fun K hK => ?_
  simp [go_sem]
  refine call_pf (grow_pf l) ?_
  simp [go_sem]
  refine hK _ ?_; clear hK K
  refine region_k T_ok (by decide) fun K hK => ?_
  simp [go_sem]
  refine call_pf (grow_pf m) ?_
  simp [go_sem]
  have hX := growL_fin (l.take 24)
  have hY := growL_fin (m.take 24)
  generalize growL (l.take 24) = X at hX
  generalize growL (m.take 24) = Y at hY
  have lX := hX.len
  have lY := hY.len
  have l1 := (hX.with (a, b)).len
  have l2 := (hX.or Y).len
  have l3 : (rAnd X Y).length ≤ 256 := (hX.filter _).len
  have l4 : (rLess X Y).length ≤ 256 := (hX.filter _).len
  have l5 : (rTurned X).length = X.length := by simp [rTurned]
  have l6 := (Fin.then X Y).len
  have l7 := (hX.closed 16).len
  have hcnt := count_len hX
  have hlp := loopy_around hX
  refine hK _ ?_; clear hK K
  refine seq_k fun K1 hK1 => ?_
  refine region_k T_ok (by decide) fun K hK => ?_
  simp [go_sem]
  refine call_pf (awake16) ?_
  simp [go_sem]
  refine call_pf (told_pf _) ?_
  simp [go_sem]
  refine call_pf (rsame_true (Agree.self hX) (by omega)) ?_
  simp [go_sem]
  refine call_pf (pf_eq (countR_pf _) (by rw [hcnt])) ?_
  simp [go_sem]
  refine call_pf (has_any hX a b) ?_
  simp [go_sem]
  refine call_pf (rhas_pf X (a, b) (by omega)) ?_
  simp [go_sem]
  refine call_pf (with_pf _ a b) ?_
  simp [go_sem]
  refine call_pf (told_pf _) ?_
  simp [go_sem]
  refine call_pf (rwith_pf X (a, b) (by omega)) ?_
  simp [go_sem]
  refine call_pf (rsame_true (Agree.with hX a b) (by omega)) ?_
  simp [go_sem]
  refine hK _ ?_; clear hK K
  refine cond_k rfl (fun h => ?_) (fun h => ?_)
  · simp at h
  · skip
    refine tr_skip ?_
    refine hK1 _ ?_; try clear hK1 K1
    refine region_k T_ok (by decide) fun K hK => ?_
    simp [go_sem]
    refine call_pf (or_pf _ _) ?_
    simp [go_sem]
    refine call_pf (told_pf _) ?_
    simp [go_sem]
    refine call_pf (ror_pf X Y hX (by omega)) ?_
    simp [go_sem]
    refine call_pf (rsame_true (Agree.or hX hY) (by omega)) ?_
    simp [go_sem]
    refine call_pf (and_pf _ _) ?_
    simp [go_sem]
    refine call_pf (told_pf _) ?_
    simp [go_sem]
    refine call_pf (rand_pf X Y (by omega) (by omega)) ?_
    simp [go_sem]
    refine call_pf (rsame_true (Agree.and hX hY) (by omega)) ?_
    simp [go_sem]
    refine call_pf (less_pf _ _) ?_
    simp [go_sem]
    refine call_pf (told_pf _) ?_
    simp [go_sem]
    refine call_pf (rless_pf X Y (by omega) (by omega)) ?_
    simp [go_sem]
    refine call_pf (rsame_true (Agree.less hX hY) (by omega)) ?_
    simp [go_sem]
    refine call_pf (turned_pf _) ?_
    simp [go_sem]
    refine call_pf (told_pf _) ?_
    simp [go_sem]
    refine call_pf (rturned_pf X (by omega)) ?_
    simp [go_sem]
    refine call_pf (rsame_true (Agree.turned hX) (by omega)) ?_
    simp [go_sem]
    refine call_pf (then_pf _ _) ?_
    simp [go_sem]
    refine call_pf (told_pf _) ?_
    simp [go_sem]
    refine call_pf (rthen_pf X Y (by omega) (by omega)) ?_
    simp [go_sem]
    refine call_pf (rsame_true (Agree.then hX hY) (by omega)) ?_
    simp [go_sem]
    refine call_pf (closed_pf _) ?_
    simp [go_sem]
    refine call_pf (told_pf _) ?_
    simp [go_sem]
    refine call_pf (rclosed_pf X hX) ?_
    simp [go_sem]
    refine call_pf (rsame_true (Agree.closed hX) (by omega)) ?_
    simp [go_sem]
    refine call_pf (pf_eq (around_pf _) (by rw [hlp])) ?_
    simp [go_sem]
    refine call_pf (raround_pf X hX) ?_
    simp [go_sem]
    refine hK _ ?_; clear hK K
    refine tr_ret ⟨.inr rfl, ?_⟩
    simp [go_sem]

end Go.Proofs.Ytjdaofmhklihiaa
