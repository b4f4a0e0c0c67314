/- The document's relations: the walks of the package ordealref16. -/
import Derived.Test.YtjdaofmhklihiaaGrele
import Derived.Test.YtjdaofmhklihiaaW5
set_option linter.unusedVariables false
set_option linter.unusedSimpArgs false
namespace Go.Proofs.Ytjdaofmhklihiaa
open Go Go.Sl Go.Proofs.Try

theorem rhas_pf (l : List Pr) (p : Pr) (hl : l.length ≤ 1000) : Pf Try.prog 26 [.ro 2 (prs l), prC p] (.val (.bool (l.contains p))) := by
  refine Pf.of_fn (.cons (nl_prs l) (.cons (nl_prC' p) .nil)) (.val _) ?_
  refine fn_in T_ok func26 rfl rfl ntmps26 rfl (by simp) ?_
  refine region_k T_ok (by decide) fun K hK => ?_
  simp [go_sem, prC]
  refine hK _ ?_; clear hK K
  refine seq_k fun K1 hK1 => ?_
  refine region_k T_ok (by decide) fun K hK => ?_
  simp [go_sem]
  refine hK _ ?_; clear hK K
  refine tr_block ?_
  refine loop_p (α := Nat × Nat) (fun a => ⟨17, [(3, .ptr 0 0 0), (7, .ro 2 (prs l)), (8, .val (.int .i64 l.length)), (9, .val (.int .i64 a.1))], [(0, .rows 2 [prC p])], a.2 + 1⟩) (fun a => a.1 ≤ l.length ∧ (l.take a.1).contains p = false) (fun a => l.length - a.1) (0, 0) ?_ ?_ ?_
  · exact ⟨by dsimp only; omega, by simp⟩
  · refine Weaker.fz 1 0 ?_ ?_ ?_
    · simp [go_sem, prC]
    · first | (simp; done) | (simp; omega)
    · simp [go_sem, prC]
  rintro ⟨i, j⟩ ⟨hi, hc⟩
  try dsimp only at hi hc ⊢
  refine region_k T_ok (by decide) fun K hK => ?_
  simp [go_sem]
  refine hK _ ?_; clear hK K
  refine seq_k fun K2 hK2 => ?_
  refine cond_k rfl (fun h => ?_) (fun h => ?_)
  · simp at h
    have hI := h
    clear h
    have h' : i < l.length := by omega
    obtain ⟨x, hx, hx'⟩ := lt_at h'
    have hi0 : (0 : Int) ≤ (i : Nat) := by omega
    have hw : IntKind.i64.wrap ((i : Nat) + 1) = (i : Nat) + 1 := wrap_i64 (by omega) (by omega)
    refine tr_skip ?_
    refine hK2 _ ?_; try clear hK2 K2
    refine seq_k fun K3 hK3 => ?_
    refine tr_block ?_
    refine region_k T_ok (by decide) fun K hK => ?_
    simp [go_sem, hI, hx, hx', hi0, h', prC, eqCells_pr]
    refine hK _ ?_; clear hK K
    refine region_k T_ok (by decide) fun K hK => ?_
    simp [go_sem, hI, hx, hx', hi0, h', prC, eqCells_pr]
    refine hK _ ?_; clear hK K
    refine cond_k rfl (fun h => ?_) (fun h => ?_)
    · simp at h
      obtain rfl : x = p := Prod.ext h.1 h.2
      refine region_k T_ok (by decide) fun K hK => ?_
      simp [go_sem]
      refine hK _ ?_; clear hK K
      refine tr_ret ⟨.inr rfl, ?_⟩
      simp [go_sem]
      exact List.mem_of_getElem? hx
    · have hne : ¬ x = p := by rintro rfl; simp at h
      refine tr_skip ?_
      refine hK3 _ ?_; try clear hK3 K3
      refine region_e T_ok (by decide) fun K hK => ?_
      simp [go_sem, hw]
      refine hK _ ?_; clear hK K
      refine ⟨(i + 1, j + 1), ?_, ?_, ?_⟩
      · refine ⟨by dsimp only; omega, ?_⟩
        dsimp only
        rw [take_at hx]
        simp at hc ⊢
        exact ⟨hc, fun e => hne e.symm⟩
      · dsimp only; omega
      · refine Weaker.fz 1 0 ?_ ?_ ?_
        · simp [go_sem, prC]
        · first | (simp; done) | (simp; omega)
        simp [go_sem, prC]
  · simp at h
    obtain rfl : i = l.length := by omega
    refine tr_exit ?_
    refine hK1 _ ?_; try clear hK1 K1
    refine region_k T_ok (by decide) fun K hK => ?_
    simp [go_sem]
    refine hK _ ?_; clear hK K
    refine tr_ret ⟨.inr rfl, ?_⟩
    simp at hc
    simp [go_sem, hc]

theorem rwith_pf (l : List Pr) (p : Pr) (hl : l.length ≤ 1000) : Pf Try.prog 16 [.ro 2 (prs l), prC p] (.ro 2 (prs (rWith l p))) := by
  refine Pf.of_fz 1 (.cons (nl_prs l) (.cons (nl_prC' p) .nil)) (nl_prs _) ?_
  have hcase : p.1 < 0 ∨ (¬ p.1 < 0 ∧ 15 < p.1) ∨ (¬ p.1 < 0 ∧ ¬ 15 < p.1 ∧ p.2 < 0) ∨ (¬ p.1 < 0 ∧ ¬ 15 < p.1 ∧ ¬ p.2 < 0 ∧ 15 < p.2) ∨ (¬ p.1 < 0 ∧ ¬ 15 < p.1 ∧ ¬ p.2 < 0 ∧ ¬ 15 < p.2) := by omega
  have hw1 : rIn p = false → rWith l p = l := fun h => by simp [rWith, h]
  refine fn_in T_ok func16 rfl rfl ntmps16 rfl (by simp) ?_
  refine region_k T_ok (by decide) fun K hK => ?_
  simp [go_sem, prC]
  refine hK _ ?_; clear hK K
  refine seq_k fun K1 hK1 => ?_
  refine region_k T_ok (by decide) fun K hK => ?_
  rcases hcase with h1 | ⟨h1, h2⟩ | ⟨h1, h2, h3⟩ | ⟨h1, h2, h3, h4⟩ | ⟨h1, h2, h3, h4⟩
  · simp [go_sem, prC, h1]
    have hn := hw1 (by simp [rIn]; omega)
    refine hK _ ?_; clear hK K
    refine cond_k rfl (fun h => ?_) (fun h => ?_)
    · skip
      refine region_k T_ok (by decide) fun K hK => ?_
      simp [go_sem]
      refine hK _ ?_; clear hK K
      refine tr_ret ⟨.inr rfl, ?_⟩
      simp [go_sem, hn]
    · simp at h
  · simp [go_sem, prC, h1, h2]
    have hn := hw1 (by simp [rIn]; omega)
    refine hK _ ?_; clear hK K
    refine cond_k rfl (fun h => ?_) (fun h => ?_)
    · skip
      refine region_k T_ok (by decide) fun K hK => ?_
      simp [go_sem]
      refine hK _ ?_; clear hK K
      refine tr_ret ⟨.inr rfl, ?_⟩
      simp [go_sem, hn]
    · simp at h
  · simp [go_sem, prC, h1, h2, h3]
    have hn := hw1 (by simp [rIn]; omega)
    refine hK _ ?_; clear hK K
    refine cond_k rfl (fun h => ?_) (fun h => ?_)
    · skip
      refine region_k T_ok (by decide) fun K hK => ?_
      simp [go_sem]
      refine hK _ ?_; clear hK K
      refine tr_ret ⟨.inr rfl, ?_⟩
      simp [go_sem, hn]
    · simp at h
  · simp [go_sem, prC, h1, h2, h3, h4]
    have hn := hw1 (by simp [rIn]; omega)
    refine hK _ ?_; clear hK K
    refine cond_k rfl (fun h => ?_) (fun h => ?_)
    · skip
      refine region_k T_ok (by decide) fun K hK => ?_
      simp [go_sem]
      refine hK _ ?_; clear hK K
      refine tr_ret ⟨.inr rfl, ?_⟩
      simp [go_sem, hn]
    · simp at h
  · simp [go_sem, prC, h1, h2, h3, h4]
    have hyes : rIn p = true := rIn_iff.2 (by omega)
    refine call_pf (rhas_pf l p hl) ?_
    simp [go_sem, prC, h1, h2, h3, h4]
    refine hK _ ?_; clear hK K
    refine cond_k rfl (fun h => ?_) (fun h => ?_)
    · simp at h
      refine region_k T_ok (by decide) fun K hK => ?_
      simp [go_sem]
      refine hK _ ?_; clear hK K
      refine tr_ret ⟨.inr rfl, ?_⟩
      simp [go_sem, rWith, h]
    · simp at h
      refine tr_skip ?_
      refine hK1 _ ?_; try clear hK1 K1
      refine draw_k T_ok (by kernel_rfl) 5 [[], [], [0, 1], [], [3], [0, 1, 2, 3, 4], [0, 1, 2, 3, 4, 5]] [(0, 1), (0, 3), (2, 3), (0, 4), (1, 4), (2, 4)] (by decide) (by decide) (by decide) fun K hK => ?_
      first | dsimp only [List.take, List.drop] | dsimp [List.take, List.drop]
      simp [go_sem, prC]
      refine ⟨by omega, ?_⟩
      refine ⟨by omega, ?_⟩
      refine hK _ ?_; clear hK K
      refine tr_ret ⟨.inr rfl, ?_⟩
      simp [go_sem, rWith, hyes, h, prs, prC]
      rw [List.take_of_length_le (by simp)]

theorem rand_pf (l m : List Pr) (hl : l.length ≤ 1000) (hm : m.length ≤ 1000) : Pf Try.prog 29 [.ro 2 (prs l), .ro 2 (prs m)] (.ro 2 (prs (rAnd l m))) := by
  refine Pf.of_fz 1 (.cons (nl_prs l) (.cons (nl_prs m) .nil)) (nl_prs _) ?_
  refine fn_in T_ok func29 rfl rfl ntmps29 rfl (by simp) ?_
  refine region_k T_ok (by decide) fun K hK => ?_
  simp [go_sem]
  refine hK _ ?_; clear hK K
  refine region_k T_ok (by decide) fun K hK => ?_
  simp [go_sem]
  refine hK _ ?_; clear hK K
  refine seq_k fun K1 hK1 => ?_
  refine region_k T_ok (by decide) fun K hK => ?_
  simp [go_sem]
  refine hK _ ?_; clear hK K
  refine tr_block ?_
  refine loop_p (α := Nat × Nat × Nat) (fun a => ⟨24, [(1, .ro 2 (prs m)), (5, .sl a.2.1 0 (rAnd (l.take a.1) m).length), (9, .ro 2 (prs l)), (10, .val (.int .i64 l.length)), (11, .val (.int .i64 a.1))], [(a.2.1, .rows 2 (prs (rAnd (l.take a.1) m)))], a.2.1 + a.2.2 + 1⟩) (fun a => a.1 ≤ l.length ∧ True) (fun a => l.length - a.1) (0, 0, 0) ?_ ?_ ?_
  · exact ⟨by dsimp only; omega, trivial⟩
  · refine Weaker.fz 1 0 ?_ ?_ ?_
    · simp [go_sem, rAnd]
    · first | (simp; done) | (simp; omega)
    · simp [go_sem, rAnd, prs]
  rintro ⟨i, n, j⟩ ⟨hi, hc⟩
  try dsimp only at hi hc ⊢
  refine region_k T_ok (by decide) fun K hK => ?_
  simp [go_sem]
  refine hK _ ?_; clear hK K
  refine seq_k fun K2 hK2 => ?_
  refine cond_k rfl (fun h => ?_) (fun h => ?_)
  · simp at h
    have hI := h
    clear h
    have h' : i < l.length := by omega
    obtain ⟨x, hx, hx'⟩ := lt_at h'
    have hi0 : (0 : Int) ≤ (i : Nat) := by omega
    have hw : IntKind.i64.wrap ((i : Nat) + 1) = (i : Nat) + 1 := wrap_i64 (by omega) (by omega)
    have hlen : (rAnd (l.take i) m).length ≤ 1000 := Nat.le_trans (List.length_filter_le _ _) (by simp; omega)
    refine tr_skip ?_
    refine hK2 _ ?_; try clear hK2 K2
    refine seq_k fun K3 hK3 => ?_
    refine tr_block ?_
    refine region_k T_ok (by decide) fun K hK => ?_
    simp [go_sem, hI, hx, hx', hi0, h', prC, eqCells_pr]
    refine hK _ ?_; clear hK K
    refine region_k T_ok (by decide) fun K hK => ?_
    simp [go_sem, hI, hx, hx', hi0, h', prC, eqCells_pr]
    refine call_pf (rhas_pf m x (by omega)) ?_
    simp [go_sem]
    refine hK _ ?_; clear hK K
    refine cond_k rfl (fun h => ?_) (fun h => ?_)
    · skip
      refine region_e T_ok (by decide) fun K hK => ?_
      simp [go_sem, hI, hx, hx', hi0, h', prC, eqCells_pr, prs_append, prs_len]
      refine ⟨by omega, ?_⟩
      refine hK _ ?_; clear hK K
      refine hK3 _ ?_; try clear hK3 K3
      refine region_e T_ok (by decide) fun K hK => ?_
      simp [go_sem, hw]
      refine hK _ ?_; clear hK K
      refine ⟨(i + 1, n + j + 3, 0), ?_, ?_, ?_⟩
      · exact ⟨by dsimp only; omega, trivial⟩
      · dsimp only; omega
      · refine Weaker.fz 1 0 ?_ ?_ ?_
        · simp [go_sem, rAnd, take_at hx, h]
        · first | (simp; done) | (simp; omega)
        simp [go_sem, rAnd, take_at hx, prs, prC, h]
    · simp at h
      refine tr_skip ?_
      refine hK3 _ ?_; try clear hK3 K3
      refine region_e T_ok (by decide) fun K hK => ?_
      simp [go_sem, hw]
      refine hK _ ?_; clear hK K
      refine ⟨(i + 1, n, j + 1), ?_, ?_, ?_⟩
      · exact ⟨by dsimp only; omega, trivial⟩
      · dsimp only; omega
      · refine Weaker.fz 1 0 ?_ ?_ ?_
        · simp [go_sem, rAnd, take_at hx, h]
        · first | (simp; done) | (simp; omega)
        simp [go_sem, rAnd, take_at hx, prs, prC, h]
  · simp at h
    obtain rfl : i = l.length := by omega
    refine tr_exit ?_
    refine hK1 _ ?_; try clear hK1 K1
    refine region_k T_ok (by decide) fun K hK => ?_
    simp [go_sem]
    refine hK _ ?_; clear hK K
    refine tr_ret ⟨.inr rfl, ?_⟩
    simp [go_sem]

theorem rless_pf (l m : List Pr) (hl : l.length ≤ 1000) (hm : m.length ≤ 1000) : Pf Try.prog 30 [.ro 2 (prs l), .ro 2 (prs m)] (.ro 2 (prs (rLess l m))) := by
  refine Pf.of_fz 1 (.cons (nl_prs l) (.cons (nl_prs m) .nil)) (nl_prs _) ?_
  refine fn_in T_ok func30 rfl rfl ntmps30 rfl (by simp) ?_
  refine region_k T_ok (by decide) fun K hK => ?_
  simp [go_sem]
  refine hK _ ?_; clear hK K
  refine region_k T_ok (by decide) fun K hK => ?_
  simp [go_sem]
  refine hK _ ?_; clear hK K
  refine seq_k fun K1 hK1 => ?_
  refine region_k T_ok (by decide) fun K hK => ?_
  simp [go_sem]
  refine hK _ ?_; clear hK K
  refine tr_block ?_
  refine loop_p (α := Nat × Nat × Nat) (fun a => ⟨25, [(1, .ro 2 (prs m)), (5, .sl a.2.1 0 (rLess (l.take a.1) m).length), (9, .ro 2 (prs l)), (10, .val (.int .i64 l.length)), (11, .val (.int .i64 a.1))], [(a.2.1, .rows 2 (prs (rLess (l.take a.1) m)))], a.2.1 + a.2.2 + 1⟩) (fun a => a.1 ≤ l.length ∧ True) (fun a => l.length - a.1) (0, 0, 0) ?_ ?_ ?_
  · exact ⟨by dsimp only; omega, trivial⟩
  · refine Weaker.fz 1 0 ?_ ?_ ?_
    · simp [go_sem, rLess]
    · first | (simp; done) | (simp; omega)
    · simp [go_sem, rLess, prs]
  rintro ⟨i, n, j⟩ ⟨hi, hc⟩
  try dsimp only at hi hc ⊢
  refine region_k T_ok (by decide) fun K hK => ?_
  simp [go_sem]
  refine hK _ ?_; clear hK K
  refine seq_k fun K2 hK2 => ?_
  refine cond_k rfl (fun h => ?_) (fun h => ?_)
  · simp at h
    have hI := h
    clear h
    have h' : i < l.length := by omega
    obtain ⟨x, hx, hx'⟩ := lt_at h'
    have hi0 : (0 : Int) ≤ (i : Nat) := by omega
    have hw : IntKind.i64.wrap ((i : Nat) + 1) = (i : Nat) + 1 := wrap_i64 (by omega) (by omega)
    have hlen : (rLess (l.take i) m).length ≤ 1000 := Nat.le_trans (List.length_filter_le _ _) (by simp; omega)
    refine tr_skip ?_
    refine hK2 _ ?_; try clear hK2 K2
    refine seq_k fun K3 hK3 => ?_
    refine tr_block ?_
    refine region_k T_ok (by decide) fun K hK => ?_
    simp [go_sem, hI, hx, hx', hi0, h', prC, eqCells_pr]
    refine hK _ ?_; clear hK K
    refine region_k T_ok (by decide) fun K hK => ?_
    simp [go_sem, hI, hx, hx', hi0, h', prC, eqCells_pr]
    refine call_pf (rhas_pf m x (by omega)) ?_
    simp [go_sem]
    refine hK _ ?_; clear hK K
    refine cond_k rfl (fun h => ?_) (fun h => ?_)
    · skip
      refine region_e T_ok (by decide) fun K hK => ?_
      simp [go_sem, hI, hx, hx', hi0, h', prC, eqCells_pr, prs_append, prs_len]
      refine ⟨by omega, ?_⟩
      refine hK _ ?_; clear hK K
      refine hK3 _ ?_; try clear hK3 K3
      refine region_e T_ok (by decide) fun K hK => ?_
      simp [go_sem, hw]
      refine hK _ ?_; clear hK K
      refine ⟨(i + 1, n + j + 3, 0), ?_, ?_, ?_⟩
      · exact ⟨by dsimp only; omega, trivial⟩
      · dsimp only; omega
      · refine Weaker.fz 1 0 ?_ ?_ ?_
        · simp [go_sem, rLess, take_at hx, h]
        · first | (simp; done) | (simp; omega)
        simp [go_sem, rLess, take_at hx, prs, prC, h]
    · simp at h
      refine tr_skip ?_
      refine hK3 _ ?_; try clear hK3 K3
      refine region_e T_ok (by decide) fun K hK => ?_
      simp [go_sem, hw]
      refine hK _ ?_; clear hK K
      refine ⟨(i + 1, n, j + 1), ?_, ?_, ?_⟩
      · exact ⟨by dsimp only; omega, trivial⟩
      · dsimp only; omega
      · refine Weaker.fz 1 0 ?_ ?_ ?_
        · simp [go_sem, rLess, take_at hx, h]
        · first | (simp; done) | (simp; omega)
        simp [go_sem, rLess, take_at hx, prs, prC, h]
  · simp at h
    obtain rfl : i = l.length := by omega
    refine tr_exit ?_
    refine hK1 _ ?_; try clear hK1 K1
    refine region_k T_ok (by decide) fun K hK => ?_
    simp [go_sem]
    refine hK _ ?_; clear hK K
    refine tr_ret ⟨.inr rfl, ?_⟩
    simp [go_sem]

theorem ror_pf (l m : List Pr) (hl : Fin l) (hm : m.length ≤ 1000) : Pf Try.prog 28 [.ro 2 (prs l), .ro 2 (prs m)] (.ro 2 (prs (rOr l m))) := by
  refine Pf.of_fz 1 (.cons (nl_prs l) (.cons (nl_prs m) .nil)) (nl_prs _) ?_
  refine fn_in T_ok func28 rfl rfl ntmps28 rfl (by simp) ?_
  refine region_k T_ok (by decide) fun K hK => ?_
  simp [go_sem]
  refine hK _ ?_; clear hK K
  refine seq_k fun K1 hK1 => ?_
  refine region_k T_ok (by decide) fun K hK => ?_
  simp [go_sem]
  refine hK _ ?_; clear hK K
  refine tr_block ?_
  refine loop_p (α := Nat × Nat) (fun a => ⟨18, [(0, .ro 2 (prs (rOr l (m.take a.1)))), (7, .ro 2 (prs m)), (8, .val (.int .i64 m.length)), (9, .val (.int .i64 a.1))], [], a.2⟩) (fun a => a.1 ≤ m.length ∧ True) (fun a => m.length - a.1) (0, 0) ?_ ?_ ?_
  · exact ⟨by dsimp only; omega, trivial⟩
  · refine Weaker.fz 1 0 ?_ ?_ ?_
    · simp [go_sem, rOr]
    · first | (simp; done) | (simp; omega)
    · simp [go_sem, rOr]
  rintro ⟨i, j⟩ ⟨hi, hc⟩
  try dsimp only at hi hc ⊢
  refine region_k T_ok (by decide) fun K hK => ?_
  simp [go_sem]
  refine hK _ ?_; clear hK K
  refine seq_k fun K2 hK2 => ?_
  refine cond_k rfl (fun h => ?_) (fun h => ?_)
  · simp at h
    have hI := h
    clear h
    have h' : i < m.length := by omega
    obtain ⟨x, hx, hx'⟩ := lt_at h'
    have hi0 : (0 : Int) ≤ (i : Nat) := by omega
    have hw : IntKind.i64.wrap ((i : Nat) + 1) = (i : Nat) + 1 := wrap_i64 (by omega) (by omega)
    have hlen := (hl.or (m.take i)).len
    refine tr_skip ?_
    refine hK2 _ ?_; try clear hK2 K2
    refine seq_k fun K3 hK3 => ?_
    refine tr_block ?_
    refine region_k T_ok (by decide) fun K hK => ?_
    simp [go_sem, hI, hx, hx', hi0, h', prC, eqCells_pr]
    refine hK _ ?_; clear hK K
    refine region_e T_ok (by decide) fun K hK => ?_
    simp [go_sem, hI, hx, hx', hi0, h', prC, eqCells_pr]
    refine call_pf (rwith_pf _ x (by omega)) ?_
    simp [go_sem]
    refine hK _ ?_; clear hK K
    refine hK3 _ ?_; try clear hK3 K3
    refine region_e T_ok (by decide) fun K hK => ?_
    simp [go_sem, hw]
    refine hK _ ?_; clear hK K
    refine ⟨(i + 1, j + 1), ?_, ?_, ?_⟩
    · exact ⟨by dsimp only; omega, trivial⟩
    · dsimp only; omega
    · refine Weaker.fz 1 0 ?_ ?_ ?_
      · simp [go_sem, rOr, take_at hx]
      · first | (simp; done) | (simp; omega)
      simp [go_sem, rOr]
  · simp at h
    obtain rfl : i = m.length := by omega
    refine tr_exit ?_
    refine hK1 _ ?_; try clear hK1 K1
    refine region_k T_ok (by decide) fun K hK => ?_
    simp [go_sem]
    refine hK _ ?_; clear hK K
    refine tr_ret ⟨.inr rfl, ?_⟩
    simp [go_sem]

theorem rturned_pf (l : List Pr) (hl : l.length ≤ 1000) : Pf Try.prog 31 [.ro 2 (prs l)] (.ro 2 (prs (rTurned l))) := by
  refine Pf.of_fz 1 (.cons (nl_prs l) .nil) (nl_prs _) ?_
  refine fn_in T_ok func31 rfl rfl ntmps31 rfl (by simp) ?_
  refine region_k T_ok (by decide) fun K hK => ?_
  simp [go_sem]
  refine hK _ ?_; clear hK K
  refine region_k T_ok (by decide) fun K hK => ?_
  simp [go_sem]
  refine hK _ ?_; clear hK K
  refine seq_k fun K1 hK1 => ?_
  refine region_k T_ok (by decide) fun K hK => ?_
  simp [go_sem]
  refine hK _ ?_; clear hK K
  refine tr_block ?_
  refine loop_p (α := Nat × Nat) (fun a => ⟨23, [(3, .sl a.2 0 (rTurned (l.take a.1)).length), (7, .ro 2 (prs l)), (8, .val (.int .i64 l.length)), (9, .val (.int .i64 a.1))], [(a.2, .rows 2 (prs (rTurned (l.take a.1))))], a.2 + 1⟩) (fun a => a.1 ≤ l.length ∧ True) (fun a => l.length - a.1) (0, 0) ?_ ?_ ?_
  · exact ⟨by dsimp only; omega, trivial⟩
  · refine Weaker.fz 1 0 ?_ ?_ ?_
    · simp [go_sem, rTurned]
    · first | (simp; done) | (simp; omega)
    · simp [go_sem, rTurned, prs]
  rintro ⟨i, j⟩ ⟨hi, hc⟩
  try dsimp only at hi hc ⊢
  refine region_k T_ok (by decide) fun K hK => ?_
  simp [go_sem]
  refine hK _ ?_; clear hK K
  refine seq_k fun K2 hK2 => ?_
  refine cond_k rfl (fun h => ?_) (fun h => ?_)
  · simp at h
    have hI := h
    clear h
    have h' : i < l.length := by omega
    obtain ⟨x, hx, hx'⟩ := lt_at h'
    have hi0 : (0 : Int) ≤ (i : Nat) := by omega
    have hw : IntKind.i64.wrap ((i : Nat) + 1) = (i : Nat) + 1 := wrap_i64 (by omega) (by omega)
    have hlt : (rTurned (l.take i)).length ≤ 1000 := by simp [rTurned, List.length_take]; omega
    refine tr_skip ?_
    refine hK2 _ ?_; try clear hK2 K2
    refine seq_k fun K3 hK3 => ?_
    refine tr_block ?_
    refine region_k T_ok (by decide) fun K hK => ?_
    simp [go_sem, hI, hx, hx', hi0, h', prC, eqCells_pr]
    refine hK _ ?_; clear hK K
    refine region_e T_ok (by decide) fun K hK => ?_
    simp [go_sem, hI, hx, hx', hi0, h', prC, eqCells_pr]
    refine ⟨by omega, ?_⟩
    refine hK _ ?_; clear hK K
    refine hK3 _ ?_; try clear hK3 K3
    refine region_e T_ok (by decide) fun K hK => ?_
    simp [go_sem, hw]
    refine hK _ ?_; clear hK K
    refine ⟨(i + 1, j + 3), ?_, ?_, ?_⟩
    · exact ⟨by dsimp only; omega, trivial⟩
    · dsimp only; omega
    · refine Weaker.fz 1 0 ?_ ?_ ?_
      · simp [go_sem, rTurned, take_at hx]
      · first | (simp; done) | (simp; omega)
      simp [go_sem, rTurned, take_at hx, prs, prC]
  · simp at h
    obtain rfl : i = l.length := by omega
    refine tr_exit ?_
    refine hK1 _ ?_; try clear hK1 K1
    refine region_k T_ok (by decide) fun K hK => ?_
    simp [go_sem]
    refine hK _ ?_; clear hK K
    refine tr_ret ⟨.inr rfl, ?_⟩
    simp [go_sem]

end Go.Proofs.Ytjdaofmhklihiaa
