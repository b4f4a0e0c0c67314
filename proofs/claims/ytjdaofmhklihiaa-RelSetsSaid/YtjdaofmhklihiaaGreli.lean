/- The document's relations: the walks of the package ordealref16, the second part. -/
import Derived.Test.YtjdaofmhklihiaaGrelh
set_option linter.unusedVariables false
set_option linter.unusedSimpArgs false
namespace Go.Proofs.Ytjdaofmhklihiaa
open Go Go.Sl Go.Proofs.Try

theorem rthen_pf (l m : List Pr) (hl : l.length ≤ 1000) (hm : m.length ≤ 1000) : Pf Try.prog 32 [.ro 2 (prs l), .ro 2 (prs m)] (.ro 2 (prs (rThen l m))) := by
  refine Pf.of_fz 1 (.cons (nl_prs l) (.cons (nl_prs m) .nil)) (nl_prs _) ?_
  refine fn_in T_ok func32 rfl rfl ntmps32 rfl (by simp) ?_
  refine region_k T_ok (by decide) fun K hK => ?_
  simp [go_sem]
  refine hK _ ?_; clear hK K
  refine region_k T_ok (by decide) fun K hK => ?_
  simp [go_sem]
  refine hK _ ?_; clear hK K
  refine seq_k fun K1 hK1 => ?_
  refine region_k T_ok (by decide) fun K hK => ?_
  simp [go_sem]
  refine hK _ ?_; clear hK K
  refine tr_block ?_
  refine loop_p (α := Nat × Nat) (fun a => ⟨38, [(1, .ro 2 (prs m)), (5, .ro 2 (prs (rThen (l.take a.1) m))), (11, .ro 2 (prs l)), (12, .val (.int .i64 l.length)), (13, .val (.int .i64 a.1))], [], a.2⟩) (fun a => a.1 ≤ l.length ∧ True) (fun a => l.length - a.1) (0, 1) ?_ ?_ ?_
  · exact ⟨by dsimp only; omega, trivial⟩
  · refine Weaker.fz 1 0 ?_ ?_ ?_
    · simp [go_sem, rThen, prs]
    · first | (simp; done) | (simp; omega)
    · simp [go_sem, rThen]
  rintro ⟨i, j⟩ ⟨hi, hc⟩
  try dsimp only at hi hc ⊢
  refine region_k T_ok (by decide) fun K hK => ?_
  simp [go_sem]
  refine hK _ ?_; clear hK K
  refine seq_k fun K2 hK2 => ?_
  refine cond_k rfl (fun h => ?_) (fun h => ?_)
  · simp at h
    have hI := h
    clear h
    have h' : i < l.length := by omega
    obtain ⟨x, hx, hx'⟩ := lt_at h'
    have hi0 : (0 : Int) ≤ (i : Nat) := by omega
    have hw : IntKind.i64.wrap ((i : Nat) + 1) = (i : Nat) + 1 := wrap_i64 (by omega) (by omega)
    refine tr_skip ?_
    refine hK2 _ ?_; try clear hK2 K2
    refine seq_k fun K3 hK3 => ?_
    refine tr_block ?_
    refine region_k T_ok (by decide) fun K hK => ?_
    simp [go_sem, hI, hx, hx', hi0, h', prC, eqCells_pr]
    refine hK _ ?_; clear hK K
    refine region_k T_ok (by decide) fun K hK => ?_
    simp [go_sem]
    refine hK _ ?_; clear hK K
    refine tr_block ?_
    refine loop_p (α := Nat × Nat) (fun a => ⟨38, [(1, .ro 2 (prs m)), (5, .ro 2 (prs (rThen1 (m.take a.1) (rThen (l.take i) m) x))), (7, .ptr j 0 0), (11, .ro 2 (prs l)), (12, .val (.int .i64 l.length)), (13, .val (.int .i64 i)), (17, .ro 2 (prs m)), (18, .val (.int .i64 m.length)), (19, .val (.int .i64 a.1))], [(j, .rows 2 [prC x])], j + a.2 + 1⟩) (fun a => a.1 ≤ m.length ∧ True) (fun a => m.length - a.1) (0, 0) ?_ ?_ ?_
    · exact ⟨by dsimp only; omega, trivial⟩
    · refine Weaker.fz 1 0 ?_ ?_ ?_
      · simp [go_sem, rThen1, prC]
      · first | (simp; done) | (simp; omega)
      · simp [go_sem, rThen1, prC]
    rintro ⟨b, c⟩ ⟨hib, hcb⟩
    try dsimp only at hib hcb ⊢
    refine region_k T_ok (by decide) fun K hK => ?_
    simp [go_sem]
    refine hK _ ?_; clear hK K
    refine seq_k fun K4 hK4 => ?_
    refine cond_k rfl (fun h => ?_) (fun h => ?_)
    · simp at h
      have hIb := h
      clear h
      have h'b : b < m.length := by omega
      obtain ⟨y, hxb, hx'b⟩ := lt_at h'b
      have hi0b : (0 : Int) ≤ (b : Nat) := by omega
      have hwb : IntKind.i64.wrap ((b : Nat) + 1) = (b : Nat) + 1 := wrap_i64 (by omega) (by omega)
      have hlen := (Fin.then1 (m.take b) (Fin.then (l.take i) m) x).len
      refine tr_skip ?_
      refine hK4 _ ?_; try clear hK4 K4
      refine seq_k fun K5 hK5 => ?_
      refine tr_block ?_
      refine region_k T_ok (by decide) fun K hK => ?_
      simp [go_sem, hIb, hxb, hx'b, hi0b, h'b, prC, eqCells_pr, prC]
      refine hK _ ?_; clear hK K
      refine region_k T_ok (by decide) fun K hK => ?_
      simp [go_sem, prC]
      refine hK _ ?_; clear hK K
      refine cond_k rfl (fun h => ?_) (fun h => ?_)
      · simp at h
        refine region_e T_ok (by decide) fun K hK => ?_
        simp [go_sem, prC]
        refine call_pf (rwith_pf _ (x.1, y.2) (by omega)) ?_
        simp [go_sem]
        refine hK _ ?_; clear hK K
        refine hK5 _ ?_; try clear hK5 K5
        refine region_e T_ok (by decide) fun K hK => ?_
        simp [go_sem, hwb]
        refine hK _ ?_; clear hK K
        refine ⟨(b + 1, c + 1), ?_, ?_, ?_⟩
        · exact ⟨by dsimp only; omega, trivial⟩
        · dsimp only; omega
        · refine Weaker.fz 1 0 ?_ ?_ ?_
          · simp [go_sem, rThen1, take_at hxb, h]
          · first | (simp; done) | (simp; omega)
          simp [go_sem, prC]
      · simp at h
        refine tr_skip ?_
        refine hK5 _ ?_; try clear hK5 K5
        refine region_e T_ok (by decide) fun K hK => ?_
        simp [go_sem, hwb]
        refine hK _ ?_; clear hK K
        refine ⟨(b + 1, c + 1), ?_, ?_, ?_⟩
        · exact ⟨by dsimp only; omega, trivial⟩
        · dsimp only; omega
        · refine Weaker.fz 1 0 ?_ ?_ ?_
          · simp [go_sem, rThen1, take_at hxb, h]
          · first | (simp; done) | (simp; omega)
          simp [go_sem, prC]
    · simp at h
      obtain rfl : b = m.length := by omega
      refine tr_exit ?_
      refine hK3 _ ?_; try clear hK3 K3
      refine region_e T_ok (by decide) fun K hK => ?_
      simp [go_sem, hw]
      refine hK _ ?_; clear hK K
      refine ⟨(i + 1, j + c + 1), ?_, ?_, ?_⟩
      · exact ⟨by dsimp only; omega, trivial⟩
      · dsimp only; omega
      · refine Weaker.fz 1 0 ?_ ?_ ?_
        · simp [go_sem, rThen, take_at hx, rThen1]
        · first | (simp; done) | (simp; omega)
        simp [go_sem, rThen]
  · simp at h
    obtain rfl : i = l.length := by omega
    refine tr_exit ?_
    refine hK1 _ ?_; try clear hK1 K1
    refine region_k T_ok (by decide) fun K hK => ?_
    simp [go_sem]
    refine hK _ ?_; clear hK K
    refine tr_ret ⟨.inr rfl, ?_⟩
    simp [go_sem]

theorem rclosed_pf (l : List Pr) (hl : Fin l) : Pf Try.prog 33 [.ro 2 (prs l)] (.ro 2 (prs (rClosed l 16))) := by
  refine Pf.of_fz 1 (.cons (nl_prs l) .nil) (nl_prs _) ?_
  have hlen := hl.len
  refine fn_in T_ok func33 rfl rfl ntmps33 rfl (by simp) ?_
  refine region_k T_ok (by decide) fun K hK => ?_
  simp [go_sem]
  refine hK _ ?_; clear hK K
  refine region_k T_ok (by decide) fun K hK => ?_
  simp [go_sem]
  refine hK _ ?_; clear hK K
  refine seq_k fun K1 hK1 => ?_
  refine region_k T_ok (by decide) fun K hK => ?_
  simp [go_sem]
  refine hK _ ?_; clear hK K
  refine tr_block ?_
  refine loop_p (α := Nat) (fun a => ⟨16, [(0, .ro 2 (prs l)), (3, .ro 2 (prs (rClosed l a))), (4, .val (.int .i64 a))], [], 0⟩) (fun a => a ≤ 16) (fun a => 16 - a) 0 ?_ ?_ ?_
  · omega
  · refine Weaker.fz 1 0 ?_ ?_ ?_
    · simp [go_sem, rClosed]
    · first | (simp; done) | (simp; omega)
    · simp [go_sem]
  rintro i hi
  try dsimp only
  refine seq_k fun K2 hK2 => ?_
  refine region_k T_ok (by decide) fun K hK => ?_
  simp [go_sem]
  refine hK _ ?_; clear hK K
  refine cond_k rfl (fun h => ?_) (fun h => ?_)
  · simp at h
    have h' : i < 16 := by omega
    have hw : IntKind.i64.wrap ((i : Nat) + 1) = (i : Nat) + 1 := wrap_i64 (by omega) (by omega)
    have hn := (hl.closed i).len
    have ht := (Fin.then (rClosed l i) l).len
    refine tr_skip ?_
    refine hK2 _ ?_; try clear hK2 K2
    refine seq_k fun K3 hK3 => ?_
    refine tr_block ?_
    refine region_e T_ok (by decide) fun K hK => ?_
    simp [go_sem]
    refine call_pf (rthen_pf _ l (by omega) (by omega)) ?_
    simp [go_sem]
    refine call_pf (ror_pf _ _ (hl.closed i) (by omega)) ?_
    simp [go_sem]
    refine hK _ ?_; clear hK K
    refine hK3 _ ?_; try clear hK3 K3
    refine region_e T_ok (by decide) fun K hK => ?_
    simp [go_sem, hw]
    refine hK _ ?_; clear hK K
    refine ⟨i + 1, ?_, ?_, ?_⟩
    · omega
    · omega
    · refine Weaker.fz 1 0 ?_ ?_ ?_
      · simp [go_sem, rClosed]
      · first | (simp; done) | (simp; omega)
      simp [go_sem]
  · simp at h
    obtain rfl : i = 16 := by omega
    refine tr_exit ?_
    refine hK1 _ ?_; try clear hK1 K1
    refine region_k T_ok (by decide) fun K hK => ?_
    simp [go_sem]
    refine hK _ ?_; clear hK K
    refine tr_ret ⟨.inr rfl, ?_⟩
    simp [go_sem]

theorem raround_pf (l : List Pr) (hl : Fin l) : Pf Try.prog 34 [.ro 2 (prs l)] (.val (.bool (rAround l))) := by
  refine Pf.of_fn (.cons (nl_prs l) .nil) (.val _) ?_
  have hlen := (hl.closed 16).len
  generalize hm : rClosed l 16 = m at hlen
  refine fn_in T_ok func34 rfl rfl ntmps34 rfl (by simp) ?_
  refine region_k T_ok (by decide) fun K hK => ?_
  simp [go_sem]
  refine hK _ ?_; clear hK K
  refine seq_k fun K1 hK1 => ?_
  refine region_k T_ok (by decide) fun K hK => ?_
  simp [go_sem]
  refine call_pf (rclosed_pf l hl) ?_
  simp [go_sem, hm]
  refine hK _ ?_; clear hK K
  refine tr_block ?_
  refine loop_p (α := Nat × Nat) (fun a => ⟨18, [(6, .ro 2 (prs m)), (7, .val (.int .i64 m.length)), (8, .val (.int .i64 a.1))], [], a.2⟩) (fun a => a.1 ≤ m.length ∧ (m.take a.1).any (fun p => p.1 == p.2) = false) (fun a => m.length - a.1) (0, 0) ?_ ?_ ?_
  · exact ⟨by dsimp only; omega, by simp⟩
  · refine Weaker.fz 1 0 ?_ ?_ ?_
    · simp [go_sem]
    · first | (simp; done) | (simp; omega)
    · simp [go_sem]
  rintro ⟨i, j⟩ ⟨hi, hc⟩
  try dsimp only at hi hc ⊢
  refine region_k T_ok (by decide) fun K hK => ?_
  simp [go_sem]
  refine hK _ ?_; clear hK K
  refine seq_k fun K2 hK2 => ?_
  refine cond_k rfl (fun h => ?_) (fun h => ?_)
  · simp at h
    have hI := h
    clear h
    have h' : i < m.length := by omega
    obtain ⟨x, hx, hx'⟩ := lt_at h'
    have hi0 : (0 : Int) ≤ (i : Nat) := by omega
    have hw : IntKind.i64.wrap ((i : Nat) + 1) = (i : Nat) + 1 := wrap_i64 (by omega) (by omega)
    refine tr_skip ?_
    refine hK2 _ ?_; try clear hK2 K2
    refine seq_k fun K3 hK3 => ?_
    refine tr_block ?_
    refine region_k T_ok (by decide) fun K hK => ?_
    simp [go_sem, hI, hx, hx', hi0, h', prC, eqCells_pr]
    refine hK _ ?_; clear hK K
    refine region_k T_ok (by decide) fun K hK => ?_
    simp [go_sem, prC]
    refine hK _ ?_; clear hK K
    refine cond_k rfl (fun h => ?_) (fun h => ?_)
    · simp at h
      refine region_k T_ok (by decide) fun K hK => ?_
      simp [go_sem]
      refine hK _ ?_; clear hK K
      refine tr_ret ⟨.inr rfl, ?_⟩
      simp [go_sem, rAround, hm]
      exact ⟨x.1, by have := List.mem_of_getElem? hx; obtain ⟨x1, x2⟩ := x; simp at h; subst h; exact this⟩
    · simp at h
      refine tr_skip ?_
      refine hK3 _ ?_; try clear hK3 K3
      refine region_e T_ok (by decide) fun K hK => ?_
      simp [go_sem, hw]
      refine hK _ ?_; clear hK K
      refine ⟨(i + 1, j + 1), ?_, ?_, ?_⟩
      · refine ⟨by dsimp only; omega, ?_⟩
        dsimp only
        rw [take_at hx, List.any_append, hc]
        simp
        exact h
      · dsimp only; omega
      · refine Weaker.fz 1 0 ?_ ?_ ?_
        · simp [go_sem]
        · first | (simp; done) | (simp; omega)
        simp [go_sem]
  · simp at h
    obtain rfl : i = m.length := by omega
    refine tr_exit ?_
    refine hK1 _ ?_; try clear hK1 K1
    refine region_k T_ok (by decide) fun K hK => ?_
    simp [go_sem]
    refine hK _ ?_; clear hK K
    refine tr_ret ⟨.inr rfl, ?_⟩
    rw [List.take_length] at hc
    simp only [rAround, hm, hc]
    simp [go_sem]

theorem rsame_pf (l m : List Pr) (hl : l.length ≤ 1000) (hm : m.length ≤ 1000) : Pf Try.prog 17 [.ro 2 (prs l), .ro 2 (prs m)] (.val (.bool (rSame l m))) := by
  refine Pf.of_fn (.cons (nl_prs l) (.cons (nl_prs m) .nil)) (.val _) ?_
  refine fn_in T_ok func17 rfl rfl ntmps17 rfl (by simp) ?_
  refine region_k T_ok (by decide) fun K hK => ?_
  simp [go_sem]
  refine hK _ ?_; clear hK K
  refine region_k T_ok (by decide) fun K hK => ?_
  by_cases h1 : (rLess l m).length = 0
  · simp [go_sem]
    refine call_pf (rless_pf l m hl hm) ?_
    simp [go_sem, h1]
    refine call_pf (rless_pf m l hm hl) ?_
    simp [go_sem]
    refine hK _ ?_; clear hK K
    refine tr_ret ⟨.inr rfl, ?_⟩
    simp [go_sem, rSame, List.length_eq_zero_iff.1 h1, List.isEmpty_iff]
    try rw [Bool.eq_iff_iff]
    try simp
  · simp [go_sem]
    refine call_pf (rless_pf l m hl hm) ?_
    simp [go_sem, h1]
    refine hK _ ?_; clear hK K
    refine tr_ret ⟨.inr rfl, ?_⟩
    have h2 : ¬ rLess l m = [] := fun e => h1 (by rw [e]; rfl)
    simp [go_sem, rSame, h2]

end Go.Proofs.Ytjdaofmhklihiaa
