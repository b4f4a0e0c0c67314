/- Relations: more walks of the package rel. -/
import Derived.Test.YtjdaofmhklihiaaGrel
set_option linter.unusedVariables false
set_option linter.unusedSimpArgs false
namespace Go.Proofs.Ytjdaofmhklihiaa
open Go Go.Sl Go.Proofs.Try

theorem turned_pf (p : Nat → Nat → Bool) : Pf Try.prog 20 [.agg (relC p)] (.agg (relC fun a b => p b a)) := by
  refine Pf.of_fn (.cons (.agg (nl_relC p)) .nil) (.agg (nl_relC _)) ?_
  refine fn_in T_ok func20 rfl rfl ntmps20 rfl (by simp) ?_
  refine region_k T_ok (by decide) fun K hK => ?_
  simp [go_sem]
  refine hK _ ?_; clear hK K
  refine region_k T_ok (by decide) fun K hK => ?_
  simp [go_sem]
  refine hK _ ?_; clear hK K
  refine seq_k fun K1 hK1 => ?_
  refine region_k T_ok (by decide) fun K hK => ?_
  simp [go_sem]
  refine hK _ ?_; clear hK K
  refine tr_block ?_
  refine loop_p (α := Nat × Nat) (fun a => ⟨29, [(1, .ptr 0 0 0), (2, .ptr 1 0 0), (3, .ptr 2 0 0), (6, .val (.int .i64 a.1))], [(0, .rows 16 [.agg (relC p)]), (1, .rows 16 [.agg (relC fun _ _ => false)]), (2, .rows 16 [.agg (relC fun b x => decide (x < a.1) && p x b)])], a.2 + 3⟩) (fun a => a.1 ≤ 16) (fun a => 16 - a.1) (0, 0) ?_ ?_ ?_
  · dsimp only; omega
  · exact Weaker.of (by simp [Sl.get]) (by simp) (by simp [Sl.look])
  rintro ⟨i, j⟩ hi
  dsimp only at hi ⊢
  refine region_k T_ok (by decide) fun K hK => ?_
  simp [go_sem]
  refine hK _ ?_; clear hK K
  refine seq_k fun K2 hK2 => ?_
  refine cond_k rfl (fun h => ?_) (fun h => ?_)
  · simp at h
    have hI := h
    clear h
    have h' : i < 16 := by omega
    have hL : i ≤ 15 := by omega
    have hw : IntKind.i64.wrap ((i : Nat) + 1) = (i : Nat) + 1 := wrap_i64 (by omega) (by omega)
    refine tr_skip ?_
    refine hK2 _ ?_; try clear hK2 K2
    refine seq_k fun K3 hK3 => ?_
    refine tr_block ?_
    refine region_k T_ok (by decide) fun K hK => ?_
    simp [go_sem]
    refine hK _ ?_; clear hK K
    refine region_k T_ok (by decide) fun K hK => ?_
    simp [go_sem, hI, h', hL]
    refine hK _ ?_; clear hK K
    refine tr_block ?_
    refine loop_p (α := (Nat → Bool) × Nat) (fun a => ⟨29, [(1, .ptr 0 0 0), (2, .ptr 1 0 0), (3, .ptr 2 0 0), (4, .val (.int .i64 i)), (5, .val (.int .u16 (mask a.1))), (6, .val (.int .i64 i))], [(0, .rows 16 [.agg (relC p)]), (1, .rows 16 [.agg (relC fun _ _ => false)]), (2, .rows 16 [.agg (relC fun b x => (decide (x < i) && p x b) || (x == i && p i b && !a.1 b))])], a.2 + 3⟩) (fun a => ∀ b, a.1 b = true → p i b = true) (fun a => mask a.1) (p i, j) ?_ ?_ ?_
    · exact fun b hb => hb
    · exact Weaker.of (by simp [Sl.get]) (by simp) (by simp [Sl.look]; exact relC_ext fun b _ x _ => by cases p i b <;> simp)
    rintro ⟨s, j2⟩ hq
    dsimp only at hq ⊢
    refine seq_k fun K4 hK4 => ?_
    refine region_k T_ok (by decide) fun K hK => ?_
    simp [go_sem]
    refine hK _ ?_; clear hK K
    refine cond_k rfl (fun h => ?_) (fun h => ?_)
    · simp at h
      obtain ⟨hf, hfq⟩ := mask_low h
      have hp1 := mask_pos_le h
      have hfI : ((lowb (mask s) : Nat) : Int) < 16 := by omega
      have hfL : lowb (mask s) ≤ 15 := by omega
      have hfJ : ((lowb (mask s) : Nat) : Int) ≤ 15 := by omega
      refine tr_skip ?_
      refine hK4 _ ?_; try clear hK4 K4
      refine seq_k fun K5 hK5 => ?_
      refine tr_block ?_
      refine draw_e T_ok (by kernel_rfl) 7 [[], [0], [0, 1], [0, 1, 2], [0, 1, 2, 3], [], [5], [0, 1, 2, 3, 4, 5, 6], [0, 1, 2, 3, 4, 5, 6, 7], [0, 1, 2, 3, 4, 5, 6, 7, 8]] [] (by decide) (by decide) (by decide) fun K hK => ?_
      first | dsimp only [List.take, List.drop] | dsimp [List.take, List.drop]
      simp [go_sem]
      refine callD_of (first_pf _ (by omega) (by have := mask_lt s; omega)) ?_
      simp [go_sem, hf, hfI, hfL, hfJ, hI, mask_pw h', mask_or]
      refine hK _ ?_; clear hK K
      refine hK5 _ ?_; try clear hK5 K5
      refine region_e T_ok (by decide) fun K hK => ?_
      simp [go_sem, hp1, mask_drop h]
      refine hK _ ?_; clear hK K
      refine ⟨((fun b => s b && b != lowb (mask s)), j2 + 7), ?_, ?_, ?_⟩
      · dsimp only
        intro b hb
        simp at hb
        exact hq b hb.1
      · dsimp only
        rw [← mask_drop h]
        exact drop_lt _ (by omega)
      · refine Weaker.of ?_ ?_ ?_
        · simp [Sl.get]
        · first | (simp; done) | (simp; omega)
        simp [Sl.look]
        refine relC_ext fun b _ x _ => ?_
        by_cases e : b = lowb (mask s)
        · subst e; simp [hfq, hq _ hfq]
        · have e2 : (b != lowb (mask s)) = true := by simp [e]
          simp [e, e2]
    · simp at h
      refine tr_exit ?_
      refine hK3 _ ?_; try clear hK3 K3
      refine region_e T_ok (by decide) fun K hK => ?_
      simp [go_sem, hw]
      refine hK _ ?_; clear hK K
      refine ⟨(i + 1, j2), ?_, ?_, ?_⟩
      · dsimp only; omega
      · dsimp only; omega
      · refine Weaker.of ?_ ?_ ?_
        · simp [Sl.get]
        · first | (simp; done) | (simp; omega)
        simp [Sl.look]
        refine relC_ext fun b hb x _ => ?_
        have hz := mask_eq_zero.1 h b hb
        by_cases e : x = i
        · subst e; simp [hz]
        · have : x < i + 1 ↔ x < i := by omega
          have e2 : (x == i) = false := by simp [e]
          simp [e, e2, this]
  · simp at h
    obtain rfl : i = 16 := by omega
    refine tr_exit ?_
    refine hK1 _ ?_; try clear hK1 K1
    refine region_k T_ok (by decide) fun K hK => ?_
    simp [go_sem]
    refine hK _ ?_; clear hK K
    refine tr_ret ⟨.inr rfl, ?_⟩
    simp [go_sem]
    exact relC_ext fun a _ b hb => by simp [hb]

theorem then_pf (p q : Nat → Nat → Bool) : Pf Try.prog 22 [.agg (relC p), .agg (relC q)] (.agg (relC (th p q))) := by
  refine Pf.of_fn (.cons (.agg (nl_relC p)) (.cons (.agg (nl_relC q)) .nil)) (.agg (nl_relC _)) ?_
  refine fn_in T_ok func22 rfl rfl ntmps22 rfl (by simp) ?_
  refine region_k T_ok (by decide) fun K hK => ?_
  simp [go_sem]
  refine hK _ ?_; clear hK K
  refine region_k T_ok (by decide) fun K hK => ?_
  simp [go_sem]
  refine hK _ ?_; clear hK K
  refine seq_k fun K1 hK1 => ?_
  refine region_k T_ok (by decide) fun K hK => ?_
  simp [go_sem]
  refine hK _ ?_; clear hK K
  refine tr_block ?_
  refine loop_p (α := Nat × Nat) (fun a => ⟨32, [(2, .ptr 0 0 0), (3, .ptr 1 0 0), (4, .ptr 2 0 0), (5, .ptr 3 0 0), (8, .val (.int .i64 a.1))], [(0, .rows 16 [.agg (relC p)]), (1, .rows 16 [.agg (relC q)]), (2, .rows 16 [.agg (relC fun _ _ => false)]), (3, .rows 16 [.agg (relC fun x c => decide (x < a.1) && th p q x c)])], a.2 + 4⟩) (fun a => a.1 ≤ 16) (fun a => 16 - a.1) (0, 0) ?_ ?_ ?_
  · dsimp only; omega
  · exact Weaker.of (by simp [Sl.get]) (by simp) (by simp [Sl.look])
  rintro ⟨i, j⟩ hi
  dsimp only at hi ⊢
  refine region_k T_ok (by decide) fun K hK => ?_
  simp [go_sem]
  refine hK _ ?_; clear hK K
  refine seq_k fun K2 hK2 => ?_
  refine cond_k rfl (fun h => ?_) (fun h => ?_)
  · simp at h
    have hI := h
    clear h
    have h' : i < 16 := by omega
    have hL : i ≤ 15 := by omega
    have hw : IntKind.i64.wrap ((i : Nat) + 1) = (i : Nat) + 1 := wrap_i64 (by omega) (by omega)
    refine tr_skip ?_
    refine hK2 _ ?_; try clear hK2 K2
    refine seq_k fun K3 hK3 => ?_
    refine tr_block ?_
    refine region_k T_ok (by decide) fun K hK => ?_
    simp [go_sem]
    refine hK _ ?_; clear hK K
    refine region_k T_ok (by decide) fun K hK => ?_
    simp [go_sem, hI, h', hL]
    refine hK _ ?_; clear hK K
    refine tr_block ?_
    refine loop_p (α := (Nat → Bool) × Nat) (fun a => ⟨32, [(2, .ptr 0 0 0), (3, .ptr 1 0 0), (4, .ptr 2 0 0), (5, .ptr 3 0 0), (6, .val (.int .i64 i)), (7, .val (.int .u16 (mask a.1))), (8, .val (.int .i64 i))], [(0, .rows 16 [.agg (relC p)]), (1, .rows 16 [.agg (relC q)]), (2, .rows 16 [.agg (relC fun _ _ => false)]), (3, .rows 16 [.agg (relC fun x c => (decide (x < i) && th p q x c) || (x == i && some16 fun b => p i b && !a.1 b && q b c))])], a.2 + 4⟩) (fun a => ∀ b, a.1 b = true → p i b = true) (fun a => mask a.1) (p i, j) ?_ ?_ ?_
    · exact fun b hb => hb
    · exact Weaker.of (by simp [Sl.get]) (by simp) (by simp [Sl.look])
    rintro ⟨s, j2⟩ hq
    dsimp only at hq ⊢
    refine seq_k fun K4 hK4 => ?_
    refine region_k T_ok (by decide) fun K hK => ?_
    simp [go_sem]
    refine hK _ ?_; clear hK K
    refine cond_k rfl (fun h => ?_) (fun h => ?_)
    · simp at h
      obtain ⟨hf, hfq⟩ := mask_low h
      have hp1 := mask_pos_le h
      have hfI : ((lowb (mask s) : Nat) : Int) < 16 := by omega
      have hfL : lowb (mask s) ≤ 15 := by omega
      have hfJ : ((lowb (mask s) : Nat) : Int) ≤ 15 := by omega
      refine tr_skip ?_
      refine hK4 _ ?_; try clear hK4 K4
      refine seq_k fun K5 hK5 => ?_
      refine tr_block ?_
      refine draw_e T_ok (by kernel_rfl) 8 [[], [0], [0, 1], [], [3], [3, 4], [3, 4, 5], [3, 4, 5, 6], [0, 1, 2, 3, 4, 5, 6, 7], [0, 1, 2, 3, 4, 5, 6, 7, 8], [0, 1, 2, 3, 4, 5, 6, 7, 8, 9]] [] (by decide) (by decide) (by decide) fun K hK => ?_
      first | dsimp only [List.take, List.drop] | dsimp [List.take, List.drop]
      simp [go_sem, hI, h', hL]
      refine callD_of (first_pf _ (by omega) (by have := mask_lt s; omega)) ?_
      simp [go_sem, hf, hfI, hfL, hfJ, hI, h', hL, mask_or]
      refine hK _ ?_; clear hK K
      refine hK5 _ ?_; try clear hK5 K5
      refine region_e T_ok (by decide) fun K hK => ?_
      simp [go_sem, hp1, mask_drop h]
      refine hK _ ?_; clear hK K
      refine ⟨((fun b => s b && b != lowb (mask s)), j2 + 8), ?_, ?_, ?_⟩
      · dsimp only
        intro b hb
        simp at hb
        exact hq b hb.1
      · dsimp only
        rw [← mask_drop h]
        exact drop_lt _ (by omega)
      · refine Weaker.of ?_ ?_ ?_
        · simp [Sl.get]
        · first | (simp; done) | (simp; omega)
        simp only [Sl.look, List.mem_cons, List.not_mem_nil, or_false, forall_eq_or_imp, forall_eq, reduceIte, Nat.reduceEqDiff]
        refine ⟨trivial, trivial, trivial, ?_⟩
        congr 4
        refine relC_ext fun x _ c _ => ?_
        by_cases e : x = i
        · subst e
          have hd := any_drop (p := p x) (s := s) (q := fun b => q b c) hf (hq _ hfq) hfq
          simp only [if_true, Nat.lt_irrefl, decide_false, Bool.false_and, Bool.false_or, beq_self_eq_true, Bool.true_and]
          exact hd.symm
        · have e2 : (x == i) = false := by simp [e]
          simp [e, e2]
    · simp at h
      refine tr_exit ?_
      refine hK3 _ ?_; try clear hK3 K3
      refine region_e T_ok (by decide) fun K hK => ?_
      simp [go_sem, hw]
      refine hK _ ?_; clear hK K
      refine ⟨(i + 1, j2), ?_, ?_, ?_⟩
      · dsimp only; omega
      · dsimp only; omega
      · refine Weaker.of ?_ ?_ ?_
        · simp [Sl.get]
        · first | (simp; done) | (simp; omega)
        simp [Sl.look]
        refine relC_ext fun x _ c _ => ?_
        by_cases e : x = i
        · subst e
          simp only [Nat.lt_irrefl, decide_false, Bool.false_and, Bool.false_or, beq_self_eq_true, Bool.true_and, Nat.lt_succ_self, decide_true]
          exact some16_ext fun b hb => by simp [mask_eq_zero.1 h b hb]
        · have : x < i + 1 ↔ x < i := by omega
          have e2 : (x == i) = false := by simp [e]
          simp [e, e2, this]
  · simp at h
    obtain rfl : i = 16 := by omega
    refine tr_exit ?_
    refine hK1 _ ?_; try clear hK1 K1
    refine region_k T_ok (by decide) fun K hK => ?_
    simp [go_sem]
    refine hK _ ?_; clear hK K
    refine tr_ret ⟨.inr rfl, ?_⟩
    simp [go_sem]
    exact relC_ext fun a ha b _ => by simp [ha]

end Go.Proofs.Ytjdaofmhklihiaa
