/- Relations: the walks of the package rel. -/
import Derived.Test.YtjdaofmhklihiaaGw1
set_option linter.unusedVariables false
set_option linter.unusedSimpArgs false
namespace Go.Proofs.Ytjdaofmhklihiaa
open Go Go.Sl Go.Proofs.Try

@[go_sem] theorem zeroRel : TI.zeroV ⟨.array 16 22, 16, 32, [.int .u16 0, .int .u16 0, .int .u16 0, .int .u16 0, .int .u16 0, .int .u16 0, .int .u16 0, .int .u16 0, .int .u16 0, .int .u16 0, .int .u16 0, .int .u16 0, .int .u16 0, .int .u16 0, .int .u16 0, .int .u16 0]⟩ = .agg (relC fun _ _ => false) := Eq.trans rfl rfl

theorem bit_pf (n : Int) : Pf Try.prog 35 [.val (.int .i64 n)] (.val (.int .u16 (mask fun i => decide ((i : Int) = n)))) := by
  refine Pf.of_fn (.cons (.val _) .nil) (.val _) ?_
  by_cases h0 : n < 0
  · refine fn_in T_ok func35 rfl rfl ntmps35 rfl (by simp) ?_
    refine region_k T_ok (by decide) fun K hK => ?_
    simp [go_sem]
    refine hK _ ?_; clear hK K
    refine seq_k fun K1 hK1 => ?_
    refine region_k T_ok (by decide) fun K hK => ?_
    simp [go_sem, h0]
    refine hK _ ?_; clear hK K
    refine cond_k rfl (fun h => ?_) (fun h => by simp at h)
    refine region_k T_ok (by decide) fun K hK => ?_
    simp [go_sem]
    refine hK _ (tr_ret ⟨.inr rfl, ?_⟩)
    simp [go_sem]
    rw [mask_eq_zero.2 fun i hi => decide_eq_false (by omega)]; rfl
  refine fn_in T_ok func35 rfl rfl ntmps35 rfl (by simp) ?_
  refine region_k T_ok (by decide) fun K hK => ?_
  simp [go_sem]
  refine hK _ ?_; clear hK K
  refine seq_k fun K1 hK1 => ?_
  refine region_k T_ok (by decide) fun K hK => ?_
  simp [go_sem, h0]
  refine hK _ ?_; clear hK K
  refine cond_k rfl (fun h => ?_) (fun h => ?_)
  · simp at h
    refine region_k T_ok (by decide) fun K hK => ?_
    simp [go_sem]
    refine hK _ ?_; clear hK K
    refine tr_ret ⟨.inr rfl, ?_⟩
    simp [go_sem]
    rw [mask_eq_zero.2 fun i hi => decide_eq_false (by omega)]; rfl
  · simp at h
    have h' : n < 16 := by omega
    have h'' : 0 ≤ n := by omega
    refine tr_skip ?_
    refine hK1 _ ?_; try clear hK1 K1
    refine region_k T_ok (by decide) fun K hK => ?_
    simp [go_sem, h, h', h'']
    refine hK _ ?_; clear hK K
    refine tr_ret ⟨.inr rfl, ?_⟩
    simp [go_sem]
    rw [mask_pw (by omega)]
    exact congrArg Nat.cast (mask_ext fun i hi => by rw [Bool.eq_iff_iff, beq_iff_eq, decide_eq_true_eq]; omega)

theorem and_pf (p q : Nat → Nat → Bool) : Pf Try.prog 9 [.agg (relC p), .agg (relC q)] (.agg (relC fun a b => p a b && q a b)) := by
  refine Pf.of_fn (.cons (.agg (nl_relC p)) (.cons (.agg (nl_relC q)) .nil)) (.agg (nl_relC _)) ?_
  refine fn_in T_ok func9 rfl rfl ntmps9 rfl (by simp) ?_
  refine region_k T_ok (by decide) fun K hK => ?_
  simp [go_sem]
  refine hK _ ?_; clear hK K
  refine seq_k fun K1 hK1 => ?_
  refine region_k T_ok (by decide) fun K hK => ?_
  simp [go_sem]
  refine hK _ ?_; clear hK K
  refine tr_block ?_
  refine loop_p (α := Nat × Nat) (fun a => ⟨19, [(2, .ptr 0 0 0), (3, .ptr 1 0 0), (4, .ptr 2 0 0), (6, .val (.int .i64 a.1))], [(0, .rows 16 [.agg (relC fun x b => if x < a.1 then p x b && q x b else p x b)]), (1, .rows 16 [.agg (relC q)]), (2, .rows 16 [.agg (relC fun _ _ => false)])], a.2 + 3⟩) (fun a => a.1 ≤ 16) (fun a => 16 - a.1) (0, 0) ?_ ?_ ?_
  · dsimp only; omega
  · exact Weaker.of (by simp [Sl.get]) (by simp) (by simp [Sl.look])
  rintro ⟨i, j⟩ hi
  dsimp only at hi ⊢
  refine region_k T_ok (by decide) fun K hK => ?_
  simp [go_sem]
  refine hK _ ?_; clear hK K
  refine seq_k fun K2 hK2 => ?_
  refine cond_k rfl (fun h => ?_) (fun h => ?_)
  · simp at h
    have h' : i < 16 := by omega
    have hw : IntKind.i64.wrap ((i : Nat) + 1) = (i : Nat) + 1 := wrap_i64 (by omega) (by omega)
    refine tr_skip ?_
    refine hK2 _ ?_; try clear hK2 K2
    refine seq_k fun K3 hK3 => ?_
    refine tr_block ?_
    refine region_k T_ok (by decide) fun K hK => ?_
    simp [go_sem]
    refine hK _ ?_; clear hK K
    refine draw_e T_ok (by kernel_rfl) 6 [[], [0], [0, 1], [], [3], [3, 4], [0, 1, 2, 3, 4, 5], [0, 1, 2, 3, 4, 5, 6], [0, 1, 2, 3, 4, 5, 6, 7]] [] (by decide) (by decide) (by decide) fun K hK => ?_
    first | dsimp only [List.take, List.drop] | dsimp [List.take, List.drop]
    simp [go_sem, h, h', mask_and]
    refine ⟨by omega, ?_⟩
    refine hK _ ?_; clear hK K
    refine hK3 _ ?_; try clear hK3 K3
    refine region_e T_ok (by decide) fun K hK => ?_
    simp [go_sem, hw]
    refine hK _ ?_; clear hK K
    refine ⟨(i + 1, j + 6), ?_, ?_, ?_⟩
    · dsimp only; omega
    · dsimp only; omega
    · refine Weaker.of ?_ ?_ ?_
      · simp [Sl.get]
      · first | (simp; done) | (simp; omega)
      simp [Sl.look]
      refine relC_ext fun a _ b _ => ?_
      by_cases e : a = i
      · subst e; simp
      · have : a < i + 1 ↔ a < i := by omega
        simp [e, this]
  · simp at h
    obtain rfl : i = 16 := by omega
    refine tr_exit ?_
    refine hK1 _ ?_; try clear hK1 K1
    refine region_k T_ok (by decide) fun K hK => ?_
    simp [go_sem]
    refine hK _ ?_; clear hK K
    refine tr_ret ⟨.inr rfl, ?_⟩
    simp [go_sem]
    exact relC_ext fun a ha b _ => by simp [ha]

theorem or_pf (p q : Nat → Nat → Bool) : Pf Try.prog 23 [.agg (relC p), .agg (relC q)] (.agg (relC fun a b => p a b || q a b)) := by
  refine Pf.of_fn (.cons (.agg (nl_relC p)) (.cons (.agg (nl_relC q)) .nil)) (.agg (nl_relC _)) ?_
  refine fn_in T_ok func23 rfl rfl ntmps23 rfl (by simp) ?_
  refine region_k T_ok (by decide) fun K hK => ?_
  simp [go_sem]
  refine hK _ ?_; clear hK K
  refine seq_k fun K1 hK1 => ?_
  refine region_k T_ok (by decide) fun K hK => ?_
  simp [go_sem]
  refine hK _ ?_; clear hK K
  refine tr_block ?_
  refine loop_p (α := Nat × Nat) (fun a => ⟨19, [(2, .ptr 0 0 0), (3, .ptr 1 0 0), (4, .ptr 2 0 0), (6, .val (.int .i64 a.1))], [(0, .rows 16 [.agg (relC fun x b => if x < a.1 then p x b || q x b else p x b)]), (1, .rows 16 [.agg (relC q)]), (2, .rows 16 [.agg (relC fun _ _ => false)])], a.2 + 3⟩) (fun a => a.1 ≤ 16) (fun a => 16 - a.1) (0, 0) ?_ ?_ ?_
  · dsimp only; omega
  · exact Weaker.of (by simp [Sl.get]) (by simp) (by simp [Sl.look])
  rintro ⟨i, j⟩ hi
  dsimp only at hi ⊢
  refine region_k T_ok (by decide) fun K hK => ?_
  simp [go_sem]
  refine hK _ ?_; clear hK K
  refine seq_k fun K2 hK2 => ?_
  refine cond_k rfl (fun h => ?_) (fun h => ?_)
  · simp at h
    have h' : i < 16 := by omega
    have hw : IntKind.i64.wrap ((i : Nat) + 1) = (i : Nat) + 1 := wrap_i64 (by omega) (by omega)
    refine tr_skip ?_
    refine hK2 _ ?_; try clear hK2 K2
    refine seq_k fun K3 hK3 => ?_
    refine tr_block ?_
    refine region_k T_ok (by decide) fun K hK => ?_
    simp [go_sem]
    refine hK _ ?_; clear hK K
    refine draw_e T_ok (by kernel_rfl) 6 [[], [0], [0, 1], [], [3], [3, 4], [0, 1, 2, 3, 4, 5], [0, 1, 2, 3, 4, 5, 6], [0, 1, 2, 3, 4, 5, 6, 7]] [] (by decide) (by decide) (by decide) fun K hK => ?_
    first | dsimp only [List.take, List.drop] | dsimp [List.take, List.drop]
    simp [go_sem, h, h', mask_or]
    refine ⟨by omega, ?_⟩
    refine hK _ ?_; clear hK K
    refine hK3 _ ?_; try clear hK3 K3
    refine region_e T_ok (by decide) fun K hK => ?_
    simp [go_sem, hw]
    refine hK _ ?_; clear hK K
    refine ⟨(i + 1, j + 6), ?_, ?_, ?_⟩
    · dsimp only; omega
    · dsimp only; omega
    · refine Weaker.of ?_ ?_ ?_
      · simp [Sl.get]
      · first | (simp; done) | (simp; omega)
      simp [Sl.look]
      refine relC_ext fun a _ b _ => ?_
      by_cases e : a = i
      · subst e; simp
      · have : a < i + 1 ↔ a < i := by omega
        simp [e, this]
  · simp at h
    obtain rfl : i = 16 := by omega
    refine tr_exit ?_
    refine hK1 _ ?_; try clear hK1 K1
    refine region_k T_ok (by decide) fun K hK => ?_
    simp [go_sem]
    refine hK _ ?_; clear hK K
    refine tr_ret ⟨.inr rfl, ?_⟩
    simp [go_sem]
    exact relC_ext fun a ha b _ => by simp [ha]

theorem less_pf (p q : Nat → Nat → Bool) : Pf Try.prog 24 [.agg (relC p), .agg (relC q)] (.agg (relC fun a b => p a b && !q a b)) := by
  refine Pf.of_fn (.cons (.agg (nl_relC p)) (.cons (.agg (nl_relC q)) .nil)) (.agg (nl_relC _)) ?_
  refine fn_in T_ok func24 rfl rfl ntmps24 rfl (by simp) ?_
  refine region_k T_ok (by decide) fun K hK => ?_
  simp [go_sem]
  refine hK _ ?_; clear hK K
  refine seq_k fun K1 hK1 => ?_
  refine region_k T_ok (by decide) fun K hK => ?_
  simp [go_sem]
  refine hK _ ?_; clear hK K
  refine tr_block ?_
  refine loop_p (α := Nat × Nat) (fun a => ⟨19, [(2, .ptr 0 0 0), (3, .ptr 1 0 0), (4, .ptr 2 0 0), (6, .val (.int .i64 a.1))], [(0, .rows 16 [.agg (relC fun x b => if x < a.1 then p x b && !q x b else p x b)]), (1, .rows 16 [.agg (relC q)]), (2, .rows 16 [.agg (relC fun _ _ => false)])], a.2 + 3⟩) (fun a => a.1 ≤ 16) (fun a => 16 - a.1) (0, 0) ?_ ?_ ?_
  · dsimp only; omega
  · exact Weaker.of (by simp [Sl.get]) (by simp) (by simp [Sl.look])
  rintro ⟨i, j⟩ hi
  dsimp only at hi ⊢
  refine region_k T_ok (by decide) fun K hK => ?_
  simp [go_sem]
  refine hK _ ?_; clear hK K
  refine seq_k fun K2 hK2 => ?_
  refine cond_k rfl (fun h => ?_) (fun h => ?_)
  · simp at h
    have h' : i < 16 := by omega
    have hw : IntKind.i64.wrap ((i : Nat) + 1) = (i : Nat) + 1 := wrap_i64 (by omega) (by omega)
    refine tr_skip ?_
    refine hK2 _ ?_; try clear hK2 K2
    refine seq_k fun K3 hK3 => ?_
    refine tr_block ?_
    refine region_k T_ok (by decide) fun K hK => ?_
    simp [go_sem]
    refine hK _ ?_; clear hK K
    refine draw_e T_ok (by kernel_rfl) 6 [[], [0], [0, 1], [], [3], [3, 4], [0, 1, 2, 3, 4, 5], [0, 1, 2, 3, 4, 5, 6], [0, 1, 2, 3, 4, 5, 6, 7]] [] (by decide) (by decide) (by decide) fun K hK => ?_
    first | dsimp only [List.take, List.drop] | dsimp [List.take, List.drop]
    simp [go_sem, h, h', mask_and, mask_less]
    refine ⟨by omega, ?_⟩
    refine hK _ ?_; clear hK K
    refine hK3 _ ?_; try clear hK3 K3
    refine region_e T_ok (by decide) fun K hK => ?_
    simp [go_sem, hw]
    refine hK _ ?_; clear hK K
    refine ⟨(i + 1, j + 6), ?_, ?_, ?_⟩
    · dsimp only; omega
    · dsimp only; omega
    · refine Weaker.of ?_ ?_ ?_
      · simp [Sl.get]
      · first | (simp; done) | (simp; omega)
      simp [Sl.look]
      refine relC_ext fun a _ b _ => ?_
      by_cases e : a = i
      · subst e; simp
      · have : a < i + 1 ↔ a < i := by omega
        simp [e, this]
  · simp at h
    obtain rfl : i = 16 := by omega
    refine tr_exit ?_
    refine hK1 _ ?_; try clear hK1 K1
    refine region_k T_ok (by decide) fun K hK => ?_
    simp [go_sem]
    refine hK _ ?_; clear hK K
    refine tr_ret ⟨.inr rfl, ?_⟩
    simp [go_sem]
    exact relC_ext fun a ha b _ => by simp [ha]

theorem with_pf (p : Nat → Nat → Bool) (a b : Int) : Pf Try.prog 27 [.agg (relC p), .val (.int .i64 a), .val (.int .i64 b)] (.agg (relC fun x y => p x y || (decide ((x : Int) = a) && decide ((y : Int) = b)))) := by
  refine Pf.of_fn (.cons (.agg (nl_relC p)) (.cons (.val _) (.cons (.val _) .nil))) (.agg (nl_relC _)) ?_
  refine fn_in T_ok func27 rfl rfl ntmps27 rfl (by simp) ?_
  refine region_k T_ok (by decide) fun K hK => ?_
  simp [go_sem]
  refine hK _ ?_; clear hK K
  refine seq_k fun K1 hK1 => ?_
  refine region_k T_ok (by decide) fun K hK => ?_
  simp [go_sem]
  refine call_pf (bit_pf _) ?_
  simp [go_sem]
  refine hK _ ?_; clear hK K
  refine cond_k rfl (fun h => ?_) (fun h => ?_)
  · simp at h
    obtain ⟨n, rfl, hn⟩ := mask_one_ne h
    have hnI : (n : Int) < 16 := by omega
    have hnL : n ≤ 15 := by omega
    refine draw_e T_ok (by kernel_rfl) 5 [[], [0], [0, 1], [], [3], [0, 1, 2, 3, 4], [0, 1, 2, 3, 4, 5], [0, 1, 2, 3, 4, 5, 6]] [] (by decide) (by decide) (by decide) fun K hK => ?_
    first | dsimp only [List.take, List.drop] | dsimp [List.take, List.drop]
    simp [go_sem, hn, hnI, hnL]
    refine callD_of (bit_pf _) ?_
    simp [go_sem, hn, hnI, hnL, mask_or]
    refine hK _ ?_; clear hK K
    refine hK1 _ ?_; try clear hK1 K1
    refine region_k T_ok (by decide) fun K hK => ?_
    simp [go_sem]
    refine hK _ ?_; clear hK K
    refine tr_ret ⟨.inr rfl, ?_⟩
    simp [go_sem]
    refine relC_ext fun x _ y _ => ?_
    by_cases e : x = n
    · subst e; simp
    · simp [e]; omega
  · simp at h
    refine tr_skip ?_
    refine hK1 _ ?_; try clear hK1 K1
    refine region_k T_ok (by decide) fun K hK => ?_
    simp [go_sem]
    refine hK _ ?_; clear hK K
    refine tr_ret ⟨.inr rfl, ?_⟩
    simp [go_sem]
    refine relC_ext fun x hx y _ => ?_
    have := mask_eq_zero.1 h x hx
    simp only [decide_eq_false_iff_not] at this
    simp [this]

theorem has_in (p : Nat → Nat → Bool) (n : Nat) (hn : n < 16) (b : Int) : Pf Try.prog 12 [.agg (relC p), .val (.int .i64 n), .val (.int .i64 b)] (.val (.bool (decide (0 ≤ b ∧ b < 16) && p n b.toNat))) := by
  refine Pf.of_fn (.cons (.agg (nl_relC p)) (.cons (.val _) (.cons (.val _) .nil))) (.val _) ?_
  have hne := mask_one_pos hn
  have hnI : (n : Int) < 16 := by omega
  have hnL : n ≤ 15 := by omega
  refine fn_in T_ok func12 rfl rfl ntmps12 rfl (by simp) ?_
  refine region_k T_ok (by decide) fun K hK => ?_
  simp [go_sem]
  refine hK _ ?_; clear hK K
  refine draw_k T_ok (by kernel_rfl) 9 [[], [0], [0, 1], [0, 1, 2], [0, 1, 2, 3], [0, 1, 2, 3, 4], [0, 1, 2, 3, 4, 5], [0, 1, 2, 3], [0, 1, 2, 3, 7], [0, 1, 2, 3, 4, 5, 6, 7, 8], [0, 1, 2, 3, 4, 5, 6, 7, 8, 9], [0, 1, 2, 3, 4, 5, 6, 7, 8, 9, 10], [0, 1, 2, 3, 4, 5, 6, 7, 8, 9, 10, 11]] [] (by decide) (by decide) (by decide) fun K hK => ?_
  first | dsimp only [List.take, List.drop] | dsimp [List.take, List.drop]
  simp [go_sem]
  refine callD_of (bit_pf _) ?_
  simp [go_sem, hn, hnI, hnL, hne]
  refine callD_of (bit_pf _) ?_
  simp [go_sem, hn, hne, mask_and]
  refine hK _ ?_; clear hK K
  refine tr_ret ⟨.inr rfl, ?_⟩
  simp [go_sem]
  exact mask_ne_one _ _

theorem has_out (p : Nat → Nat → Bool) (a b : Int) (ha : a < 0 ∨ 16 ≤ a) : Pf Try.prog 12 [.agg (relC p), .val (.int .i64 a), .val (.int .i64 b)] (.val (.bool false)) := by
  refine Pf.of_fn (.cons (.agg (nl_relC p)) (.cons (.val _) (.cons (.val _) .nil))) (.val _) ?_
  have hne := mask_one_zero ha
  refine fn_in T_ok func12 rfl rfl ntmps12 rfl (by simp) ?_
  refine region_k T_ok (by decide) fun K hK => ?_
  simp [go_sem]
  refine hK _ ?_; clear hK K
  refine draw_k T_ok (by kernel_rfl) 9 [[], [0], [0, 1], [0, 1, 2], [0, 1, 2, 3], [0, 1, 2, 3, 4], [0, 1, 2, 3, 4, 5], [0, 1, 2, 3], [0, 1, 2, 3, 7], [0, 1, 2, 3, 4, 5, 6, 7, 8], [0, 1, 2, 3, 4, 5, 6, 7, 8, 9], [0, 1, 2, 3, 4, 5, 6, 7, 8, 9, 10], [0, 1, 2, 3, 4, 5, 6, 7, 8, 9, 10, 11]] [] (by decide) (by decide) (by decide) fun K hK => ?_
  first | dsimp only [List.take, List.drop] | dsimp [List.take, List.drop]
  simp [go_sem]
  refine callD_of (bit_pf _) ?_
  simp [go_sem, hne]
  refine hK _ ?_; clear hK K
  refine tr_ret ⟨.inr rfl, ?_⟩
  simp [go_sem]

end Go.Proofs.Ytjdaofmhklihiaa
