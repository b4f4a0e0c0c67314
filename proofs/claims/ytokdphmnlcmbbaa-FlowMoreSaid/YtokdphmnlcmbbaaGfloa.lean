/- Flow: numbers, and what a walker knows of an argument. -/
import Derived.Test.YtokdphmnlcmbbaaGlita
import Derived.Test.YtokdphmnlcmbbaaW12
set_option linter.unusedVariables false
set_option linter.unusedSimpArgs false
namespace Go.Proofs.Ytokdphmnlcmbbaa
open Go Go.Sl Go.Proofs.Try

theorem n64_nonneg (a b : Int) : 0 ≤ n64 a b := by
  unfold n64
  rw [IntWalk.u64_in _ ⟨Int.natCast_nonneg _, by have := (BitVec.ofInt 64 a &&& BitVec.ofInt 64 b).isLt; omega⟩]
  exact Int.natCast_nonneg _

theorem left_pf (a b : Int) : Pf Try.prog 19 [uV a, uV b] (uV (sl64 a (n64 b 63))) := by
  refine Pf.of_fn (.cons (.val _) (.cons (.val _) .nil)) (.val _) ?_
  refine fn_in T_ok func19 rfl rfl ntmps19 rfl (by simp) ?_
  refine region_k T_ok (by decide) fun K hK => ?_
  simp [go_sem]
  refine hK _ ?_; clear hK K
  refine region_k T_ok (by decide) fun K hK => ?_
  simp [go_sem, n64_nonneg]
  refine hK _ ?_; clear hK K
  refine tr_ret ⟨.inr rfl, ?_⟩
  simp [go_sem]

theorem right_pf (a b : Int) : Pf Try.prog 20 [uV a, uV b] (uV (sr64 a (n64 b 63))) := by
  refine Pf.of_fn (.cons (.val _) (.cons (.val _) .nil)) (.val _) ?_
  refine fn_in T_ok func20 rfl rfl ntmps20 rfl (by simp) ?_
  refine region_k T_ok (by decide) fun K hK => ?_
  simp [go_sem]
  refine hK _ ?_; clear hK K
  refine region_k T_ok (by decide) fun K hK => ?_
  simp [go_sem, n64_nonneg]
  refine hK _ ?_; clear hK K
  refine tr_ret ⟨.inr rfl, ?_⟩
  simp [go_sem]

theorem reckon_pf (op a b : Int) : Pf Try.prog 8 [iV op, uV a, uV b] (uV (reck op a b)) := by
  refine Pf.of_fn (.cons (.val _) (.cons (.val _) (.cons (.val _) .nil))) (.val _) ?_
  refine fn_in T_ok func8 rfl rfl ntmps8 rfl (by simp) ?_
  refine region_k T_ok (by decide) fun K hK => ?_
  simp [go_sem]
  refine hK _ ?_; clear hK K
  refine seq_k fun K1 hK1 => ?_
  refine region_k T_ok (by decide) fun K hK => ?_
  simp [go_sem]
  refine hK _ ?_; clear hK K
  refine tr_block ?_
  refine region_k T_ok (by decide) fun K hK => ?_
  simp [go_sem]
  refine hK _ ?_; clear hK K
  refine cond_k rfl (fun h => ?_) (fun h => ?_)
  · have h2 : op = 2 := by simpa using h
    clear h
    refine region_k T_ok (by decide) fun K hK => ?_
    simp [go_sem]
    refine hK _ ?_; clear hK K
    refine tr_ret ⟨.inr rfl, ?_⟩
    simp [go_sem, reck, h2]
  · have h2 : ¬ op = 2 := by simpa using h
    clear h
    refine region_k T_ok (by decide) fun K hK => ?_
    simp [go_sem]
    refine hK _ ?_; clear hK K
    refine cond_k rfl (fun h => ?_) (fun h => ?_)
    · have h3 : op = 3 := by simpa using h
      clear h
      refine region_k T_ok (by decide) fun K hK => ?_
      simp [go_sem]
      refine hK _ ?_; clear hK K
      refine tr_ret ⟨.inr rfl, ?_⟩
      simp [go_sem, reck, h2, h3]
    · have h3 : ¬ op = 3 := by simpa using h
      clear h
      refine region_k T_ok (by decide) fun K hK => ?_
      simp [go_sem]
      refine hK _ ?_; clear hK K
      refine cond_k rfl (fun h => ?_) (fun h => ?_)
      · have h4 : op = 4 := by simpa using h
        clear h
        refine region_k T_ok (by decide) fun K hK => ?_
        simp [go_sem]
        refine hK _ ?_; clear hK K
        refine tr_ret ⟨.inr rfl, ?_⟩
        simp [go_sem, reck, h2, h3, h4]
      · have h4 : ¬ op = 4 := by simpa using h
        clear h
        refine region_k T_ok (by decide) fun K hK => ?_
        simp [go_sem]
        refine hK _ ?_; clear hK K
        refine cond_k rfl (fun h => ?_) (fun h => ?_)
        · have h5 : op = 5 := by simpa using h
          clear h
          refine region_k T_ok (by decide) fun K hK => ?_
          simp [go_sem]
          refine hK _ ?_; clear hK K
          refine tr_ret ⟨.inr rfl, ?_⟩
          simp [go_sem, reck, h2, h3, h4, h5]
        · have h5 : ¬ op = 5 := by simpa using h
          clear h
          refine region_k T_ok (by decide) fun K hK => ?_
          simp [go_sem]
          refine hK _ ?_; clear hK K
          refine cond_k rfl (fun h => ?_) (fun h => ?_)
          · have h6 : op = 6 := by simpa using h
            clear h
            refine region_k T_ok (by decide) fun K hK => ?_
            simp [go_sem]
            refine hK _ ?_; clear hK K
            refine tr_ret ⟨.inr rfl, ?_⟩
            simp [go_sem, reck, h2, h3, h4, h5, h6]
          · have h6 : ¬ op = 6 := by simpa using h
            clear h
            refine region_k T_ok (by decide) fun K hK => ?_
            simp [go_sem]
            refine hK _ ?_; clear hK K
            refine cond_k rfl (fun h => ?_) (fun h => ?_)
            · have h7 : op = 7 := by simpa using h
              clear h
              refine region_k T_ok (by decide) fun K hK => ?_
              simp [go_sem]
              refine call_pf (left_pf a b) ?_
              simp [go_sem]
              refine hK _ ?_; clear hK K
              refine tr_ret ⟨.inr rfl, ?_⟩
              simp [go_sem, reck, h2, h3, h4, h5, h6, h7]
            · have h7 : ¬ op = 7 := by simpa using h
              clear h
              refine tr_skip ?_
              refine hK1 _ ?_; try clear hK1 K1
              refine region_k T_ok (by decide) fun K hK => ?_
              simp [go_sem]
              refine call_pf (right_pf a b) ?_
              simp [go_sem]
              refine hK _ ?_; clear hK K
              refine tr_ret ⟨.inr rfl, ?_⟩
              simp [go_sem, reck, h2, h3, h4, h5, h6, h7]

theorem clean_pf (x : Vl) : Pf Try.prog 49 [.agg [bV x.k, uV x.v]] (.agg [bV (clean x).k, uV (clean x).v]) := by
  refine Pf.of_fn (.cons (.agg (.cons (.val _) (.cons (.val _) .nil))) .nil) (.agg (.cons (.val _) (.cons (.val _) .nil))) ?_
  refine fn_in T_ok func49 rfl rfl ntmps49 rfl (by simp) ?_
  refine region_k T_ok (by decide) fun K hK => ?_
  simp [go_sem]
  refine hK _ ?_; clear hK K
  refine seq_k fun K1 hK1 => ?_
  refine region_k T_ok (by decide) fun K hK => ?_
  simp [go_sem]
  refine hK _ ?_; clear hK K
  refine cond_k rfl (fun h => ?_) (fun h => ?_)
  · have hk : x.k = false := by simpa using h
    clear h
    refine region_k T_ok (by decide) fun K hK => ?_
    simp [go_sem]
    refine hK _ ?_; clear hK K
    refine tr_ret ⟨.inr rfl, ?_⟩
    simp [go_sem, clean, hk]
  · have hk : x.k = true := by simpa using h
    clear h
    refine tr_skip ?_
    refine hK1 _ ?_; try clear hK1 K1
    refine region_k T_ok (by decide) fun K hK => ?_
    simp [go_sem]
    refine hK _ ?_; clear hK K
    refine tr_ret ⟨.inr rfl, ?_⟩
    simp [go_sem, clean, hk]

theorem sum_pf (x y : Vl) : Pf Try.prog 50 [.agg [bV x.k, uV x.v], .agg [bV y.k, uV y.v]] (.agg [bV (vsum x y).k, uV (vsum x y).v]) := by
  refine Pf.of_fn (.cons (.agg (.cons (.val _) (.cons (.val _) .nil))) (.cons (.agg (.cons (.val _) (.cons (.val _) .nil))) .nil)) (.agg (.cons (.val _) (.cons (.val _) .nil))) ?_
  refine fn_in T_ok func50 rfl rfl ntmps50 rfl (by simp) ?_
  refine region_k T_ok (by decide) fun K hK => ?_
  simp [go_sem]
  refine hK _ ?_; clear hK K
  refine region_k T_ok (by decide) fun K hK => ?_
  cases hx : x.k
  · simp [go_sem, hx]
    refine hK _ ?_; clear hK K
    refine tr_ret ⟨.inr rfl, ?_⟩
    simp [go_sem, vsum, hx]
  · simp [go_sem, hx]
    refine hK _ ?_; clear hK K
    refine tr_ret ⟨.inr rfl, ?_⟩
    simp [go_sem, vsum, hx]

theorem arg_fn (w k : Nat) (hw : w < k) (f : V) (x : Wk) (r : Bool) (n : Int) (hr : r = true → 0 ≤ n ∧ n < 8) : Sl.Fn Try.prog 47 [.ptr w 0 0, .agg [bV r, uV n]] [(w, .rows 29 [.agg (wkC f x)])] k fun v H _ => v = .tup [.agg [bV (argW x r n).k, uV (argW x r n).v], uV (argH x r n)] ∧ H = [(w, .rows 29 [.agg (wkC f x)])] := by
  refine Sl.Fn.keep (by simp) ?_
  have e0 : ¬ w = k := by omega
  have q0 : ¬ k = w := by omega
  have e2 : ¬ w = k + 1 := by omega
  have q2 : ¬ k + 1 = w := by omega
  refine fn_in T_ok func47 rfl rfl ntmps47 rfl (by simp) ?_
  refine region_k T_ok (by decide) fun K hK => ?_
  simp [go_sem]
  refine hK _ ?_; clear hK K
  refine seq_k fun K1 hK1 => ?_
  refine region_k T_ok (by decide) fun K hK => ?_
  simp [go_sem]
  refine hK _ ?_; clear hK K
  refine cond_k rfl (fun h => ?_) (fun h => ?_)
  · obtain ⟨n0, n8⟩ := hr h
    have n8' : n.toNat < 8 := by omega
    have n17 : 17 + n.toNat + 1 ≤ 29 := by omega
    have n16 : 1 + n.toNat * 2 + 2 ≤ 29 := by omega
    refine draw_k T_ok (by kernel_rfl) 15 [[], [], [1], [0], [0, 3], [0, 1, 2, 3, 4], [0, 1, 2, 3, 4, 5], [], [], [8], [7], [7, 10], [7, 8, 9, 10, 11], [7, 8, 9, 10, 11, 12], [0, 1, 2, 3, 4, 5, 6], [0, 1, 2, 3, 4, 5, 6, 7, 8, 9, 10, 11, 12, 13, 14]] [(7, 14), (8, 14), (9, 14), (10, 14), (11, 14), (12, 14), (13, 14)] (by decide) (by decide) (by decide) fun K hK => ?_
    first | dsimp only [List.take, List.drop] | dsimp [List.take, List.drop]
    simp [go_sem, n0, n8, n8', n17, n16, e0, q0, e2, q2]
    refine ⟨by omega, ?_⟩
    refine hK _ ?_; clear hK K
    refine tr_ret ⟨.inr rfl, ?_⟩
    simp [go_sem, argW, argH, h, e0, q0, e2, q2]
  · have hr0 := h
    refine tr_skip ?_
    refine hK1 _ ?_; try clear hK1 K1
    refine region_k T_ok (by decide) fun K hK => ?_
    simp [go_sem]
    refine hK _ ?_; clear hK K
    refine tr_ret ⟨.inr rfl, ?_⟩
    simp [go_sem, argW, argH, h, e0, q0, e2, q2]

theorem set_fn (w k : Nat) (hw : w < k) (f : V) (hf : f.one = true) (x : Wk) (rd : Int) (h0 : 0 ≤ rd) (h8 : rd < 8) (v : Vl) (on : Int) : Sl.Fn Try.prog 48 [.ptr w 0 0, iV rd, .agg [bV v.k, uV v.v], uV on] [(w, .rows 29 [.agg (wkC f x)])] k fun r H _ => r = .tup [] ∧ H = [(w, .rows 29 [.agg (wkC f (setW x rd v on))])] := by
  refine Sl.Fn.keep (by simp) ?_
  have h8' : rd.toNat < 8 := by omega
  have h17 : 17 + rd.toNat + 1 ≤ 29 := by omega
  have h16 : 1 + rd.toNat * 2 + 2 ≤ 29 := by omega
  have e0 : ¬ w = k := by omega
  have q0 : ¬ k = w := by omega
  have e2 : ¬ w = k + 1 := by omega
  have q2 : ¬ k + 1 = w := by omega
  refine fn_in T_ok func48 rfl rfl ntmps48 rfl (by simp) ?_
  refine region_k T_ok (by decide) fun K hK => ?_
  simp [go_sem]
  refine hK _ ?_; clear hK K
  refine draw_e T_ok (by kernel_rfl) 13 [[], [], [], [], [], [4], [], [0], [0, 7], [0, 1, 4, 5, 7, 8], [0, 1, 4, 5, 7, 8, 9], [2], [2, 11], [0, 1, 2, 3, 4, 5, 6, 7, 8, 9, 10, 11, 12], [0, 1, 2, 3, 4, 5, 6, 7, 8, 9, 10, 11, 12, 13]] [(2, 10), (3, 10), (6, 10), (10, 11), (10, 12)] (by decide) (by decide) (by decide) fun K hK => ?_
  first | dsimp only [List.take, List.drop] | dsimp [List.take, List.drop]
  simp [go_sem, h0, h8, h8', h17, h16, hf, e0, q0, e2, q2]
  refine callD_of (clean_pf v) ?_
  simp [go_sem, h0, h8, h8', h17, h16, hf, e0, q0, e2, q2]
  refine hK _ ?_; clear hK K
  refine ⟨.inl rfl, ?_⟩
  simp [go_sem, setW, e0, q0, e2, q2]

end Go.Proofs.Ytokdphmnlcmbbaa
