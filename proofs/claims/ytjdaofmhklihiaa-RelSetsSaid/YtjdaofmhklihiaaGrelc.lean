/- Relations: walks of closures and counts of the package rel. -/
import Derived.Test.YtjdaofmhklihiaaGrelb
set_option linter.unusedVariables false
set_option linter.unusedSimpArgs false
namespace Go.Proofs.Ytjdaofmhklihiaa
open Go Go.Sl Go.Proofs.Try

theorem closed_pf (p : Nat → Nat → Bool) : Pf Try.prog 21 [.agg (relC p)] (.agg (relC (cl p))) := by
  refine Pf.of_fn (.cons (.agg (nl_relC p)) .nil) (.agg (nl_relC _)) ?_
  refine fn_in T_ok func21 rfl rfl ntmps21 rfl (by simp) ?_
  refine region_k T_ok (by decide) fun K hK => ?_
  simp [go_sem]
  refine hK _ ?_; clear hK K
  refine seq_k fun K1 hK1 => ?_
  refine region_k T_ok (by decide) fun K hK => ?_
  simp [go_sem]
  refine hK _ ?_; clear hK K
  refine tr_block ?_
  refine loop_p (α := Nat × Nat) (fun a => ⟨29, [(1, .ptr 0 0 0), (2, .ptr 1 0 0), (5, .val (.int .i64 a.1))], [(0, .rows 16 [.agg (relC (wN p a.1))]), (1, .rows 16 [.agg (relC fun _ _ => false)])], a.2 + 2⟩) (fun a => a.1 ≤ 16) (fun a => 16 - a.1) (0, 0) ?_ ?_ ?_
  · dsimp only; omega
  · exact Weaker.of (by simp [Sl.get]) (by simp) (by simp [Sl.look]; rfl)
  rintro ⟨i, j⟩ hi
  dsimp only at hi ⊢
  refine region_k T_ok (by decide) fun K hK => ?_
  simp [go_sem]
  refine hK _ ?_; clear hK K
  refine seq_k fun K2 hK2 => ?_
  refine cond_k rfl (fun h => ?_) (fun h => ?_)
  · simp at h
    have hI := h
    clear h
    have h' : i < 16 := by omega
    have hL : i ≤ 15 := by omega
    have hw : IntKind.i64.wrap ((i : Nat) + 1) = (i : Nat) + 1 := wrap_i64 (by omega) (by omega)
    refine tr_skip ?_
    refine hK2 _ ?_; try clear hK2 K2
    refine seq_k fun K3 hK3 => ?_
    refine tr_block ?_
    refine region_k T_ok (by decide) fun K hK => ?_
    simp [go_sem]
    refine hK _ ?_; clear hK K
    refine region_k T_ok (by decide) fun K hK => ?_
    simp [go_sem]
    refine hK _ ?_; clear hK K
    refine tr_block ?_
    refine loop_p (α := Nat × Nat) (fun a => ⟨29, [(1, .ptr 0 0 0), (2, .ptr 1 0 0), (3, .val (.int .i64 i)), (5, .val (.int .i64 i)), (8, .val (.int .i64 a.1))], [(0, .rows 16 [.agg (relC fun x b => if x < a.1 then wN p i x b || (wN p i x i && wN p i i b) else wN p i x b)]), (1, .rows 16 [.agg (relC fun _ _ => false)])], a.2 + 2⟩) (fun a => a.1 ≤ 16) (fun a => 16 - a.1) (0, j) ?_ ?_ ?_
    · dsimp only; omega
    · exact Weaker.of (by simp [Sl.get]) (by simp) (by simp [Sl.look])
    rintro ⟨y, j2⟩ hy
    dsimp only at hy ⊢
    refine region_k T_ok (by decide) fun K hK => ?_
    simp [go_sem]
    refine hK _ ?_; clear hK K
    refine seq_k fun K4 hK4 => ?_
    refine cond_k rfl (fun h => ?_) (fun h => ?_)
    · simp at h
      have hyI := h
      clear h
      have hy' : y < 16 := by omega
      have hyL : y ≤ 15 := by omega
      have hwy : IntKind.i64.wrap ((y : Nat) + 1) = (y : Nat) + 1 := wrap_i64 (by omega) (by omega)
      refine tr_skip ?_
      refine hK4 _ ?_; try clear hK4 K4
      refine seq_k fun K5 hK5 => ?_
      refine tr_block ?_
      refine region_k T_ok (by decide) fun K hK => ?_
      simp [go_sem]
      refine hK _ ?_; clear hK K
      refine region_k T_ok (by decide) fun K hK => ?_
      simp [go_sem, hI, h', hL, hyI, hy', hyL, mask_shr h']
      refine hK _ ?_; clear hK K
      refine cond_k rfl (fun h => ?_) (fun h => ?_)
      · have hc : wN p i y i = true := by simpa using h
        refine draw_e T_ok (by kernel_rfl) 6 [[], [0], [0, 1], [], [3], [3, 4], [0, 1, 2, 3, 4, 5], [0, 1, 2, 3, 4, 5, 6], [0, 1, 2, 3, 4, 5, 6, 7]] [] (by decide) (by decide) (by decide) fun K hK => ?_
        first | dsimp only [List.take, List.drop] | dsimp [List.take, List.drop]
        simp [go_sem, hI, h', hL, hyI, hy', hyL, mask_or]
        refine hK _ ?_; clear hK K
        refine hK5 _ ?_; try clear hK5 K5
        refine region_e T_ok (by decide) fun K hK => ?_
        simp [go_sem, hwy]
        refine hK _ ?_; clear hK K
        refine ⟨(y + 1, j2 + 6), ?_, ?_, ?_⟩
        · dsimp only; omega
        · dsimp only; omega
        · refine Weaker.of ?_ ?_ ?_
          · simp [Sl.get]
          · first | (simp; done) | (simp; omega)
          simp [Sl.look]
          refine relC_ext fun x _ b _ => ?_
          by_cases e : x = y
          · subst e
            by_cases e2 : i < x
            · simp [e2, hc]
              cases wN p i x b <;> cases wN p i i b <;> simp
            · simp [e2, hc]
          · have : x < y + 1 ↔ x < y := by omega
            simp [e, this]
      · have hc : wN p i y i = false := by simpa using h
        refine tr_skip ?_
        refine hK5 _ ?_; try clear hK5 K5
        refine region_e T_ok (by decide) fun K hK => ?_
        simp [go_sem, hwy]
        refine hK _ ?_; clear hK K
        refine ⟨(y + 1, j2), ?_, ?_, ?_⟩
        · dsimp only; omega
        · dsimp only; omega
        · refine Weaker.of ?_ ?_ ?_
          · simp [Sl.get]
          · first | (simp; done) | (simp; omega)
          simp [Sl.look]
          refine relC_ext fun x _ b _ => ?_
          by_cases e : x = y
          · subst e; simp [hc]
          · have : x < y + 1 ↔ x < y := by omega
            simp [this]
    · simp at h
      obtain rfl : y = 16 := by omega
      refine tr_exit ?_
      refine hK3 _ ?_; try clear hK3 K3
      refine region_e T_ok (by decide) fun K hK => ?_
      simp [go_sem, hw]
      refine hK _ ?_; clear hK K
      refine ⟨(i + 1, j2), ?_, ?_, ?_⟩
      · dsimp only; omega
      · dsimp only; omega
      · refine Weaker.of ?_ ?_ ?_
        · simp [Sl.get]
        · first | (simp; done) | (simp; omega)
        simp [Sl.look]
        exact relC_ext fun a ha b _ => by simp [ha, wN]
  · simp at h
    obtain rfl : i = 16 := by omega
    refine tr_exit ?_
    refine hK1 _ ?_; try clear hK1 K1
    refine region_k T_ok (by decide) fun K hK => ?_
    simp [go_sem]
    refine hK _ ?_; clear hK K
    refine tr_ret ⟨.inr rfl, ?_⟩
    simp [go_sem]
    rfl

theorem around_pf (p : Nat → Nat → Bool) : Pf Try.prog 11 [.agg (relC p)] (.val (.bool (loopy p))) := by
  refine Pf.of_fn (.cons (.agg (nl_relC p)) .nil) (.val _) ?_
  refine fn_in T_ok func11 rfl rfl ntmps11 rfl (by simp) ?_
  refine region_k T_ok (by decide) fun K hK => ?_
  simp [go_sem]
  refine hK _ ?_; clear hK K
  refine seq_k fun K1 hK1 => ?_
  refine region_k T_ok (by decide) fun K hK => ?_
  simp [go_sem]
  refine call_pf (closed_pf _) ?_
  try simp [go_sem]
  refine hK _ ?_; clear hK K
  refine tr_block ?_
  refine loop_p (α := Nat) (fun a => ⟨17, [(1, .ptr 0 0 0), (6, .agg (relC (cl p))), (7, .val (.int .i64 a))], [(0, .rows 16 [.agg (relC p)])], 1⟩) (fun a => a ≤ 16 ∧ ∀ x, x < a → cl p x x = false) (fun a => 16 - a) 0 ?_ ?_ ?_
  · exact ⟨by omega, fun x hx => by omega⟩
  · exact Weaker.of (by simp [Sl.get]) (by simp) (by simp [Sl.look])
  rintro i ⟨hi, hn⟩
  try dsimp only
  refine region_k T_ok (by decide) fun K hK => ?_
  simp [go_sem]
  refine hK _ ?_; clear hK K
  refine seq_k fun K2 hK2 => ?_
  refine cond_k rfl (fun h => ?_) (fun h => ?_)
  · simp at h
    have hI := h
    clear h
    have h' : i < 16 := by omega
    have hL : i ≤ 15 := by omega
    have hw : IntKind.i64.wrap ((i : Nat) + 1) = (i : Nat) + 1 := wrap_i64 (by omega) (by omega)
    refine tr_skip ?_
    refine hK2 _ ?_; try clear hK2 K2
    refine seq_k fun K3 hK3 => ?_
    refine tr_block ?_
    refine region_k T_ok (by decide) fun K hK => ?_
    simp [go_sem, hI, h', hL]
    refine hK _ ?_; clear hK K
    refine region_k T_ok (by decide) fun K hK => ?_
    simp [go_sem, hI, h', mask_shr h']
    refine hK _ ?_; clear hK K
    refine cond_k rfl (fun h => ?_) (fun h => ?_)
    · have hc : cl p i i = true := by simpa using h
      refine region_k T_ok (by decide) fun K hK => ?_
      simp [go_sem]
      refine hK _ ?_; clear hK K
      refine tr_ret ⟨.inr rfl, ?_⟩
      simp [go_sem]
      exact some16_iff.2 ⟨i, h', hc⟩
    · have hc : cl p i i = false := by simpa using h
      refine tr_skip ?_
      refine hK3 _ ?_; try clear hK3 K3
      refine region_e T_ok (by decide) fun K hK => ?_
      simp [go_sem, hw]
      refine hK _ ?_; clear hK K
      refine ⟨i + 1, ?_, ?_, ?_⟩
      · refine ⟨by omega, fun x hx => ?_⟩
        by_cases e : x = i
        · subst e; exact hc
        · exact hn x (by omega)
      · omega
      · refine Weaker.of ?_ ?_ ?_
        · simp [Sl.get]
        · first | (simp; done) | (simp; omega)
        simp [Sl.look]
  · simp at h
    obtain rfl : i = 16 := by omega
    refine tr_exit ?_
    refine hK1 _ ?_; try clear hK1 K1
    refine region_k T_ok (by decide) fun K hK => ?_
    simp [go_sem]
    refine hK _ ?_; clear hK K
    refine tr_ret ⟨.inr rfl, ?_⟩
    simp [go_sem]
    refine Bool.eq_false_iff.2 fun e => ?_
    obtain ⟨b, hb, hc⟩ := some16_iff.1 e
    rw [hn b hb] at hc; cases hc

theorem cross_pf (f g : Nat → Bool) : Pf Try.prog 10 [.val (.int .u16 (mask f)), .val (.int .u16 (mask g))] (.agg (relC fun a b => f a && g b)) := by
  refine Pf.of_fn (.cons (.val _) (.cons (.val _) .nil)) (.agg (nl_relC _)) ?_
  refine fn_in T_ok func10 rfl rfl ntmps10 rfl (by simp) ?_
  refine region_k T_ok (by decide) fun K hK => ?_
  simp [go_sem]
  refine hK _ ?_; clear hK K
  refine region_k T_ok (by decide) fun K hK => ?_
  simp [go_sem]
  refine hK _ ?_; clear hK K
  refine seq_k fun K1 hK1 => ?_
  refine region_k T_ok (by decide) fun K hK => ?_
  simp [go_sem]
  refine hK _ ?_; clear hK K
  refine tr_block ?_
  refine loop_p (α := Nat) (fun a => ⟨20, [(0, .val (.int .u16 (mask f))), (1, .val (.int .u16 (mask g))), (4, .ptr 0 0 0), (5, .ptr 1 0 0), (7, .val (.int .i64 a))], [(0, .rows 16 [.agg (relC fun _ _ => false)]), (1, .rows 16 [.agg (relC fun x b => decide (x < a) && f x && g b)])], 2⟩) (fun a => a ≤ 16) (fun a => 16 - a) 0 ?_ ?_ ?_
  · omega
  · exact Weaker.of (by simp [Sl.get]) (by simp) (by simp [Sl.look])
  rintro i hi
  try dsimp only
  refine region_k T_ok (by decide) fun K hK => ?_
  simp [go_sem]
  refine hK _ ?_; clear hK K
  refine seq_k fun K2 hK2 => ?_
  refine cond_k rfl (fun h => ?_) (fun h => ?_)
  · simp at h
    have hI := h
    clear h
    have h' : i < 16 := by omega
    have hL : i ≤ 15 := by omega
    have hw : IntKind.i64.wrap ((i : Nat) + 1) = (i : Nat) + 1 := wrap_i64 (by omega) (by omega)
    refine tr_skip ?_
    refine hK2 _ ?_; try clear hK2 K2
    refine seq_k fun K3 hK3 => ?_
    refine tr_block ?_
    refine region_k T_ok (by decide) fun K hK => ?_
    simp [go_sem]
    refine hK _ ?_; clear hK K
    refine region_k T_ok (by decide) fun K hK => ?_
    simp [go_sem, hI, h', mask_shr h']
    refine hK _ ?_; clear hK K
    refine cond_k rfl (fun h => ?_) (fun h => ?_)
    · have hc : f i = true := by simpa using h
      refine region_e T_ok (by decide) fun K hK => ?_
      simp [go_sem, hI, h', hL]
      refine hK _ ?_; clear hK K
      refine hK3 _ ?_; try clear hK3 K3
      refine region_e T_ok (by decide) fun K hK => ?_
      simp [go_sem, hw]
      refine hK _ ?_; clear hK K
      refine ⟨i + 1, ?_, ?_, ?_⟩
      · omega
      · omega
      · refine Weaker.of ?_ ?_ ?_
        · simp [Sl.get]
        · first | (simp; done) | (simp; omega)
        simp [Sl.look]
        refine relC_ext fun x _ b _ => ?_
        by_cases e : x = i
        · subst e; simp [hc]
        · have : x < i + 1 ↔ x < i := by omega
          simp [e, this]
    · have hc : f i = false := by simpa using h
      refine tr_skip ?_
      refine hK3 _ ?_; try clear hK3 K3
      refine region_e T_ok (by decide) fun K hK => ?_
      simp [go_sem, hw]
      refine hK _ ?_; clear hK K
      refine ⟨i + 1, ?_, ?_, ?_⟩
      · omega
      · omega
      · refine Weaker.of ?_ ?_ ?_
        · simp [Sl.get]
        · first | (simp; done) | (simp; omega)
        simp [Sl.look]
        refine relC_ext fun x _ b _ => ?_
        by_cases e : x = i
        · subst e; simp [hc]
        · have : x < i + 1 ↔ x < i := by omega
          simp [e, this]
  · simp at h
    obtain rfl : i = 16 := by omega
    refine tr_exit ?_
    refine hK1 _ ?_; try clear hK1 K1
    refine region_k T_ok (by decide) fun K hK => ?_
    simp [go_sem]
    refine hK _ ?_; clear hK K
    refine tr_ret ⟨.inr rfl, ?_⟩
    simp [go_sem]
    exact relC_ext fun a ha b _ => by simp [ha]

theorem countR_pf (p : Nat → Nat → Bool) : Pf Try.prog 25 [.agg (relC p)] (.val (.int .i64 (cntR p 16))) := by
  refine Pf.of_fn (.cons (.agg (nl_relC p)) .nil) (.val _) ?_
  refine fn_in T_ok func25 rfl rfl ntmps25 rfl (by simp) ?_
  refine region_k T_ok (by decide) fun K hK => ?_
  simp [go_sem]
  refine hK _ ?_; clear hK K
  refine region_k T_ok (by decide) fun K hK => ?_
  simp [go_sem]
  refine hK _ ?_; clear hK K
  refine seq_k fun K1 hK1 => ?_
  refine region_k T_ok (by decide) fun K hK => ?_
  simp [go_sem]
  refine hK _ ?_; clear hK K
  refine tr_block ?_
  refine loop_p (α := Nat) (fun a => ⟨17, [(1, .ptr 0 0 0), (3, .val (.int .i64 (cntR p a))), (6, .agg (relC p)), (7, .val (.int .i64 a))], [(0, .rows 16 [.agg (relC p)])], 1⟩) (fun a => a ≤ 16) (fun a => 16 - a) 0 ?_ ?_ ?_
  · omega
  · exact Weaker.of (by simp [Sl.get]; rfl) (by simp) (by simp [Sl.look])
  rintro i hi
  try dsimp only
  refine region_k T_ok (by decide) fun K hK => ?_
  simp [go_sem]
  refine hK _ ?_; clear hK K
  refine seq_k fun K2 hK2 => ?_
  refine cond_k rfl (fun h => ?_) (fun h => ?_)
  · simp at h
    have hI := h
    clear h
    have h' : i < 16 := by omega
    have hL : i ≤ 15 := by omega
    have hw : IntKind.i64.wrap ((i : Nat) + 1) = (i : Nat) + 1 := wrap_i64 (by omega) (by omega)
    have hk := cntR_le p i
    have hm := popc_le 16 _ (mask_lt (p i))
    have hw2 : IntKind.i64.wrap (((cntR p i : Nat) : Int) + ((popc (mask (p i)) : Nat) : Int)) = ((cntR p (i + 1) : Nat) : Int) := by rw [wrap_i64 (by omega) (by omega)]; simp only [cntR]; omega
    refine tr_skip ?_
    refine hK2 _ ?_; try clear hK2 K2
    refine seq_k fun K3 hK3 => ?_
    refine tr_block ?_
    refine region_k T_ok (by decide) fun K hK => ?_
    simp [go_sem, hI, h', hL]
    refine hK _ ?_; clear hK K
    refine region_e T_ok (by decide) fun K hK => ?_
    simp [go_sem]
    refine call_pf (count_pf _ (by have := mask_lt (p i); omega)) ?_
    simp [go_sem, hw2]
    refine hK _ ?_; clear hK K
    refine hK3 _ ?_; try clear hK3 K3
    refine region_e T_ok (by decide) fun K hK => ?_
    simp [go_sem, hw]
    refine hK _ ?_; clear hK K
    refine ⟨i + 1, ?_, ?_, ?_⟩
    · omega
    · omega
    · refine Weaker.of ?_ ?_ ?_
      · simp [Sl.get]
      · first | (simp; done) | (simp; omega)
      simp [Sl.look]
  · simp at h
    obtain rfl : i = 16 := by omega
    refine tr_exit ?_
    refine hK1 _ ?_; try clear hK1 K1
    refine region_k T_ok (by decide) fun K hK => ?_
    simp [go_sem]
    refine hK _ ?_; clear hK K
    refine tr_ret ⟨.inr rfl, ?_⟩
    simp [go_sem]

end Go.Proofs.Ytjdaofmhklihiaa
