/- Relations: the walk of the law RelOrders of the package rel. -/
import Derived.Test.YtjdaofmhklihiaaGrele
import Derived.Test.YtjdaofmhklihiaaW3
namespace Go.Proofs.Ytjdaofmhklihiaa
open Go Go.Sl Go.Proofs.Try

set_option maxRecDepth 100000 in
set_option maxHeartbeats 8000000 in
theorem relOrders_pf (p : Nat → Nat → Bool) (s : Nat → Bool) : Pf Try.prog 3 [.agg (relC p), .val (.int .u16 (mask s))] (.val (.bool true)) := by
  refine Pf.of_fn (.cons (.agg (nl_relC p)) (.cons (.val _) .nil)) (.val _) ?_
  refine fn_in T_ok func3 rfl rfl ntmps3 rfl (by simp) ?_
  refine region_k T_ok (by decide) fun K hK => ?_
  simp [go_sem]
  refine hK _ ?_; clear hK K
  refine region_k T_ok (by decide) fun K hK => ?_
  simp [go_sem]
  refine call_pf (order_pf p s) ?_
  cases ho : order p s []
  · have hl := order_stuck ho
    simp [go_sem, ordV]
    refine hK _ ?_; clear hK K
    refine seq_k fun K1 hK1 => ?_
    refine region_k T_ok (by decide) fun K hK => ?_
    simp [go_sem]
    refine hK _ ?_; clear hK K
    refine cond_k rfl (fun h => ?_) (fun h => ?_)
    · skip
      refine draw_k T_ok (by kernel_rfl) 11 [[], [0], [0, 1], [0, 1, 2], [0, 1, 2, 3], [0, 1, 2, 3, 4], [0, 1, 2, 3, 4, 5], [0, 1, 2, 3, 4, 5, 6], [0, 1, 2, 3, 4, 5, 6], [0, 1, 2, 3, 4, 5, 6], [0, 1, 2, 3, 4, 5, 6, 8, 9], [0, 1, 2, 3, 4, 5, 6, 7, 8, 9, 10], [0, 1, 2, 3, 4, 5, 6, 7, 8, 9, 10, 11], [0, 1, 2, 3, 4, 5, 6, 7, 8, 9, 10, 11, 12], [0, 1, 2, 3, 4, 5, 6, 7, 8, 9, 10, 11, 12, 13]] [] (by decide) (by decide) (by decide) fun K hK => ?_
      first | dsimp only [List.take, List.drop] | dsimp [List.take, List.drop]
      simp [go_sem]
      refine callD_of awake16 ?_
      simp [go_sem]
      refine callD_of (cross_pf s s) ?_
      simp [go_sem]
      refine call_pf (and_pf p _) ?_
      simp [go_sem]
      refine call_pf (around_pf _) ?_
      simp [go_sem, hl]
      refine hK _ ?_; clear hK K
      refine tr_ret ⟨.inr rfl, ?_⟩
      simp [go_sem]
    · simp at h
  · have hlen := order_len ho
    have hms := mask_lt s
    simp only [List.length_nil, Nat.zero_add] at hlen
    simp [go_sem, ordV]
    refine hK _ ?_; clear hK K
    refine seq_k fun K2 hK2 => ?_
    refine region_k T_ok (by decide) fun K hK => ?_
    simp [go_sem]
    refine hK _ ?_; clear hK K
    refine cond_k rfl (fun h => ?_) (fun h => ?_)
    · simp at h
    · rename_i L
      refine tr_skip ?_
      refine hK2 _ ?_; try clear hK2 K2
      refine region_k T_ok (by decide) fun K hK => ?_
      simp [go_sem]
      refine hK _ ?_; clear hK K
      refine seq_k fun K3 hK3 => ?_
      refine region_k T_ok (by decide) fun K hK => ?_
      simp [go_sem]
      refine hK _ ?_; clear hK K
      refine tr_block ?_
      refine loop_p (α := Nat) (fun a => ⟨85, [(1, .val (.int .u16 (mask s))), (2, .ptr 0 0 0), (7, .val (.int .u16 (mask (inL L a)))), (33, .ro 1 (nums L)), (34, .val (.int .i64 L.length)), (35, .val (.int .i64 a))], [(0, .rows 16 [.agg (relC p)])], 1⟩) (fun a => a ≤ L.length) (fun a => L.length - a) 0 ?_ ?_ ?_
      · omega
      · exact Weaker.of (by simp [Sl.get, inL_zero]; exact congrArg Nat.cast mask_none) (by simp) (by simp [Sl.look])
      rintro i hi
      try dsimp only
      refine region_k T_ok (by decide) fun K hK => ?_
      simp [go_sem]
      refine hK _ ?_; clear hK K
      refine seq_k fun K4 hK4 => ?_
      refine cond_k rfl (fun h => ?_) (fun h => ?_)
      · simp at h
        have hi' : i < L.length := by omega
        have hI := h
        clear h
        obtain ⟨a, hga, ha, hsa, hse, hpp, hsu⟩ := good_at ho hi'
        have hg : L[i] = a := by rw [List.getElem?_eq_getElem hi'] at hga; exact Option.some.inj hga
        have ha0 : ¬ ((a : Nat) : Int) < 0 := by omega
        have haI : ((a : Nat) : Int) < 16 := by omega
        have haJ : ¬ (15 : Int) < ((a : Nat) : Int) := by omega
        have haL : ¬ 15 < a := by omega
        have haK : a ≤ 15 := by omega
        have hw : IntKind.i64.wrap ((i : Nat) + 1) = (i : Nat) + 1 := wrap_i64 (by omega) (by omega)
        refine tr_skip ?_
        refine hK4 _ ?_; try clear hK4 K4
        refine seq_k fun K5 hK5 => ?_
        refine tr_block ?_
        refine region_k T_ok (by decide) fun K hK => ?_
        simp [go_sem, hI, hi', hg]
        refine hK _ ?_; clear hK K
        refine seq_k fun K6 hK6 => ?_
        refine region_k T_ok (by decide) fun K hK => ?_
        simp [go_sem, hsa, hse, mask_shr ha, ha0, haI, haJ, haL, haK]
        refine hK _ ?_; clear hK K
        refine cond_k rfl (fun h => ?_) (fun h => ?_)
        · simp at h
        · skip
          refine tr_skip ?_
          refine hK6 _ ?_; try clear hK6 K6
          refine seq_k fun K7 hK7 => ?_
          refine region_k T_ok (by decide) fun K hK => ?_
          simp [go_sem]
          refine hK _ ?_; clear hK K
          refine tr_block ?_
          refine loop_p (α := Nat) (fun b => ⟨85, [(1, .val (.int .u16 (mask s))), (2, .ptr 0 0 0), (7, .val (.int .u16 (mask (inL L i)))), (9, .val (.int .i64 a)), (10, .val (.int .i64 b)), (33, .ro 1 (nums L)), (34, .val (.int .i64 L.length)), (35, .val (.int .i64 i))], [(0, .rows 16 [.agg (relC p)])], 1⟩) (fun b => b ≤ 16) (fun b => 16 - b) 0 ?_ ?_ ?_
          · omega
          · exact Weaker.of (by simp [Sl.get]) (by simp) (by simp [Sl.look])
          rintro b hb
          try dsimp only
          refine seq_k fun K8 hK8 => ?_
          refine region_k T_ok (by decide) fun K hK => ?_
          simp [go_sem]
          refine hK _ ?_; clear hK K
          refine cond_k rfl (fun h => ?_) (fun h => ?_)
          · simp at h
            have hbI := h
            clear h
            have hb' : b < 16 := by omega
            have hwb : IntKind.i64.wrap ((b : Nat) + 1) = (b : Nat) + 1 := wrap_i64 (by omega) (by omega)
            refine tr_skip ?_
            refine hK8 _ ?_; try clear hK8 K8
            refine seq_k fun K9 hK9 => ?_
            refine tr_block ?_
            refine region_k T_ok (by decide) fun K hK => ?_
            cases hsb : inL L i b
            · simp [go_sem, hsb, mask_shr hb', hbI]
              refine hK _ ?_; clear hK K
              refine cond_k rfl (fun h => ?_) (fun h => ?_)
              · simp at h
              · skip
                refine tr_skip ?_
                refine hK9 _ ?_; try clear hK9 K9
                refine region_e T_ok (by decide) fun K hK => ?_
                simp [go_sem, hwb]
                refine hK _ ?_; clear hK K
                refine ⟨b + 1, ?_, ?_, ?_⟩
                · omega
                · omega
                · refine Weaker.of ?_ ?_ ?_
                  · simp [Sl.get]
                  · simp
                  simp [Sl.look]
            · simp [go_sem, hsb, mask_shr hb', hbI]
              refine call_pf (has_in p a ha b) ?_
              simp [go_sem, hpp b hsb]
              refine hK _ ?_; clear hK K
              refine cond_k rfl (fun h => ?_) (fun h => ?_)
              · simp at h
              · skip
                refine tr_skip ?_
                refine hK9 _ ?_; try clear hK9 K9
                refine region_e T_ok (by decide) fun K hK => ?_
                simp [go_sem, hwb]
                refine hK _ ?_; clear hK K
                refine ⟨b + 1, ?_, ?_, ?_⟩
                · omega
                · omega
                · refine Weaker.of ?_ ?_ ?_
                  · simp [Sl.get]
                  · simp
                  simp [Sl.look]
          · simp at h
            refine tr_exit ?_
            refine hK7 _ ?_; try clear hK7 K7
            refine region_e T_ok (by decide) fun K hK => ?_
            simp [go_sem, haI, mask_pw ha, mask_or]
            refine hK _ ?_; clear hK K
            refine hK5 _ ?_; try clear hK5 K5
            refine region_e T_ok (by decide) fun K hK => ?_
            simp [go_sem, hw]
            refine hK _ ?_; clear hK K
            refine ⟨i + 1, ?_, ?_, ?_⟩
            · omega
            · omega
            · refine Weaker.of ?_ ?_ ?_
              · simp [Sl.get]
                exact congrArg Nat.cast (mask_ext fun x _ => (hsu x).symm)
              · simp
              simp [Sl.look]
      · simp at h
        obtain rfl : i = L.length := by omega
        have hfin := good_end ho
        skip
        refine tr_exit ?_
        refine hK3 _ ?_; try clear hK3 K3
        refine region_k T_ok (by decide) fun K hK => ?_
        simp [go_sem]
        refine call_pf awake16 ?_
        simp [go_sem, hfin]
        refine hK _ ?_; clear hK K
        refine tr_ret ⟨.inr rfl, ?_⟩
        simp [go_sem, hfin]

end Go.Proofs.Ytjdaofmhklihiaa
