/- Relations: the walk of Order of the package rel. -/
import Derived.Test.YtjdaofmhklihiaaGrelc
set_option linter.unusedVariables false
set_option linter.unusedSimpArgs false
namespace Go.Proofs.Ytjdaofmhklihiaa
open Go Go.Sl Go.Proofs.Try

theorem order_pf (p : Nat → Nat → Bool) (s0 : Nat → Bool) : Pf Try.prog 7 [.agg (relC p), .val (.int .u16 (mask s0))] (ordV (order p s0 [])) := by
  refine Pf.of_fn (.cons (.agg (nl_relC p)) (.cons (.val _) .nil)) (nl_ordV _) ?_
  refine fn_in T_ok func7 rfl rfl ntmps7 rfl (by simp) ?_
  refine region_k T_ok (by decide) fun K hK => ?_
  simp [go_sem]
  refine hK _ ?_; clear hK K
  refine region_k T_ok (by decide) fun K hK => ?_
  simp [go_sem]
  refine hK _ ?_; clear hK K
  refine seq_k fun K1 hK1 => ?_
  refine tr_block ?_
  refine Tr.weaken (Weaker.ghost 6 1 rfl) ?_
  refine loop_p (α := (Nat → Bool) × List Nat × Nat) (fun a => ⟨43, [(1, .val (.int .u16 (mask a.1))), (2, .ptr 0 0 0), (6, .sl (a.2.2 + 1) 0 a.2.1.length)], [(0, .rows 16 [.agg (relC p)]), (a.2.2 + 1, .rows 1 (nums a.2.1))], a.2.2 + 2⟩) (fun a => order p a.1 a.2.1 = order p s0 [] ∧ a.2.1.length + mask a.1 < 65536) (fun a => mask a.1) (s0, [], 0) ?_ ?_ ?_
  · exact ⟨rfl, by have := mask_lt s0; simpa using this⟩
  · exact Weaker.of (by simp [Sl.get]) (by simp) (by simp [Sl.look, nums_nil])
  rintro ⟨s, L, j⟩ ⟨hi, hb⟩
  dsimp only at hi hb ⊢
  refine seq_k fun K2 hK2 => ?_
  refine region_k T_ok (by decide) fun K hK => ?_
  simp [go_sem]
  refine hK _ ?_; clear hK K
  refine cond_k rfl (fun h => ?_) (fun h => ?_)
  · simp at h
    have h0 := h
    clear h
    refine tr_skip ?_
    refine hK2 _ ?_; try clear hK2 K2
    refine tr_block ?_
    refine region_k T_ok (by decide) fun K hK => ?_
    simp [go_sem]
    refine hK _ ?_; clear hK K
    refine region_k T_ok (by decide) fun K hK => ?_
    simp [go_sem]
    refine call_pf (turned_pf _) ?_
    simp [go_sem]
    refine hK _ ?_; clear hK K
    refine seq_k fun K3 hK3 => ?_
    refine region_k T_ok (by decide) fun K hK => ?_
    simp [go_sem]
    refine hK _ ?_; clear hK K
    refine tr_block ?_
    refine loop_p (α := Nat × Nat) (fun a => ⟨43, [(1, .val (.int .u16 (mask s))), (2, .ptr 0 0 0), (6, .sl (j + 1) 0 L.length), (7, .val (.int .i64 (-1))), (8, .ptr (j + 2) 0 0), (14, .val (.int .i64 a.1))], [(0, .rows 16 [.agg (relC p)]), (j + 1, .rows 1 (nums L)), (j + 2, .rows 16 [.agg (relC fun x b => p b x)])], j + 3⟩) (fun a => a.1 ≤ 16 ∧ ∀ x, x < a.1 → free p s x = false) (fun a => 16 - a.1) (0, 0) ?_ ?_ ?_
    · exact ⟨by dsimp only; omega, fun x hx => by dsimp only at hx; omega⟩
    · exact Weaker.of (by simp [Sl.get]) (by simp) (by simp [Sl.look])
    rintro ⟨i, _⟩ ⟨hi2, hn⟩
    dsimp only at hi2 hn ⊢
    refine region_k T_ok (by decide) fun K hK => ?_
    simp [go_sem]
    refine hK _ ?_; clear hK K
    refine seq_k fun K4 hK4 => ?_
    refine cond_k rfl (fun h => ?_) (fun h => ?_)
    · simp at h
      have hI := h
      clear h
      have h' : i < 16 := by omega
      have hL : i ≤ 15 := by omega
      have hw : IntKind.i64.wrap ((i : Nat) + 1) = (i : Nat) + 1 := wrap_i64 (by omega) (by omega)
      refine tr_skip ?_
      refine hK4 _ ?_; try clear hK4 K4
      refine seq_k fun K5 hK5 => ?_
      refine tr_block ?_
      refine region_k T_ok (by decide) fun K hK => ?_
      simp [go_sem]
      refine hK _ ?_; clear hK K
      refine region_k T_ok (by decide) fun K hK => ?_
      cases hsi : s i
      · simp [go_sem, hsi, hI, h', hL, mask_shr h', mask_and]
        refine hK _ ?_; clear hK K
        refine cond_k rfl (fun h => ?_) (fun h => ?_)
        · simp at h
        · have hfr : free p s i = false := by simp [free, hsi]
          refine tr_skip ?_
          refine hK5 _ ?_; try clear hK5 K5
          refine region_e T_ok (by decide) fun K hK => ?_
          simp [go_sem, hw]
          refine hK _ ?_; clear hK K
          refine ⟨(i + 1, 0), ?_, ?_, ?_⟩
          · refine ⟨by dsimp only; omega, fun x hx => ?_⟩
            dsimp only at hx
            by_cases e : x = i
            · subst e; exact hfr
            · exact hn x (by omega)
          · dsimp only; omega
          · refine Weaker.of ?_ ?_ ?_
            · simp [Sl.get]
            · first | (simp; done) | (simp; omega)
            simp [Sl.look]
      · simp [go_sem, hsi, hI, h', hL, mask_shr h', mask_and]
        refine hK _ ?_; clear hK K
        refine cond_k rfl (fun h => ?_) (fun h => ?_)
        · have hfr : free p s i = true := by simpa [free, hsi] using h
          refine region_k T_ok (by decide) fun K hK => ?_
          simp [go_sem]
          refine hK _ ?_; clear hK K
          refine tr_exit ?_
          refine hK3 _ ?_; try clear hK3 K3
          refine seq_k fun K6 hK6 => ?_
          refine region_k T_ok (by decide) fun K hK => ?_
          simp [go_sem]
          refine hK _ ?_; clear hK K
          refine cond_k rfl (fun h => ?_) (fun h => ?_)
          · simp at h
            omega
          · simp at h
            refine tr_skip ?_
            refine hK6 _ ?_; try clear hK6 K6
            refine region_k T_ok (by decide) fun K hK => ?_
            simp [go_sem]
            refine ⟨by omega, ?_⟩
            refine hK _ ?_; clear hK K
            refine region_e T_ok (by decide) fun K hK => ?_
            simp [go_sem, hI, h', hL, mask_pw h', mask_and, mask_less]
            refine hK _ ?_; clear hK K
            refine ⟨((fun x => s x && !(x == i)), L ++ [i], j + 3), ?_, ?_, ?_⟩
            · dsimp only
              rw [← order_some h0 (pick1_some h' hfr hn)]
              exact ⟨hi, by have := mask_rem h' hsi; simp only [List.length_append, List.length_singleton]; omega⟩
            · exact mask_rem h' hsi
            · refine Weaker.of ?_ ?_ ?_
              · simp [Sl.get]
              · first | (simp; done) | (simp; omega)
              simp [Sl.look, take_nums, nums_append, nums_one]
        · have hfr : free p s i = false := by simpa [free, hsi] using h
          refine tr_skip ?_
          refine hK5 _ ?_; try clear hK5 K5
          refine region_e T_ok (by decide) fun K hK => ?_
          simp [go_sem, hw]
          refine hK _ ?_; clear hK K
          refine ⟨(i + 1, 0), ?_, ?_, ?_⟩
          · refine ⟨by dsimp only; omega, fun x hx => ?_⟩
            dsimp only at hx
            by_cases e : x = i
            · subst e; exact hfr
            · exact hn x (by omega)
          · dsimp only; omega
          · refine Weaker.of ?_ ?_ ?_
            · simp [Sl.get]
            · first | (simp; done) | (simp; omega)
            simp [Sl.look]
    · simp at h
      obtain rfl : i = 16 := by omega
      refine tr_exit ?_
      refine hK3 _ ?_; try clear hK3 K3
      refine seq_k fun K7 hK7 => ?_
      refine region_k T_ok (by decide) fun K hK => ?_
      simp [go_sem]
      refine hK _ ?_; clear hK K
      refine cond_k rfl (fun h => ?_) (fun h => ?_)
      · simp at h
        refine region_k T_ok (by decide) fun K hK => ?_
        simp [go_sem]
        refine hK _ ?_; clear hK K
        refine tr_ret ⟨.inr rfl, ?_⟩
        simp [go_sem]
        rw [← hi, order_none h0 (pick1_none hn)]
        rfl
      · simp at h
  · simp at h
    refine tr_exit ?_
    refine hK1 _ ?_; try clear hK1 K1
    refine region_k T_ok (by decide) fun K hK => ?_
    simp [go_sem]
    refine hK _ ?_; clear hK K
    refine Tr.weaken (Weaker.freeze (n := j + 1) (sz := 1) (es := nums L) (t' := [(4, .ro 1 (nums L)), (5, .val (.bool true))]) (by simp [Sl.look]) fun x => ?_) ?_
    · simp only [Sl.get]
      by_cases e4 : x = 4
      · subst e4; right; right; left; exact ⟨0, L.length, rfl, by simp [length_nums], by simp [take_nums]⟩
      · by_cases e5 : x = 5
        · subst e5; right; left; rfl
        · left; simp [e4, e5]
    refine tr_ret ⟨.inr rfl, ?_⟩
    simp [go_sem]
    rw [← hi, order_done h]
    rfl

end Go.Proofs.Ytjdaofmhklihiaa
