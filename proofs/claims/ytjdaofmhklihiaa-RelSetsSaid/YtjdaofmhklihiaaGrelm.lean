/- The document's orders: the walk of Order of the package ordealref16. -/
import Derived.Test.YtjdaofmhklihiaaGrell
set_option linter.unusedVariables false
set_option linter.unusedSimpArgs false
namespace Go.Proofs.Ytjdaofmhklihiaa
open Go Go.Sl Go.Proofs.Try

set_option maxHeartbeats 4000000 in
theorem rorder_pf (x : List Pr) (s0 : Nat → Bool) (hf : Fin x) : Pf Try.prog 14 [.ro 2 (prs x), .val (.int .u16 (mask s0))] (ordV (order (relL x) s0 [])) := by
  refine Pf.of_fz 2 (.cons (nl_prs x) (.cons (.val _) .nil)) (nl_ordV _) ?_
  have hxl := hf.len
  refine fn_in T_ok func14 rfl rfl ntmps14 rfl (by simp) ?_
  refine region_k T_ok (by decide) fun K hK => ?_
  simp [go_sem]
  refine hK _ ?_; clear hK K
  refine region_k T_ok (by decide) fun K hK => ?_
  simp [go_sem]
  refine call_pf (members_pf s0) ?_
  simp [go_sem]
  refine hK _ ?_; clear hK K
  refine region_k T_ok (by decide) fun K hK => ?_
  simp [go_sem]
  refine hK _ ?_; clear hK K
  refine seq_k fun K1 hK1 => ?_
  refine region_k T_ok (by decide) fun K hK => ?_
  simp [go_sem]
  refine hK _ ?_; clear hK K
  refine tr_block ?_
  refine loop_p (α := (Nat → Bool) × List Nat × Nat × Nat) (fun a => ⟨82, [(0, .ro 2 (prs x)), (6, .ro 1 (nums (mem a.1 16))), (7, .sl a.2.2.1 0 a.2.1.length), (8, .val (.int .i64 a.2.1.length))], [(a.2.2.1, .rows 1 (nums a.2.1))], a.2.2.1 + a.2.2.2 + 1⟩) (fun a => order (relL x) a.1 a.2.1 = order (relL x) s0 [] ∧ a.2.1.length + (mem a.1 16).length ≤ 16) (fun a => (mem a.1 16).length) (s0, [], 0, 0) ?_ ?_ ?_
  · exact ⟨rfl, by have := mem_len s0 16; simpa using this⟩
  · refine Weaker.fz 1 0 ?_ ?_ ?_
    · simp [go_sem]
    · first | (simp; done) | (simp; omega)
    · simp [go_sem, nums]
  rintro ⟨s, L, n, c⟩ ⟨ho, hb⟩
  dsimp only at ho hb ⊢
  refine seq_k fun K2 hK2 => ?_
  refine region_k T_ok (by decide) fun K hK => ?_
  have hcase : ((mem s 16).length = 0 ∧ ¬ L.length < 16) ∨ ((mem s 16).length = 0 ∧ L.length < 16) ∨ (0 < (mem s 16).length ∧ L.length < 16) := by omega
  rcases hcase with ⟨h1, h2⟩ | ⟨h1, h2⟩ | ⟨h1, h2⟩
  · have h2I : ¬ ((L.length : Nat) : Int) < 16 := by omega
    simp [go_sem, h2, h2I]
    have hm0 : mask s = 0 := mem_nil.1 (List.length_eq_zero_iff.1 h1)
    refine hK _ ?_; clear hK K
    refine cond_k rfl (fun h => ?_) (fun h => ?_)
    · simp at h
    · skip
      refine tr_exit ?_
      refine hK1 _ ?_; try clear hK1 K1
      refine region_k T_ok (by decide) fun K hK => ?_
      simp [go_sem]
      refine hK _ ?_; clear hK K
      refine tr_ret ⟨.inr rfl, ?_⟩
      simp [go_sem]
      rw [← ho, order_done hm0]
      rfl
  · have h2I : ((L.length : Nat) : Int) < 16 := by omega
    simp [go_sem, h2, h2I, h1]
    have hm0 : mask s = 0 := mem_nil.1 (List.length_eq_zero_iff.1 h1)
    refine hK _ ?_; clear hK K
    refine cond_k rfl (fun h => ?_) (fun h => ?_)
    · simp at h
    · skip
      refine tr_exit ?_
      refine hK1 _ ?_; try clear hK1 K1
      refine region_k T_ok (by decide) fun K hK => ?_
      simp [go_sem]
      refine hK _ ?_; clear hK K
      refine tr_ret ⟨.inr rfl, ?_⟩
      simp [go_sem]
      rw [← ho, order_done hm0]
      rfl
  · have h2I : ((L.length : Nat) : Int) < 16 := by omega
    have h1I : (0 : Int) < ((mem s 16).length : Nat) := by omega
    simp [go_sem, h2, h2I, h1, h1I]
    have hm0 : ¬ mask s = 0 := fun e => by rw [mem_nil.2 e] at h1; simp at h1
    have hw : IntKind.i64.wrap ((L.length : Nat) + 1) = (L.length : Nat) + 1 := wrap_i64 (by omega) (by omega)
    refine hK _ ?_; clear hK K
    refine cond_k rfl (fun h => ?_) (fun h => ?_)
    · clear h
      refine tr_skip ?_
      refine hK2 _ ?_; try clear hK2 K2
      refine seq_k fun K3 hK3 => ?_
      refine tr_block ?_
      refine region_k T_ok (by decide) fun K hK => ?_
      simp [go_sem]
      refine hK _ ?_; clear hK K
      refine seq_k fun K4 hK4 => ?_
      refine region_k T_ok (by decide) fun K hK => ?_
      simp [go_sem]
      refine hK _ ?_; clear hK K
      refine tr_block ?_
      refine loop_p (α := Nat) (fun b => ⟨82, [(0, .ro 2 (prs x)), (6, .ro 1 (nums (mem s 16))), (7, .sl n 0 L.length), (8, .val (.int .i64 L.length)), (9, .val (.int .i64 (nxt (free (relL x) s) ((mem s 16).take b)))), (30, .ro 1 (nums (mem s 16))), (31, .val (.int .i64 (mem s 16).length)), (32, .val (.int .i64 b))], [(n, .rows 1 (nums L))], n + c + 1⟩) (fun b => b ≤ (mem s 16).length) (fun b => (mem s 16).length - b) 0 ?_ ?_ ?_
      · omega
      · refine Weaker.fz 1 0 ?_ ?_ ?_
        · simp [go_sem, nxt]
        · first | (simp; done) | (simp; omega)
        · simp [go_sem]
      rintro b hib
      try dsimp only
      refine region_k T_ok (by decide) fun K hK => ?_
      simp [go_sem]
      refine hK _ ?_; clear hK K
      refine seq_k fun K5 hK5 => ?_
      refine cond_k rfl (fun h => ?_) (fun h => ?_)
      · simp at h
        have hIb := h
        clear h
        have h'b : b < (mem s 16).length := by omega
        obtain ⟨a, hxb, hx'b⟩ := lt_at h'b
        have hi0b : (0 : Int) ≤ (b : Nat) := by omega
        have hwb : IntKind.i64.wrap ((b : Nat) + 1) = (b : Nat) + 1 := wrap_i64 (by omega) (by omega)
        obtain ⟨ha16, hsa⟩ := mem_at hxb
        refine tr_skip ?_
        refine hK5 _ ?_; try clear hK5 K5
        refine seq_k fun K6 hK6 => ?_
        refine tr_block ?_
        refine region_k T_ok (by decide) fun K hK => ?_
        simp [go_sem, hIb, hxb, hx'b, hi0b, h'b]
        refine hK _ ?_; clear hK K
        refine region_k T_ok (by decide) fun K hK => ?_
        simp [go_sem]
        refine hK _ ?_; clear hK K
        refine seq_k fun K7 hK7 => ?_
        refine region_k T_ok (by decide) fun K hK => ?_
        simp [go_sem]
        refine hK _ ?_; clear hK K
        refine tr_block ?_
        refine loop_p (α := Nat) (fun d => ⟨82, [(0, .ro 2 (prs x)), (6, .ro 1 (nums (mem s 16))), (7, .sl n 0 L.length), (8, .val (.int .i64 L.length)), (9, .val (.int .i64 (nxt (free (relL x) s) ((mem s 16).take b)))), (30, .ro 1 (nums (mem s 16))), (31, .val (.int .i64 (mem s 16).length)), (32, .val (.int .i64 b)), (11, .val (.int .i64 a)), (12, .val (.bool (fr x ((mem s 16).take d) a))), (36, .ro 1 (nums (mem s 16))), (37, .val (.int .i64 (mem s 16).length)), (38, .val (.int .i64 d))], [(n, .rows 1 (nums L))], n + c + 1⟩) (fun d => d ≤ (mem s 16).length) (fun d => (mem s 16).length - d) 0 ?_ ?_ ?_
        · omega
        · refine Weaker.fz 1 0 ?_ ?_ ?_
          · simp [go_sem, fr]
          · first | (simp; done) | (simp; omega)
          · simp [go_sem]
        rintro d hid
        try dsimp only
        refine region_k T_ok (by decide) fun K hK => ?_
        simp [go_sem]
        refine hK _ ?_; clear hK K
        refine seq_k fun K8 hK8 => ?_
        refine cond_k rfl (fun h => ?_) (fun h => ?_)
        · simp at h
          have hId := h
          clear h
          have h'd : d < (mem s 16).length := by omega
          obtain ⟨z, hxd, hx'd⟩ := lt_at h'd
          have hi0d : (0 : Int) ≤ (d : Nat) := by omega
          have hwd : IntKind.i64.wrap ((d : Nat) + 1) = (d : Nat) + 1 := wrap_i64 (by omega) (by omega)
          refine tr_skip ?_
          refine hK8 _ ?_; try clear hK8 K8
          refine seq_k fun K9 hK9 => ?_
          refine tr_block ?_
          refine region_k T_ok (by decide) fun K hK => ?_
          simp [go_sem, hId, hxd, hx'd, hi0d, h'd]
          refine hK _ ?_; clear hK K
          refine region_e T_ok (by decide) fun K hK => ?_
          cases hfr : fr x ((mem s 16).take d) a
          · simp [go_sem, hfr]
            refine hK _ ?_; clear hK K
            refine hK9 _ ?_; try clear hK9 K9
            refine region_e T_ok (by decide) fun K hK => ?_
            simp [go_sem, hwd]
            refine hK _ ?_; clear hK K
            refine ⟨d + 1, ?_, ?_, ?_⟩
            · omega
            · omega
            · refine Weaker.fz 1 0 ?_ ?_ ?_
              · simp [go_sem, take_at hxd, fr_snoc, hfr]
              · first | (simp; done) | (simp; omega)
              simp [go_sem]
          · simp [go_sem, hfr]
            refine call_pf (rhas_pf x ((z : Int), (a : Int)) (by omega)) ?_
            simp [go_sem, hfr]
            refine hK _ ?_; clear hK K
            refine hK9 _ ?_; try clear hK9 K9
            refine region_e T_ok (by decide) fun K hK => ?_
            simp [go_sem, hwd]
            refine hK _ ?_; clear hK K
            refine ⟨d + 1, ?_, ?_, ?_⟩
            · omega
            · omega
            · refine Weaker.fz 1 0 ?_ ?_ ?_
              · simp [go_sem, take_at hxd, fr_snoc, hfr]
              · first | (simp; done) | (simp; omega)
              simp [go_sem]
        · simp at h
          obtain rfl : d = (mem s 16).length := by omega
          have hfree := fr_all (x := x) hsa
          refine tr_exit ?_
          refine hK7 _ ?_; try clear hK7 K7
          refine region_k T_ok (by decide) fun K hK => ?_
          have hcase : (free (relL x) s a = true ∧ nxt (free (relL x) s) ((mem s 16).take b) < 0) ∨ (free (relL x) s a = true ∧ ¬ nxt (free (relL x) s) ((mem s 16).take b) < 0) ∨ free (relL x) s a = false := by cases free (relL x) s a <;> simp; omega
          rcases hcase with ⟨hfa, hlt⟩ | ⟨hfa, hlt⟩ | hfa
          · simp [go_sem, hfree, hfa, hlt]
            refine hK _ ?_; clear hK K
            refine cond_k rfl (fun h => ?_) (fun h => ?_)
            · clear h
              refine region_e T_ok (by decide) fun K hK => ?_
              simp [go_sem]
              refine hK _ ?_; clear hK K
              refine hK6 _ ?_; try clear hK6 K6
              refine region_e T_ok (by decide) fun K hK => ?_
              simp [go_sem, hwb]
              refine hK _ ?_; clear hK K
              refine ⟨b + 1, ?_, ?_, ?_⟩
              · omega
              · omega
              · refine Weaker.fz 1 0 ?_ ?_ ?_
                · simp [go_sem, take_at hxb, nxt_yes hfa hlt]
                · first | (simp; done) | (simp; omega)
                simp [go_sem]
            · simp at h
          · simp [go_sem, hfree, hfa, hlt]
            refine hK _ ?_; clear hK K
            refine cond_k rfl (fun h => ?_) (fun h => ?_)
            · simp at h
            · clear h
              refine tr_skip ?_
              refine hK6 _ ?_; try clear hK6 K6
              refine region_e T_ok (by decide) fun K hK => ?_
              simp [go_sem, hwb]
              refine hK _ ?_; clear hK K
              refine ⟨b + 1, ?_, ?_, ?_⟩
              · omega
              · omega
              · refine Weaker.fz 1 0 ?_ ?_ ?_
                · simp [go_sem, take_at hxb, nxt_old (.inr hlt)]
                · first | (simp; done) | (simp; omega)
                simp [go_sem]
          · simp [go_sem, hfree, hfa]
            refine hK _ ?_; clear hK K
            refine cond_k rfl (fun h => ?_) (fun h => ?_)
            · simp at h
            · clear h
              refine tr_skip ?_
              refine hK6 _ ?_; try clear hK6 K6
              refine region_e T_ok (by decide) fun K hK => ?_
              simp [go_sem, hwb]
              refine hK _ ?_; clear hK K
              refine ⟨b + 1, ?_, ?_, ?_⟩
              · omega
              · omega
              · refine Weaker.fz 1 0 ?_ ?_ ?_
                · simp [go_sem, take_at hxb, nxt_old (.inl hfa)]
                · first | (simp; done) | (simp; omega)
                simp [go_sem]
      · simp at h
        obtain rfl : b = (mem s 16).length := by omega
        have hnx := nxt_mem (p := relL x) (s := s)
        refine tr_exit ?_
        refine hK4 _ ?_; try clear hK4 K4
        refine seq_k fun K10 hK10 => ?_
        refine region_k T_ok (by decide) fun K hK => ?_
        rcases hp : pick1 (relL x) s with _ | e
        · rw [hp] at hnx
          dsimp only at hnx
          simp [go_sem, hnx]
          refine hK _ ?_; clear hK K
          refine cond_k rfl (fun h => ?_) (fun h => ?_)
          · clear h
            refine region_k T_ok (by decide) fun K hK => ?_
            simp [go_sem]
            refine hK _ ?_; clear hK K
            refine tr_ret ⟨.inr rfl, ?_⟩
            simp [go_sem]
            rw [← ho, order_none hm0 hp]
            rfl
          · simp at h
        · rw [hp] at hnx
          dsimp only at hnx
          have hp1 := pick1_in hp
          have he0 : ¬ ((e : Nat) : Int) < 0 := Int.not_lt.2 (Int.natCast_nonneg e)
          simp [go_sem, hnx, he0]
          refine hK _ ?_; clear hK K
          refine cond_k rfl (fun h => ?_) (fun h => ?_)
          · simp at h
          · clear h
            refine tr_skip ?_
            refine hK10 _ ?_; try clear hK10 K10
            refine region_k T_ok (by decide) fun K hK => ?_
            simp [go_sem, hnx]
            refine ⟨by omega, ?_⟩
            refine hK _ ?_; clear hK K
            refine region_k T_ok (by decide) fun K hK => ?_
            simp [go_sem]
            refine hK _ ?_; clear hK K
            refine seq_k fun K11 hK11 => ?_
            refine region_k T_ok (by decide) fun K hK => ?_
            simp [go_sem]
            refine hK _ ?_; clear hK K
            refine tr_block ?_
            generalize hmn : n + c + 1 + 1 = m
            refine loop_p (α := Nat × Nat) (fun a => ⟨82, [(0, .ro 2 (prs x)), (7, .sl m 0 (L ++ [e]).length), (8, .val (.int .i64 L.length)), (9, .val (.int .i64 e)), (15, .sl (m + a.2 + 1) 0 (((mem s 16).take a.1).filter fun y => y != e).length), (66, .ro 1 (nums (mem s 16))), (67, .val (.int .i64 (mem s 16).length)), (68, .val (.int .i64 a.1))], [(m, .rows 1 (nums (L ++ [e]))), (m + a.2 + 1, .rows 1 (nums (((mem s 16).take a.1).filter fun y => y != e)))], m + a.2 + 2⟩) (fun a => a.1 ≤ (mem s 16).length) (fun a => (mem s 16).length - a.1) (0, 0) ?_ ?_ ?_
            · dsimp only; omega
            · refine Weaker.fz 1 0 ?_ ?_ ?_
              · simp [go_sem]
              · first | (simp; done) | (simp; omega)
              · simp [go_sem, nums_append, nums_one, nums]
            rintro ⟨g, r⟩ hig
            dsimp only at hig ⊢
            refine region_k T_ok (by decide) fun K hK => ?_
            simp [go_sem]
            refine hK _ ?_; clear hK K
            refine seq_k fun K12 hK12 => ?_
            refine cond_k rfl (fun h => ?_) (fun h => ?_)
            · simp at h
              have hIg := h
              clear h
              have h'g : g < (mem s 16).length := by omega
              obtain ⟨z, hxg, hx'g⟩ := lt_at h'g
              have hi0g : (0 : Int) ≤ (g : Nat) := by omega
              have hwg : IntKind.i64.wrap ((g : Nat) + 1) = (g : Nat) + 1 := wrap_i64 (by omega) (by omega)
              have hfl : (((mem s 16).take g).filter fun y => y != e).length ≤ 16 := Nat.le_trans (List.length_filter_le _ _) (by rw [List.length_take]; have := mem_len s 16; omega)
              refine tr_skip ?_
              refine hK12 _ ?_; try clear hK12 K12
              refine seq_k fun K13 hK13 => ?_
              refine tr_block ?_
              refine region_k T_ok (by decide) fun K hK => ?_
              simp [go_sem, hIg, hxg, hx'g, hi0g, h'g]
              refine hK _ ?_; clear hK K
              refine region_k T_ok (by decide) fun K hK => ?_
              simp [go_sem]
              refine hK _ ?_; clear hK K
              refine cond_k rfl (fun h => ?_) (fun h => ?_)
              · simp at h
                have hze : ¬ z = e := fun e1 => h (by rw [e1])
                refine region_e T_ok (by decide) fun K hK => ?_
                simp [go_sem]
                refine ⟨by omega, ?_⟩
                refine hK _ ?_; clear hK K
                refine hK13 _ ?_; try clear hK13 K13
                refine region_e T_ok (by decide) fun K hK => ?_
                simp [go_sem, hwg]
                refine hK _ ?_; clear hK K
                refine ⟨(g + 1, r + 2), ?_, ?_, ?_⟩
                · dsimp only; omega
                · dsimp only; omega
                · refine Weaker.fz 1 0 ?_ ?_ ?_
                  · simp [go_sem, take_at hxg, hze, ← Nat.add_assoc]
                  · first | (simp; done) | (simp; omega)
                  simp [go_sem, take_at hxg, hze, nums_append, nums_one, ← Nat.add_assoc]
              · simp at h
                obtain rfl : z = e := by omega
                refine tr_skip ?_
                refine hK13 _ ?_; try clear hK13 K13
                refine region_e T_ok (by decide) fun K hK => ?_
                simp [go_sem, hwg]
                refine hK _ ?_; clear hK K
                refine ⟨(g + 1, r), ?_, ?_, ?_⟩
                · dsimp only; omega
                · dsimp only; omega
                · refine Weaker.fz 1 0 ?_ ?_ ?_
                  · simp [go_sem, take_at hxg]
                  · first | (simp; done) | (simp; omega)
                  simp [go_sem, take_at hxg, nums_append, nums_nil]
            · simp at h
              obtain rfl : g = (mem s 16).length := by omega
              refine tr_exit ?_
              refine hK11 _ ?_; try clear hK11 K11
              refine region_e T_ok (by decide) fun K hK => ?_
              simp [go_sem]
              refine hK _ ?_; clear hK K
              refine hK3 _ ?_; try clear hK3 K3
              refine region_e T_ok (by decide) fun K hK => ?_
              simp [go_sem, hw]
              refine hK _ ?_; clear hK K
              refine ⟨((fun y => s y && !(y == e)), L ++ [e], m, r + 1), ?_, ?_, ?_⟩
              · dsimp only
                rw [← order_some hm0 hp]
                exact ⟨ho, by have := mem_less hp1.1 hp1.2.2; simp only [List.length_append, List.length_singleton]; omega⟩
              · have := mem_less hp1.1 hp1.2.2
                dsimp only; omega
              · refine Weaker.fz 1 0 ?_ ?_ ?_
                · simp [go_sem, mem_rem]
                · first | (simp; done) | (simp; omega)
                simp [go_sem]
    · simp at h

end Go.Proofs.Ytjdaofmhklihiaa
