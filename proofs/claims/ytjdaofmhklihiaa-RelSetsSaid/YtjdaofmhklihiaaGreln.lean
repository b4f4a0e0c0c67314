/- Relations both ways: the walk of the law RelSets. -/
import Derived.Test.YtjdaofmhklihiaaGrelm
set_option linter.unusedVariables false
set_option linter.unusedSimpArgs false
namespace Go.Proofs.Ytjdaofmhklihiaa
open Go Go.Sl Go.Proofs.Try

theorem orderW (p : Nat → Nat → Bool) (s : Nat → Bool) : Pf Try.prog 7 [.agg (relC p), .val (.int .u16 (mask s))] (ordW (order p s [])) := Pf.seen_res (seen_ord _) (order_pf p s)
theorem rorderW (x : List Pr) (s : Nat → Bool) (hf : Fin x) : Pf Try.prog 14 [.ro 2 (prs x), .val (.int .u16 (mask s))] (ordW (order (relL x) s [])) := Pf.seen_res (seen_ord _) (rorder_pf x s hf)
theorem crossL_len16 (s t : Nat → Bool) : (crossL (mem s 16) (mem t 16)).length ≤ 272 := by
  have := crossP_len (mem_len s 16) (mem_len t 16) (mem s 16).length 0
  rwa [crossP_zero, List.take_length] at this
theorem prs_nil : prs [] = [] := rfl
theorem orderO_len (p : Nat → Nat → Bool) (s : Nat → Bool) : ((order p s []).getD []).length ≤ 70000 := by
  cases h : order p s [] with
  | none => simp
  | some L =>
    have h1 := order_len h
    have h2 := mask_lt s
    rw [List.length_nil] at h1
    rw [Option.getD_some]; omega
theorem chS_len (l : List Int) : (chS l).length = l.length := by simp [chS]

set_option maxRecDepth 100000 in
set_option maxHeartbeats 8000000 in
theorem relSets_pf (l : List Pr) (s t : Nat → Bool) (q : List Int) : Pf Try.prog 4 [.ro 2 (prs l), .val (.int .u16 (mask s)), .val (.int .u16 (mask t)), .ro 1 (ints q)] (.val (.bool true)) := by
  refine Pf.of_fn (.cons (nl_prs l) (.cons (.val _) (.cons (.val _) (.cons (nl_ints q) .nil)))) (.val _) ?_
  have hms := mem_len s 16
  have hmt := mem_len t 16
  refine fn_in T_ok func4 rfl rfl ntmps4 rfl (by simp) ?_
  refine region_k T_ok (by decide) fun K hK => ?_
  simp [go_sem]
  refine hK _ ?_; clear hK K
  refine region_k T_ok (by decide) fun K hK => ?_
  simp [go_sem]
  refine call_pf (grow_pf l) ?_
  simp [go_sem]
  have hX := growL_fin (l.take 24)
  generalize growL (l.take 24) = X at hX
  refine hK _ ?_; clear hK K
  refine region_k T_ok (by decide) fun K hK => ?_
  simp [go_sem]
  refine call_pf (orderW _ s) ?_
  simp [go_sem, ordW]
  refine hK _ ?_; clear hK K
  refine region_k T_ok (by decide) fun K hK => ?_
  simp [go_sem]
  refine call_pf (rorderW X s hX) ?_
  simp [go_sem, ordW]
  have hO := orderO_len (relL X) s
  generalize (order (relL X) s []).isSome = ok
  generalize (order (relL X) s []).getD [] = O at hO ⊢
  refine hK _ ?_; clear hK K
  refine seq_k fun K1 hK1 => ?_
  refine region_k T_ok (by decide) fun K hK => ?_
  simp [go_sem]
  refine call_pf (awake16) ?_
  simp [go_sem]
  refine hK _ ?_; clear hK K
  refine cond_k rfl (fun h => ?_) (fun h => ?_)
  · simp at h
  · clear h
    refine tr_skip ?_
    refine hK1 _ ?_; try clear hK1 K1
    refine seq_k fun K2 hK2 => ?_
    refine region_k T_ok (by decide) fun K hK => ?_
    simp [go_sem]
    refine hK _ ?_; clear hK K
    refine tr_block ?_
    refine loop_p (α := Nat × Nat) (fun a => ⟨144, [(1, .val (.int .u16 (mask s))), (2, .val (.int .u16 (mask t))), (3, .ro 1 (ints q)), (11, .ro 1 (nums O)), (13, .ro 1 (nums O)), (58, .ro 1 (nums O)), (59, .val (.int .i64 O.length)), (60, .val (.int .i64 a.1))], [], a.2 + 1⟩) (fun a => a.1 ≤ O.length) (fun a => O.length - a.1) (0, 0) ?_ ?_ ?_
    · dsimp only; omega
    · refine Weaker.fz 1 0 ?_ ?_ ?_
      · simp [go_sem]
      · first | (simp; done) | (simp; omega)
      · simp [go_sem]
    rintro ⟨i, j⟩ hi
    dsimp only at hi ⊢
    refine region_k T_ok (by decide) fun K hK => ?_
    simp [go_sem]
    refine hK _ ?_; clear hK K
    refine seq_k fun K3 hK3 => ?_
    refine cond_k rfl (fun h => ?_) (fun h => ?_)
    · simp at h
      have hI := h
      clear h
      have h' : i < (O).length := by omega
      obtain ⟨x, hx, hx'⟩ := lt_at h'
      have hi0 : (0 : Int) ≤ (i : Nat) := by omega
      have hw : IntKind.i64.wrap ((i : Nat) + 1) = (i : Nat) + 1 := wrap_i64 (by omega) (by omega)
      refine tr_skip ?_
      refine hK3 _ ?_; try clear hK3 K3
      refine seq_k fun K4 hK4 => ?_
      refine tr_block ?_
      refine region_k T_ok (by decide) fun K hK => ?_
      simp [go_sem, hI, hx, hx', hi0, h']
      refine hK _ ?_; clear hK K
      refine draw_k T_ok (by kernel_rfl) 8 [[], [], [0, 1], [0, 1, 2], [], [], [4, 5], [4, 5, 6], [0, 1, 2, 3, 4, 5, 6, 7]] [] (by decide) (by decide) (by decide) fun K hK => ?_
      first | dsimp only [List.take, List.drop] | dsimp [List.take, List.drop]
      simp [go_sem, hI, hx, hx', hi0, h']
      refine hK _ ?_; clear hK K
      refine cond_k rfl (fun h => ?_) (fun h => ?_)
      · simp at h
      · clear h
        refine tr_skip ?_
        refine hK4 _ ?_; try clear hK4 K4
        refine region_e T_ok (by decide) fun K hK => ?_
        simp [go_sem, hw]
        refine hK _ ?_; clear hK K
        refine ⟨(i + 1, j + 8), ?_, ?_, ?_⟩
        · dsimp only; omega
        · dsimp only; omega
        · refine Weaker.fz 1 0 ?_ ?_ ?_
          · simp [go_sem]
          · first | (simp; done) | (simp; omega)
          simp [go_sem]
    · simp at h
      obtain rfl : i = O.length := by omega
      refine tr_exit ?_
      refine hK2 _ ?_; try clear hK2 K2
      refine region_k T_ok (by decide) fun K hK => ?_
      simp [go_sem]
      refine hK _ ?_; clear hK K
      refine seq_k fun K5 hK5 => ?_
      refine region_k T_ok (by decide) fun K hK => ?_
      simp [go_sem]
      refine call_pf (members_pf s) ?_
      simp [go_sem]
      refine hK _ ?_; clear hK K
      refine tr_block ?_
      refine loop_p (α := Nat × Nat × Nat) (fun a => ⟨144, [(1, .val (.int .u16 (mask s))), (2, .val (.int .u16 (mask t))), (3, .ro 1 (ints q)), (16, .sl a.2.1 0 (crossL ((mem s 16).take a.1) (mem t 16)).length), (75, .ro 1 (nums (mem s 16))), (76, .val (.int .i64 (mem s 16).length)), (77, .val (.int .i64 a.1))], [(a.2.1, .rows 2 (prs (crossL ((mem s 16).take a.1) (mem t 16))))], a.2.1 + a.2.2 + 1⟩) (fun a => a.1 ≤ (mem s 16).length) (fun a => (mem s 16).length - a.1) (0, j + 1, 0) ?_ ?_ ?_
      · dsimp only; omega
      · refine Weaker.fz 1 0 ?_ ?_ ?_
        · simp [go_sem, crossL]
        · first | (simp; done) | (simp; omega)
        · simp [go_sem, crossL, prs]
      rintro ⟨i, n, c⟩ hi
      dsimp only at hi ⊢
      refine region_k T_ok (by decide) fun K hK => ?_
      simp [go_sem]
      refine hK _ ?_; clear hK K
      refine seq_k fun K6 hK6 => ?_
      refine cond_k rfl (fun h => ?_) (fun h => ?_)
      · simp at h
        have hI := h
        clear h
        have h' : i < (mem s 16).length := by omega
        obtain ⟨a, hx, hx'⟩ := lt_at h'
        have hi0 : (0 : Int) ≤ (i : Nat) := by omega
        have hw : IntKind.i64.wrap ((i : Nat) + 1) = (i : Nat) + 1 := wrap_i64 (by omega) (by omega)
        refine tr_skip ?_
        refine hK6 _ ?_; try clear hK6 K6
        refine seq_k fun K7 hK7 => ?_
        refine tr_block ?_
        refine region_k T_ok (by decide) fun K hK => ?_
        simp [go_sem, hI, hx, hx', hi0, h']
        refine hK _ ?_; clear hK K
        refine region_k T_ok (by decide) fun K hK => ?_
        simp [go_sem]
        refine call_pf (members_pf t) ?_
        simp [go_sem]
        refine hK _ ?_; clear hK K
        refine tr_block ?_
        refine loop_p (α := Nat × Nat × Nat) (fun b => ⟨144, [(1, .val (.int .u16 (mask s))), (2, .val (.int .u16 (mask t))), (3, .ro 1 (ints q)), (16, .sl b.2.1 0 (crossP (mem s 16) (mem t 16) i b.1).length), (18, .val (.int .i64 a)), (75, .ro 1 (nums (mem s 16))), (76, .val (.int .i64 (mem s 16).length)), (77, .val (.int .i64 i)), (82, .ro 1 (nums (mem t 16))), (83, .val (.int .i64 (mem t 16).length)), (84, .val (.int .i64 b.1))], [(b.2.1, .rows 2 (prs (crossP (mem s 16) (mem t 16) i b.1)))], b.2.1 + b.2.2 + 1⟩) (fun b => b.1 ≤ (mem t 16).length) (fun b => (mem t 16).length - b.1) (0, n, c) ?_ ?_ ?_
        · dsimp only; omega
        · refine Weaker.fz 1 0 ?_ ?_ ?_
          · simp [go_sem, crossP_zero]
          · first | (simp; done) | (simp; omega)
          · simp [go_sem, crossP_zero]
        rintro ⟨d, r, g⟩ hid
        dsimp only at hid ⊢
        refine region_k T_ok (by decide) fun K hK => ?_
        simp [go_sem]
        refine hK _ ?_; clear hK K
        refine seq_k fun K8 hK8 => ?_
        refine cond_k rfl (fun h => ?_) (fun h => ?_)
        · simp at h
          have hId := h
          clear h
          have h'd : d < (mem t 16).length := by omega
          obtain ⟨y, hxd, hx'd⟩ := lt_at h'd
          have hi0d : (0 : Int) ≤ (d : Nat) := by omega
          have hwd : IntKind.i64.wrap ((d : Nat) + 1) = (d : Nat) + 1 := wrap_i64 (by omega) (by omega)
          have hcl := crossP_len (mem_len s 16) (mem_len t 16) i d
          refine tr_skip ?_
          refine hK8 _ ?_; try clear hK8 K8
          refine seq_k fun K9 hK9 => ?_
          refine tr_block ?_
          refine region_k T_ok (by decide) fun K hK => ?_
          simp [go_sem, hId, hxd, hx'd, hi0d, h'd]
          refine hK _ ?_; clear hK K
          refine region_e T_ok (by decide) fun K hK => ?_
          simp [go_sem]
          refine ⟨by omega, ?_⟩
          refine hK _ ?_; clear hK K
          refine hK9 _ ?_; try clear hK9 K9
          refine region_e T_ok (by decide) fun K hK => ?_
          simp [go_sem, hwd]
          refine hK _ ?_; clear hK K
          refine ⟨(d + 1, r + g + 2, 0), ?_, ?_, ?_⟩
          · dsimp only; omega
          · dsimp only; omega
          · refine Weaker.fz 1 0 ?_ ?_ ?_
            · simp [go_sem, crossP_step hx hxd]
            · first | (simp; done) | (simp; omega)
            simp [go_sem, crossP_step hx hxd, prs_append, prs, prC]
        · simp at h
          obtain rfl : d = (mem t 16).length := by omega
          refine tr_exit ?_
          refine hK7 _ ?_; try clear hK7 K7
          refine region_e T_ok (by decide) fun K hK => ?_
          simp [go_sem, hw]
          refine hK _ ?_; clear hK K
          refine ⟨(i + 1, r, g), ?_, ?_, ?_⟩
          · dsimp only; omega
          · dsimp only; omega
          · refine Weaker.fz 1 0 ?_ ?_ ?_
            · simp [go_sem, crossP_end hx]
            · first | (simp; done) | (simp; omega)
            simp [go_sem, crossP_end hx]
      · simp at h
        obtain rfl : i = (mem s 16).length := by omega
        refine tr_exit ?_
        refine hK5 _ ?_; try clear hK5 K5
        refine region_k T_ok (by decide) fun K hK => ?_
        simp [go_sem]
        refine hK _ ?_; clear hK K
        refine region_k T_ok (by decide) fun K hK => ?_
        simp [go_sem]
        refine hK _ ?_; clear hK K
        refine seq_k fun K10 hK10 => ?_
        refine region_k T_ok (by decide) fun K hK => ?_
        simp [go_sem]
        refine hK _ ?_; clear hK K
        refine tr_block ?_
        refine loop_p (α := Nat × Nat × Nat) (fun a => ⟨144, [(1, .val (.int .u16 (mask s))), (2, .val (.int .u16 (mask t))), (3, .ro 1 (ints q)), (16, .ro 2 (prs (crossL (mem s 16) (mem t 16)))), (21, .sl a.2.1 0 (chS (q.take a.1)).length), (22, .ro 2 (prs (chZ (q.take a.1)))), (23, .val (.int .i64 a.1))], [(a.2.1, .rows 1 (ints (chS (q.take a.1))))], a.2.1 + a.2.2 + 1⟩) (fun a => a.1 ≤ q.length ∧ a.1 ≤ 12) (fun a => 12 - a.1) (0, n + c + 1, 1) ?_ ?_ ?_
        · dsimp only; omega
        · refine Weaker.fz 1 0 ?_ ?_ ?_
          · simp [go_sem, chS, chZ, prs_nil]
          · first | (simp; done) | (simp; omega)
          · simp [go_sem, chS, ints]
        rintro ⟨i, u, v⟩ ⟨hi, hi2⟩
        dsimp only at hi hi2 ⊢
        refine seq_k fun K11 hK11 => ?_
        refine region_k T_ok (by decide) fun K hK => ?_
        have hcase : (i < q.length ∧ i < 12) ∨ (i < q.length ∧ i = 12) ∨ i = q.length := by omega
        rcases hcase with ⟨h1, h2⟩ | ⟨h1, rfl⟩ | rfl
        · have h1I : (i : Int) < (q.length : Nat) := by omega
          have h2I : (i : Int) < 12 := by omega
          simp [go_sem, h1, h2, h1I, h2I]
          refine hK _ ?_; clear hK K
          refine cond_k rfl (fun h => ?_) (fun h => ?_)
          · clear h
            obtain ⟨x, hx, hx'⟩ := lt_at h1
            have hi0 : (0 : Int) ≤ (i : Nat) := by omega
            have hw : IntKind.i64.wrap ((i : Nat) + 1) = (i : Nat) + 1 := wrap_i64 (by omega) (by omega)
            have hzf := (chZ_all _ (q.take i) rfl).1
            have hsl : (chS (q.take i)).length ≤ 12 := by rw [chS_len, List.length_take]; omega
            refine tr_skip ?_
            refine hK11 _ ?_; try clear hK11 K11
            refine seq_k fun K12 hK12 => ?_
            refine tr_block ?_
            refine region_k T_ok (by decide) fun K hK => ?_
            simp [go_sem, h1, h1I, hx, hx', hi0, wrap_md, md_def]
            refine hK _ ?_; clear hK K
            refine seq_k fun K13 hK13 => ?_
            refine region_k T_ok (by decide) fun K hK => ?_
            simp [go_sem]
            refine hK _ ?_; clear hK K
            refine tr_block ?_
            refine loop_p (α := Nat) (fun d => ⟨144, [(1, .val (.int .u16 (mask s))), (2, .val (.int .u16 (mask t))), (3, .ro 1 (ints q)), (16, .ro 2 (prs (crossL (mem s 16) (mem t 16)))), (21, .sl u 0 (chS (q.take i)).length), (22, .ro 2 (prs (chZ1 ((chS (q.take i)).take d) (chZ (q.take i)) (md x)))), (23, .val (.int .i64 i)), (24, .val (.int .i64 (md x))), (115, .sl u 0 (chS (q.take i)).length), (116, .val (.int .i64 (chS (q.take i)).length)), (117, .val (.int .i64 d))], [(u, .rows 1 (ints (chS (q.take i))))], u + v + 1⟩) (fun d => d ≤ (chS (q.take i)).length) (fun d => (chS (q.take i)).length - d) 0 ?_ ?_ ?_
            · omega
            · refine Weaker.fz 1 0 ?_ ?_ ?_
              · simp [go_sem, chZ1]
              · first | (simp; done) | (simp; omega)
              · simp [go_sem]
            rintro d hid
            try dsimp only
            refine region_k T_ok (by decide) fun K hK => ?_
            simp [go_sem]
            refine hK _ ?_; clear hK K
            refine seq_k fun K14 hK14 => ?_
            refine cond_k rfl (fun h => ?_) (fun h => ?_)
            · simp at h
              have hId := h
              clear h
              have h'd : d < (chS (q.take i)).length := by omega
              obtain ⟨y, hxd, hx'd⟩ := lt_at h'd
              have hi0d : (0 : Int) ≤ (d : Nat) := by omega
              have hwd : IntKind.i64.wrap ((d : Nat) + 1) = (d : Nat) + 1 := wrap_i64 (by omega) (by omega)
              have hz1 := (chZ1_fin hzf ((chS (q.take i)).take d) (md x)).len
              refine tr_skip ?_
              refine hK14 _ ?_; try clear hK14 K14
              refine seq_k fun K15 hK15 => ?_
              refine tr_block ?_
              refine region_k T_ok (by decide) fun K hK => ?_
              simp [go_sem, hId, hxd, hx'd, hi0d, h'd]
              refine hK _ ?_; clear hK K
              refine region_e T_ok (by decide) fun K hK => ?_
              simp [go_sem]
              refine call_pf (rwith_pf _ (y, md x) (by omega)) ?_
              simp [go_sem]
              refine hK _ ?_; clear hK K
              refine hK15 _ ?_; try clear hK15 K15
              refine region_e T_ok (by decide) fun K hK => ?_
              simp [go_sem, hwd]
              refine hK _ ?_; clear hK K
              refine ⟨d + 1, ?_, ?_, ?_⟩
              · omega
              · omega
              · refine Weaker.fz 1 0 ?_ ?_ ?_
                · simp [go_sem, take_at hxd, chZ1]
                · first | (simp; done) | (simp; omega)
                simp [go_sem]
            · simp at h
              obtain rfl : d = (chS (q.take i)).length := by omega
              refine tr_exit ?_
              refine hK13 _ ?_; try clear hK13 K13
              refine region_e T_ok (by decide) fun K hK => ?_
              simp [go_sem]
              refine ⟨by omega, ?_⟩
              refine hK _ ?_; clear hK K
              refine hK12 _ ?_; try clear hK12 K12
              refine region_e T_ok (by decide) fun K hK => ?_
              simp [go_sem, hw]
              refine hK _ ?_; clear hK K
              refine ⟨(i + 1, u + v + 2, 0), ?_, ?_, ?_⟩
              · dsimp only; omega
              · dsimp only; omega
              · refine Weaker.fz 1 0 ?_ ?_ ?_
                · simp [go_sem, take_at hx, chZ_snoc, chS_snoc]
                · first | (simp; done) | (simp; omega)
                simp [go_sem, take_at hx, chS_snoc, ints_append, ints]
          · simp at h
        · have h1I : (12 : Int) < (q.length : Nat) := by omega
          simp [go_sem, h1, h1I]
          refine hK _ ?_; clear hK K
          refine cond_k rfl (fun h => ?_) (fun h => ?_)
          · simp at h
          · clear h
            refine Tr.weaken (Weaker.fz (H' := []) (t' := [(1, .val (.int .u16 (mask s))), (2, .val (.int .u16 (mask t))), (3, .ro 1 (ints q)), (16, .ro 2 (prs (crossL (mem s 16) (mem t 16)))), (21, .ro 1 (ints (chS (q.take 12)))), (22, .ro 2 (prs (chZ (q.take 12))))]) 1 0 ?_ ?_ ?_) ?_
            · simp [go_sem]
            · simp
            · simp
            have hsl : (chS (q.take 12)).length ≤ 12 := by rw [chS_len, List.length_take]; omega
            generalize q.take 12 = Q at hsl ⊢
            refine tr_exit ?_
            refine hK10 _ ?_; try clear hK10 K10
            refine region_k T_ok (by decide) fun K hK => ?_
            simp [go_sem]
            refine call_pf (cross_pf s t) ?_
            simp [go_sem]
            refine call_pf (told_pf _) ?_
            simp [go_sem]
            refine call_pf (rsame_true (Agree.cross s t) (by have := crossL_len16 s t; omega)) ?_
            simp [go_sem]
            refine call_pf (chain_pf (chS Q) (by omega)) ?_
            simp [go_sem]
            refine call_pf (told_pf _) ?_
            simp [go_sem]
            refine call_pf (rsame_true (Agree.chain Q) (by have := ((chZ_all _ Q rfl).1).len; omega)) ?_
            simp [go_sem]
            refine hK _ ?_; clear hK K
            refine tr_ret ⟨.inr rfl, ?_⟩
            simp [go_sem]
        · simp [go_sem]
          refine hK _ ?_; clear hK K
          refine cond_k rfl (fun h => ?_) (fun h => ?_)
          · simp at h
          · clear h
            refine Tr.weaken (Weaker.fz (H' := []) (t' := [(1, .val (.int .u16 (mask s))), (2, .val (.int .u16 (mask t))), (3, .ro 1 (ints q)), (16, .ro 2 (prs (crossL (mem s 16) (mem t 16)))), (21, .ro 1 (ints (chS (q)))), (22, .ro 2 (prs (chZ (q))))]) 1 0 ?_ ?_ ?_) ?_
            · simp [go_sem]
            · simp
            · simp
            have hsl : (chS q).length ≤ 12 := by rw [chS_len]; omega
            generalize hQ : q = Q at hsl ⊢
            refine tr_exit ?_
            refine hK10 _ ?_; try clear hK10 K10
            refine region_k T_ok (by decide) fun K hK => ?_
            simp [go_sem]
            refine call_pf (cross_pf s t) ?_
            simp [go_sem]
            refine call_pf (told_pf _) ?_
            simp [go_sem]
            refine call_pf (rsame_true (Agree.cross s t) (by have := crossL_len16 s t; omega)) ?_
            simp [go_sem]
            refine call_pf (chain_pf (chS Q) (by omega)) ?_
            simp [go_sem]
            refine call_pf (told_pf _) ?_
            simp [go_sem]
            refine call_pf (rsame_true (Agree.chain Q) (by have := ((chZ_all _ Q rfl).1).len; omega)) ?_
            simp [go_sem]
            refine hK _ ?_; clear hK K
            refine tr_ret ⟨.inr rfl, ?_⟩
            simp [go_sem]

end Go.Proofs.Ytjdaofmhklihiaa
