/- Litmus tests: the walk of Few. -/
import Derived.Test.YtokdphmnlcmbbaaGlitg
set_option linter.unusedVariables false
set_option linter.unusedSimpArgs false
namespace Go.Proofs.Ytokdphmnlcmbbaa
open Go Go.Sl Go.Proofs.Try

set_option maxRecDepth 100000 in
set_option maxHeartbeats 16000000 in
theorem few_pf (t : Tst) (hs : ∀ l ∈ t.locs, l.name.size ≤ 9223372036854775807) : Pf Try.prog 11 [.agg t.cs] (.agg (few t).cs) := by
  refine Pf.of_fz 2 (.cons (.agg (nl_tst t)) .nil) (.agg (nl_tst _)) ?_
  refine fn_in T_ok func11 rfl rfl ntmps11 rfl (by simp) ?_
  refine region_k T_ok (by decide) fun K hK => ?_
  simp [go_sem, Tst.cs]
  refine hK _ ?_; clear hK K
  refine region_k T_ok (by decide) fun K hK => ?_
  simp [go_sem]
  refine hK _ ?_; clear hK K
  refine seq_to ⟨78, [(1, .ptr 0 0 0), (2, .ptr 1 0 0), (3, .ptr 2 0 0)], [(0, .rows 3 [.agg [.ro 2 (inis t.locs), .ro 1 (thrs t.ths), .ro 3 (atms t.asks)]]), (1, .rows 3 [.agg [.val (.slice none 0 0), .val (.slice none 0 0), .val (.slice none 0 0)]]), (2, .rows 3 [.agg [.ro 2 (inis (locP t.locs 12)), .sl 4 0 0, .sl 3 0 0]]), (4, .rows 1 []), (3, .rows 3 [])], 300⟩ ?_ ?_
  · skip
    refine region_k T_ok (by decide) fun K hK => ?_
    simp [go_sem]
    refine hK _ ?_; clear hK K
    refine tr_block ?_
    refine Tr.weaken (Weaker.ghostH (sz := 3) (es := [.agg [.val (.slice none 0 0), .val (.slice none 0 0), .val (.slice none 0 0)]]) 2 3 [.agg [.val (.slice none 0 0), .val (.slice none 0 0), .sl 3 0 0]] (by simp [Sl.look]) (by simp) (by simp) (by simp [V.fits, V.cells, V.one]) (by simp only [List.flatMap_cons, List.flatMap_nil, V.cells, List.append_nil]; exact .same (.same (.to .nil)))) ?_
    simp only [Sl.put, if_true, if_false, Nat.reduceEqDiff, reduceIte]
    refine Tr.weaken (Weaker.ghostH (sz := 3) (es := [.agg [.val (.slice none 0 0), .val (.slice none 0 0), .sl 3 0 0]]) 2 1 [.agg [.val (.slice none 0 0), .sl 4 0 0, .sl 3 0 0]] (by simp [Sl.look]) (by simp) (by simp) (by simp [V.fits, V.cells, V.one]) (by simp only [List.flatMap_cons, List.flatMap_nil, V.cells, List.append_nil]; exact .same (.to (.same .nil)))) ?_
    simp only [Sl.put, if_true, if_false, Nat.reduceEqDiff, reduceIte]
    refine Tr.weaken (Weaker.ghostH (sz := 3) (es := [.agg [.val (.slice none 0 0), .sl 4 0 0, .sl 3 0 0]]) 2 2 [.agg [.sl 5 0 0, .sl 4 0 0, .sl 3 0 0]] (by simp [Sl.look]) (by simp) (by simp) (by simp [V.fits, V.cells, V.one]) (by simp only [List.flatMap_cons, List.flatMap_nil, V.cells, List.append_nil]; exact .to (.same (.same .nil)))) ?_
    simp only [Sl.put, if_true, if_false, Nat.reduceEqDiff, reduceIte]
    refine loop_p (α := Nat × Nat × Nat) (fun a => ⟨78, [(1, .ptr 0 0 0), (2, .ptr 1 0 0), (3, .ptr 2 0 0), (4, iV (a.1 : Nat))], [(0, .rows 3 [.agg [.ro 2 (inis t.locs), .ro 1 (thrs t.ths), .ro 3 (atms t.asks)]]), (1, .rows 3 [.agg [.val (.slice none 0 0), .val (.slice none 0 0), .val (.slice none 0 0)]]), (2, .rows 3 [.agg [.sl a.2.2 0 (locP t.locs a.1).length, .sl 4 0 0, .sl 3 0 0]]), (a.2.2, .rows 2 (inis (locP t.locs a.1))), (4, .rows 1 []), (3, .rows 3 [])], a.2.1 + 6⟩) (fun a => a.1 ≤ t.locs.length ∧ a.1 ≤ 12 ∧ 4 < a.2.2 ∧ a.2.2 < a.2.1 + 6 ∧ a.2.1 = 18 * a.1) (fun a => 12 - a.1) (0, 0, 5) ?_ ?_ ?_
    · dsimp only; omega
    · refine Weaker.fz 1 0 ?_ ?_ ?_
      · simp [go_sem, locP_zero]
      · first | (simp; done) | (simp; omega)
      · simp [go_sem, Tst.cs, locP_zero, inis_nil]
    rintro ⟨i, j, m⟩ ⟨hi, hi2, hm1, hm2, hj⟩
    dsimp only at hi hi2 hm1 hm2 hj ⊢
    refine seq_k fun K1 hK1 => ?_
    refine region_k T_ok (by decide) fun K hK => ?_
    have hcase : (i < t.locs.length ∧ i < 12) ∨ (i < t.locs.length ∧ i = 12) ∨ i = t.locs.length := by omega
    rcases hcase with ⟨h1, h2⟩ | ⟨h1, rfl⟩ | h1
    · have h1I : (i : Int) < (t.locs.length : Nat) := by omega
      have h2I : (i : Int) < 12 := by omega
      simp [go_sem, h1, h2, h1I, h2I]
      refine hK _ ?_; clear hK K
      refine cond_k rfl (fun h => ?_) (fun h => ?_)
      · clear h
        obtain ⟨x, hx, hx'⟩ := getAt h1
        have hi0 : (0 : Int) ≤ (i : Nat) := by omega
        have hw : IntKind.i64.wrap ((i : Nat) + 1) = (i : Nat) + 1 := wrap_i64 (by omega) (by omega)
        have hsx := hs x (List.mem_of_getElem? hx)
        have hpl := locP_len t.locs i
        have n0 : ¬ m = 0 := by omega
        have q0 : ¬ 0 = m := by omega
        have n1 : ¬ m = 1 := by omega
        have q1 : ¬ 1 = m := by omega
        have n2 : ¬ m = 2 := by omega
        have q2 : ¬ 2 = m := by omega
        have n3 : ¬ m = 3 := by omega
        have q3 : ¬ 3 = m := by omega
        have n4 : ¬ m = 4 := by omega
        have q4 : ¬ 4 = m := by omega
        have n5 : ¬ m = j + 22 := by omega
        have q5 : ¬ j + 22 = m := by omega
        have n6 : ¬ m = j + 23 := by omega
        have q6 : ¬ j + 23 = m := by omega
        refine tr_skip ?_
        refine hK1 _ ?_; try clear hK1 K1
        refine seq_k fun K2 hK2 => ?_
        refine tr_block ?_
        refine draw_e T_ok (by kernel_rfl) 17 [[], [0], [], [2], [], [2, 3, 4], [2, 3, 4, 5], [2, 3, 4, 5, 6], [2, 3, 4, 5, 6, 7], [], [9], [], [9, 10, 11], [9, 10, 11, 12], [9, 10, 11, 12, 13], [2, 3, 4, 5, 6, 7, 8, 9, 10, 11, 12, 13, 14], [2, 3, 4, 5, 6, 7, 8, 9, 10, 11, 12, 13, 14, 15], [0, 1, 2, 3, 4, 5, 6, 7, 8, 9, 10, 11, 12, 13, 14, 15, 16], [0, 1, 2, 3, 4, 5, 6, 7, 8, 9, 10, 11, 12, 13, 14, 15, 16, 17], [0, 1, 2, 3, 4, 5, 6, 7, 8, 9, 10, 11, 12, 13, 14, 15, 16, 17, 18]] [(0, 16), (1, 16)] (by decide) (by decide) (by decide) fun K hK => ?_
        first | dsimp only [List.take, List.drop] | dsimp [List.take, List.drop]
        simp [go_sem, hx, hx', hi0, h1, h1I, iniC, Ini.cs, n0, q0, n1, q1, n2, q2, n3, q3, n4, q4, n5, q5, n6, q6]
        refine callD_of (cut_pf x.name 20 hsx) ?_
        simp [go_sem, hx, hx', hi0, h1, h1I, iniC, Ini.cs, n0, q0, n1, q1, n2, q2, n3, q3, n4, q4, n5, q5, n6, q6]
        refine ⟨by omega, ?_⟩
        refine hK _ ?_; clear hK K
        refine hK2 _ ?_; try clear hK2 K2
        refine region_e T_ok (by decide) fun K hK => ?_
        simp [go_sem, hw]
        refine hK _ ?_; clear hK K
        refine ⟨(i + 1, j + 18, j + 23), ?_, ?_, ?_⟩
        · dsimp only; omega
        · dsimp only; omega
        · refine Weaker.fz 1 0 ?_ ?_ ?_
          · simp [go_sem, locP_step hx]
          · first | (simp; done) | (simp; omega)
          simp [go_sem, locP_step hx, inis_append, inis_one, iniC, Ini.cs, cutI, n0, q0, n1, q1, n2, q2, n3, q3, n4, q4, n5, q5, n6, q6]
      · simp at h
    · have h1I : (12 : Int) < (t.locs.length : Nat) := by omega
      simp [go_sem, h1, h1I]
      refine hK _ ?_; clear hK K
      refine cond_k rfl (fun h => ?_) (fun h => ?_)
      · simp at h
      · have hla : True := trivial
        have n0 : ¬ m = 0 := by omega
        have q0 : ¬ 0 = m := by omega
        have n1 : ¬ m = 1 := by omega
        have q1 : ¬ 1 = m := by omega
        have n2 : ¬ m = 2 := by omega
        have q2 : ¬ 2 = m := by omega
        have n3 : ¬ m = 3 := by omega
        have q3 : ¬ 3 = m := by omega
        have n4 : ¬ m = 4 := by omega
        have q4 : ¬ 4 = m := by omega
        have n5 : ¬ m = j + 22 := by omega
        have q5 : ¬ j + 22 = m := by omega
        have n6 : ¬ m = j + 23 := by omega
        have q6 : ¬ j + 23 = m := by omega
        refine tr_exit ?_
        refine Weaker.fzk 1 1 (by omega) ?_ ?_ ?_
        · simp [go_sem, hla, n0, q0, n1, q1, n2, q2, n3, q3, n4, q4, n5, q5, n6, q6]
        · first | (simp; done) | (simp; omega)
        · simp [go_sem, hla, n0, q0, n1, q1, n2, q2, n3, q3, n4, q4, n5, q5, n6, q6]
    · simp [go_sem, h1]
      refine hK _ ?_; clear hK K
      refine cond_k rfl (fun h => ?_) (fun h => ?_)
      · simp at h
      · have hla := locP_all (l := t.locs) (by omega)
        have n0 : ¬ m = 0 := by omega
        have q0 : ¬ 0 = m := by omega
        have n1 : ¬ m = 1 := by omega
        have q1 : ¬ 1 = m := by omega
        have n2 : ¬ m = 2 := by omega
        have q2 : ¬ 2 = m := by omega
        have n3 : ¬ m = 3 := by omega
        have q3 : ¬ 3 = m := by omega
        have n4 : ¬ m = 4 := by omega
        have q4 : ¬ 4 = m := by omega
        have n5 : ¬ m = j + 22 := by omega
        have q5 : ¬ j + 22 = m := by omega
        have n6 : ¬ m = j + 23 := by omega
        have q6 : ¬ j + 23 = m := by omega
        refine tr_exit ?_
        refine Weaker.fzk 1 1 (by omega) ?_ ?_ ?_
        · simp [go_sem, hla, n0, q0, n1, q1, n2, q2, n3, q3, n4, q4, n5, q5, n6, q6]
        · first | (simp; done) | (simp; omega)
        · simp [go_sem, hla, n0, q0, n1, q1, n2, q2, n3, q3, n4, q4, n5, q5, n6, q6]
  · skip
    refine seq_to ⟨78, [(1, .ptr 0 0 0), (2, .ptr 1 0 0), (3, .ptr 2 0 0)], [(0, .rows 3 [.agg [.ro 2 (inis t.locs), .ro 1 (thrs t.ths), .ro 3 (atms t.asks)]]), (1, .rows 3 [.agg [.val (.slice none 0 0), .val (.slice none 0 0), .val (.slice none 0 0)]]), (2, .rows 3 [.agg [.ro 2 (inis (locP t.locs 12)), .ro 1 (thrs (thP t.ths 6)), .sl 3 0 0]]), (3, .rows 3 [])], 400⟩ ?_ ?_
    · skip
      refine region_k T_ok (by decide) fun K hK => ?_
      simp [go_sem]
      refine hK _ ?_; clear hK K
      refine tr_block ?_
      refine loop_p (α := Nat × Nat × Nat) (fun a => ⟨78, [(1, .ptr 0 0 0), (2, .ptr 1 0 0), (3, .ptr 2 0 0), (5, iV (a.1 : Nat))], [(0, .rows 3 [.agg [.ro 2 (inis t.locs), .ro 1 (thrs t.ths), .ro 3 (atms t.asks)]]), (1, .rows 3 [.agg [.val (.slice none 0 0), .val (.slice none 0 0), .val (.slice none 0 0)]]), (2, .rows 3 [.agg [.ro 2 (inis (locP t.locs 12)), .sl a.2.2 0 (thP t.ths a.1).length, .sl 3 0 0]]), (a.2.2, .rows 1 (thrs (thP t.ths a.1))), (3, .rows 3 [])], a.2.1 + 300⟩) (fun a => a.1 ≤ t.ths.length ∧ a.1 ≤ 6 ∧ 3 < a.2.2 ∧ a.2.2 < a.2.1 + 300 ∧ a.2.1 = 11 * a.1) (fun a => 6 - a.1) (0, 0, 4) ?_ ?_ ?_
      · dsimp only; omega
      · refine Weaker.fz 1 1 ?_ ?_ ?_
        · simp [go_sem, thP_zero]
        · first | (simp; done) | (simp; omega)
        · simp [go_sem, thP_zero, thrs_nil]
      rintro ⟨i, j, m⟩ ⟨hi, hi2, hm1, hm2, hj⟩
      dsimp only at hi hi2 hm1 hm2 hj ⊢
      refine seq_k fun K3 hK3 => ?_
      refine region_k T_ok (by decide) fun K hK => ?_
      have hcase : (i < t.ths.length ∧ i < 6) ∨ (i < t.ths.length ∧ i = 6) ∨ i = t.ths.length := by omega
      rcases hcase with ⟨h1, h2⟩ | ⟨h1, rfl⟩ | h1
      · have h1I : (i : Int) < (t.ths.length : Nat) := by omega
        have h2I : (i : Int) < 6 := by omega
        simp [go_sem, h1, h2, h1I, h2I]
        refine hK _ ?_; clear hK K
        refine cond_k rfl (fun h => ?_) (fun h => ?_)
        · clear h
          obtain ⟨l, hx, hx'⟩ := getAt h1
          have hi0 : (0 : Int) ≤ (i : Nat) := by omega
          have hw : IntKind.i64.wrap ((i : Nat) + 1) = (i : Nat) + 1 := wrap_i64 (by omega) (by omega)
          have hpl := thP_len t.ths i
          have n0 : ¬ m = 0 := by omega
          have q0 : ¬ 0 = m := by omega
          have n1 : ¬ m = 1 := by omega
          have q1 : ¬ 1 = m := by omega
          have n2 : ¬ m = 2 := by omega
          have q2 : ¬ 2 = m := by omega
          have n3 : ¬ m = 3 := by omega
          have q3 : ¬ 3 = m := by omega
          have n4 : ¬ m = j + 302 := by omega
          have q4 : ¬ j + 302 = m := by omega
          have n5 : ¬ m = j + 308 := by omega
          have q5 : ¬ j + 308 = m := by omega
          have n6 : ¬ m = j + 309 := by omega
          have q6 : ¬ j + 309 = m := by omega
          have n7 : ¬ m = j + 310 := by omega
          have q7 : ¬ j + 310 = m := by omega
          refine tr_skip ?_
          refine hK3 _ ?_; try clear hK3 K3
          refine seq_k fun K4 hK4 => ?_
          refine tr_block ?_
          refine region_k T_ok (by decide) fun K hK => ?_
          simp [go_sem, hx, hx', hi0, h1, h1I]
          refine hK _ ?_; clear hK K
          refine draw_e T_ok (by kernel_rfl) 10 [[], [0], [], [], [], [4], [4, 5], [3, 4, 5, 6], [2, 3, 4, 5, 6, 7], [2, 3, 4, 5, 6, 7, 8], [0, 1, 2, 3, 4, 5, 6, 7, 8, 9], [0, 1, 2, 3, 4, 5, 6, 7, 8, 9, 10], [0, 1, 2, 3, 4, 5, 6, 7, 8, 9, 10, 11]] [(0, 2), (1, 2), (2, 3), (2, 4), (2, 5), (2, 6), (2, 7), (0, 8), (1, 8), (0, 9), (1, 9)] (by decide) (by decide) (by decide) fun K hK => ?_
          first | dsimp only [List.take, List.drop] | dsimp [List.take, List.drop]
          rcases Nat.lt_or_ge 12 l.length with hl | hl
          · have hlI : (12 : Int) < (l.length : Nat) := by omega
            have hl2 : (12 : Int) ≤ (l.length : Nat) := by omega
            have hl3 : 12 ≤ l.length := by omega
            have ht12 : True := trivial
            have hm12 : 12 ≤ min 12 l.length := by omega
            simp [go_sem, hl, hlI, hl2, hl3, n0, q0, n1, q1, n2, q2, n3, q3, n4, q4, n5, q5, n6, q6, n7, q7]
            refine ⟨by omega, ?_⟩
            refine hK _ ?_; clear hK K
            refine hK4 _ ?_; try clear hK4 K4
            refine region_e T_ok (by decide) fun K hK => ?_
            simp [go_sem, hw]
            refine hK _ ?_; clear hK K
            refine ⟨(i + 1, j + 11, j + 310), ?_, ?_, ?_⟩
            · dsimp only; omega
            · dsimp only; omega
            · refine Weaker.fz 1 1 ?_ ?_ ?_
              · simp [go_sem, thP_step hx]
              · first | (simp; done) | (simp; omega)
              simp [go_sem, thP_step hx, thrs_append, thrs_one, ht12, hm12, List.take_take, n0, q0, n1, q1, n2, q2, n3, q3, n4, q4, n5, q5, n6, q6, n7, q7]
          · have hlI : ¬ (12 : Int) < (l.length : Nat) := by omega
            have hl2 : (0 : Int) ≤ (l.length : Nat) := by omega
            have hm12 : True := trivial
            have ht12 : l.take 12 = l := List.take_of_length_le hl
            simp [go_sem, hl, hlI, hl2, n0, q0, n1, q1, n2, q2, n3, q3, n4, q4, n5, q5, n6, q6, n7, q7]
            refine ⟨by omega, ?_⟩
            refine ⟨by omega, ?_⟩
            refine hK _ ?_; clear hK K
            refine hK4 _ ?_; try clear hK4 K4
            refine region_e T_ok (by decide) fun K hK => ?_
            simp [go_sem, hw]
            refine hK _ ?_; clear hK K
            refine ⟨(i + 1, j + 11, j + 310), ?_, ?_, ?_⟩
            · dsimp only; omega
            · dsimp only; omega
            · refine Weaker.fz 1 1 ?_ ?_ ?_
              · simp [go_sem, thP_step hx]
              · first | (simp; done) | (simp; omega)
              simp [go_sem, thP_step hx, thrs_append, thrs_one, ht12, hm12, List.take_take, n0, q0, n1, q1, n2, q2, n3, q3, n4, q4, n5, q5, n6, q6, n7, q7]
        · simp at h
      · have h1I : (6 : Int) < (t.ths.length : Nat) := by omega
        simp [go_sem, h1, h1I]
        refine hK _ ?_; clear hK K
        refine cond_k rfl (fun h => ?_) (fun h => ?_)
        · simp at h
        · have hla : True := trivial
          have n0 : ¬ m = 0 := by omega
          have q0 : ¬ 0 = m := by omega
          have n1 : ¬ m = 1 := by omega
          have q1 : ¬ 1 = m := by omega
          have n2 : ¬ m = 2 := by omega
          have q2 : ¬ 2 = m := by omega
          have n3 : ¬ m = 3 := by omega
          have q3 : ¬ 3 = m := by omega
          have n4 : ¬ m = j + 302 := by omega
          have q4 : ¬ j + 302 = m := by omega
          have n5 : ¬ m = j + 308 := by omega
          have q5 : ¬ j + 308 = m := by omega
          have n6 : ¬ m = j + 309 := by omega
          have q6 : ¬ j + 309 = m := by omega
          have n7 : ¬ m = j + 310 := by omega
          have q7 : ¬ j + 310 = m := by omega
          refine tr_exit ?_
          refine Weaker.fzk 1 1 (by omega) ?_ ?_ ?_
          · simp [go_sem, hla, n0, q0, n1, q1, n2, q2, n3, q3, n4, q4, n5, q5, n6, q6, n7, q7]
          · first | (simp; done) | (simp; omega)
          · simp [go_sem, hla, n0, q0, n1, q1, n2, q2, n3, q3, n4, q4, n5, q5, n6, q6, n7, q7]
      · simp [go_sem, h1]
        refine hK _ ?_; clear hK K
        refine cond_k rfl (fun h => ?_) (fun h => ?_)
        · simp at h
        · have hla := thP_all (l := t.ths) (by omega)
          have n0 : ¬ m = 0 := by omega
          have q0 : ¬ 0 = m := by omega
          have n1 : ¬ m = 1 := by omega
          have q1 : ¬ 1 = m := by omega
          have n2 : ¬ m = 2 := by omega
          have q2 : ¬ 2 = m := by omega
          have n3 : ¬ m = 3 := by omega
          have q3 : ¬ 3 = m := by omega
          have n4 : ¬ m = j + 302 := by omega
          have q4 : ¬ j + 302 = m := by omega
          have n5 : ¬ m = j + 308 := by omega
          have q5 : ¬ j + 308 = m := by omega
          have n6 : ¬ m = j + 309 := by omega
          have q6 : ¬ j + 309 = m := by omega
          have n7 : ¬ m = j + 310 := by omega
          have q7 : ¬ j + 310 = m := by omega
          refine tr_exit ?_
          refine Weaker.fzk 1 1 (by omega) ?_ ?_ ?_
          · simp [go_sem, hla, n0, q0, n1, q1, n2, q2, n3, q3, n4, q4, n5, q5, n6, q6, n7, q7]
          · first | (simp; done) | (simp; omega)
          · simp [go_sem, hla, n0, q0, n1, q1, n2, q2, n3, q3, n4, q4, n5, q5, n6, q6, n7, q7]
    · skip
      refine draw_k T_ok (by kernel_rfl) 9 [[], [0], [], [2], [], [4], [4, 5], [4, 5, 6], [2, 3, 4, 5, 6, 7], [0, 1, 2, 3, 4, 5, 6, 7, 8], [0, 1, 2, 3, 4, 5, 6, 7, 8, 9], [0, 1, 2, 3, 4, 5, 6, 7, 8, 9, 10]] [] (by decide) (by decide) (by decide) fun K hK => ?_
      first | dsimp only [List.take, List.drop] | dsimp [List.take, List.drop]
      rcases Nat.lt_or_ge 50 t.asks.length with hl | hl
      · have hlI : (50 : Int) < (t.asks.length : Nat) := by omega
        have hl2 : (50 : Int) ≤ (t.asks.length : Nat) := by omega
        have hl3 : 50 ≤ t.asks.length := by omega
        have ht50 : True := trivial
        have hm50 : 50 ≤ min 50 t.asks.length := by omega
        simp [go_sem, hl, hlI, hl2, hl3]
        refine hK _ ?_; clear hK K
        refine region_k T_ok (by decide) fun K hK => ?_
        simp [go_sem]
        refine hK _ ?_; clear hK K
        refine tr_ret ⟨.inr rfl, ?_⟩
        simp [go_sem, few_cs, ht50, hm50, List.take_take]
      · have hlI : ¬ (50 : Int) < (t.asks.length : Nat) := by omega
        have hl2 : (0 : Int) ≤ (t.asks.length : Nat) := by omega
        have hm50 : True := trivial
        have ht50 : t.asks.take 50 = t.asks := List.take_of_length_le hl
        simp [go_sem, hl, hlI, hl2]
        refine ⟨by omega, ?_⟩
        refine hK _ ?_; clear hK K
        refine region_k T_ok (by decide) fun K hK => ?_
        simp [go_sem]
        refine hK _ ?_; clear hK K
        refine tr_ret ⟨.inr rfl, ?_⟩
        simp [go_sem, few_cs, ht50, hm50, List.take_take]

end Go.Proofs.Ytokdphmnlcmbbaa
