/- The law TsoFenced: whatever test and numbers it is given it returns true, and what it was given reads as it did. No condition. -/
import Derived.Test.YtflooghnoljpcaaRows
import Derived.Test.YtflooghnoljpcaaChecked
import Derived.KernelRfl
import Derived.Test.YtflooghnoljpcaaM5
set_option linter.unusedVariables false
set_option linter.unusedSimpArgs false
/- Litmus tests: the walk of blank of the package litmus. -/
namespace Go.Proofs.Ytflooghnoljpcaa
open Go Go.Sl Go.Proofs.Try

set_option maxRecDepth 100000 in
set_option maxHeartbeats 8000000 in
theorem blank_pf (x : Ins) : Pf Try.prog 104 [insC x] (insC (blankI x)) := by
  refine Pf.of_fn (.cons (nl_insC x) .nil) (nl_insC _) ?_
  refine fn_in T_ok func104 rfl rfl ntmps104 rfl (by simp) ?_
  refine region_k T_ok (by decide) fun K hK => ?_
  simp [go_sem, insC]
  refine hK _ ?_; clear hK K
  refine region_k T_ok (by decide) fun K hK => ?_
  simp [go_sem]
  refine hK _ ?_; clear hK K
  refine seq_to ⟨78, [(1, .ptr 0 0 0), (2, .ptr 1 0 0), (3, .ptr 2 0 0)], [(0, .rows 13 [.agg x.cs]), (1, .rows 13 [.agg [iV 0, iV 0, iV 0, bV false, uV 0, bV false, uV 0, bV false, bV false, iV 0, iV 0, iV 0, iV 0]]), (2, .rows 13 [.agg [iV x.op, iV (if setB x.op = true then x.rd else 0), iV 0, bV false, uV 0, bV false, uV 0, bV false, bV false, iV 0, iV 0, iV 0, iV 0]])], 3⟩ ?_ ?_
  · skip
    refine region_k T_ok (by decide) fun K hK => ?_
    simp [go_sem]
    refine call_pf (sets_pf x) ?_
    simp [go_sem]
    refine hK _ ?_; clear hK K
    refine cond_k rfl (fun h => ?_) (fun h => ?_)
    · have hs := h
      refine region_e T_ok (by decide) fun K hK => ?_
      simp [go_sem]
      refine hK _ ?_; clear hK K
      refine Weaker.fzk 1 0 (by omega) ?_ ?_ ?_
      · simp [go_sem, hs]
      · first | (simp; done) | (simp; omega)
      · simp [go_sem, hs]
    · have hs := h
      refine tr_skip ?_
      refine Weaker.fzk 1 0 (by omega) ?_ ?_ ?_
      · simp [go_sem, hs]
      · first | (simp; done) | (simp; omega)
      · simp [go_sem, hs]
  · skip
    refine seq_to ⟨78, [(1, .ptr 0 0 0), (2, .ptr 1 0 0), (3, .ptr 2 0 0)], [(0, .rows 13 [.agg x.cs]), (1, .rows 13 [.agg [iV 0, iV 0, iV 0, bV false, uV 0, bV false, uV 0, bV false, bV false, iV 0, iV 0, iV 0, iV 0]]), (2, .rows 13 [.agg [iV x.op, iV (if setB x.op = true then x.rd else 0), iV (if memB x.op = true then x.loc else 0), bV false, uV 0, bV false, uV 0, bV (memB x.op && x.acq), bV (memB x.op && x.rel), iV (if memB x.op = true then x.dep else 0), iV 0, iV 0, iV 0]])], 17⟩ ?_ ?_
    · skip
      refine region_k T_ok (by decide) fun K hK => ?_
      simp [go_sem]
      refine call_pf (ismem_pf x) ?_
      simp [go_sem]
      refine hK _ ?_; clear hK K
      refine cond_k rfl (fun h => ?_) (fun h => ?_)
      · have hm := h
        refine draw_e T_ok (by kernel_rfl) 14 [[], [0], [], [2], [], [4], [], [6], [0, 1], [0, 1, 8], [0, 1, 2, 3, 8, 9], [0, 1, 2, 3, 8, 9, 10], [0, 1, 2, 3, 4, 5, 8, 9, 10, 11], [0, 1, 2, 3, 4, 5, 8, 9, 10, 11, 12], [0, 1, 2, 3, 4, 5, 6, 7, 8, 9, 10, 11, 12, 13], [0, 1, 2, 3, 4, 5, 6, 7, 8, 9, 10, 11, 12, 13, 14]] [(2, 9), (3, 9), (4, 9), (5, 9), (6, 9), (7, 9), (4, 11), (5, 11), (6, 11), (7, 11), (6, 13), (7, 13)] (by decide) (by decide) (by decide) fun K hK => ?_
        first | dsimp only [List.take, List.drop] | dsimp [List.take, List.drop]
        simp [go_sem]
        refine hK _ ?_; clear hK K
        refine Weaker.fzk 1 0 (by omega) ?_ ?_ ?_
        · simp [go_sem, hm]
        · first | (simp; done) | (simp; omega)
        · simp [go_sem, hm]
      · have hm := h
        refine tr_skip ?_
        refine Weaker.fzk 1 0 (by omega) ?_ ?_ ?_
        · simp [go_sem, hm]
        · first | (simp; done) | (simp; omega)
        · simp [go_sem, hm]
    · skip
      refine seq_to ⟨78, [(1, .ptr 0 0 0), (2, .ptr 1 0 0), (3, .ptr 2 0 0)], [(0, .rows 13 [.agg x.cs]), (1, .rows 13 [.agg [iV 0, iV 0, iV 0, bV false, uV 0, bV false, uV 0, bV false, bV false, iV 0, iV 0, iV 0, iV 0]]), (2, .rows 13 [.agg [iV x.op, iV (if setB x.op = true then x.rd else 0), iV (if memB x.op = true then x.loc else 0), bV (useA x.op && x.aR), uV (if useA x.op = true then x.aN else 0), bV (useB x.op && x.bR), uV (if useB x.op = true then x.bN else 0), bV (memB x.op && x.acq), bV (memB x.op && x.rel), iV (if memB x.op = true then x.dep else 0), iV 0, iV 0, iV 0]])], 23⟩ ?_ ?_
      · skip
        refine tr_block ?_
        refine seq_to ⟨78, [(1, .ptr 0 0 0), (2, .ptr 1 0 0), (3, .ptr 2 0 0), (26, bV (use1 x.op))], [(0, .rows 13 [.agg x.cs]), (1, .rows 13 [.agg [iV 0, iV 0, iV 0, bV false, uV 0, bV false, uV 0, bV false, bV false, iV 0, iV 0, iV 0, iV 0]]), (2, .rows 13 [.agg [iV x.op, iV (if setB x.op = true then x.rd else 0), iV (if memB x.op = true then x.loc else 0), bV false, uV 0, bV false, uV 0, bV (memB x.op && x.acq), bV (memB x.op && x.rel), iV (if memB x.op = true then x.dep else 0), iV 0, iV 0, iV 0]])], 17⟩ ?_ ?_
        · skip
          refine region_k T_ok (by decide) fun K hK => ?_
          simp [go_sem]
          refine hK _ ?_; clear hK K
          refine cond_k rfl (fun h => ?_) (fun h => ?_)
          · simp at h
            have h1 : x.op = 1 := h
            refine tr_skip ?_
            refine Weaker.fzk 1 0 (by omega) ?_ ?_ ?_
            · simp [go_sem, use1, h1]
            · first | (simp; done) | (simp; omega)
            · simp [go_sem, use1, h1]
          · simp at h
            have h1 : ¬ x.op = 1 := h
            refine region_e T_ok (by decide) fun K hK => ?_
            simp [go_sem]
            refine call_pf (of_pf x) ?_
            simp [go_sem]
            refine hK _ ?_; clear hK K
            refine Weaker.fzk 1 0 (by omega) ?_ ?_ ?_
            · simp [go_sem, use1, h1]
            · first | (simp; done) | (simp; omega)
            · simp [go_sem, use1, h1]
        · skip
          refine cond_k rfl (fun h => ?_) (fun h => ?_)
          · have h1' : use1 x.op = true := h
            have h1 : True := trivial
            have hab' : True := trivial
            refine region_e T_ok (by decide) fun K hK => ?_
            simp [go_sem]
            refine hK _ ?_; clear hK K
            refine Weaker.fzk 1 0 (by omega) ?_ ?_ ?_
            · simp [go_sem, h1, h1', hab', useA, useB]
            · first | (simp; done) | (simp; omega)
            · simp [go_sem, h1, h1', hab', useA, useB]
          · have h1' : use1 x.op = false := h
            have h1 : True := trivial
            refine seq_to ⟨78, [(1, .ptr 0 0 0), (2, .ptr 1 0 0), (3, .ptr 2 0 0), (36, bV (useAB x.op)), (26, bV (use1 x.op))], [(0, .rows 13 [.agg x.cs]), (1, .rows 13 [.agg [iV 0, iV 0, iV 0, bV false, uV 0, bV false, uV 0, bV false, bV false, iV 0, iV 0, iV 0, iV 0]]), (2, .rows 13 [.agg [iV x.op, iV (if setB x.op = true then x.rd else 0), iV (if memB x.op = true then x.loc else 0), bV false, uV 0, bV false, uV 0, bV (memB x.op && x.acq), bV (memB x.op && x.rel), iV (if memB x.op = true then x.dep else 0), iV 0, iV 0, iV 0]])], 17⟩ ?_ ?_
            · skip
              refine region_to T_ok (by decide) ⟨78, [(1, .ptr 0 0 0), (2, .ptr 1 0 0), (3, .ptr 2 0 0), (26, bV (use1 x.op)), (36, bV (decide (2 ≤ x.op) && decide (x.op ≤ 8)))], [(0, .rows 13 [.agg x.cs]), (1, .rows 13 [.agg [iV 0, iV 0, iV 0, bV false, uV 0, bV false, uV 0, bV false, bV false, iV 0, iV 0, iV 0, iV 0]]), (2, .rows 13 [.agg [iV x.op, iV (if setB x.op = true then x.rd else 0), iV (if memB x.op = true then x.loc else 0), bV false, uV 0, bV false, uV 0, bV (memB x.op && x.acq), bV (memB x.op && x.rel), iV (if memB x.op = true then x.dep else 0), iV 0, iV 0, iV 0]])], 17⟩ ?_ ?_
              · by_cases c1 : 2 ≤ x.op
                · by_cases c2 : x.op ≤ 8
                  · simp [go_sem, c1, c2]
                    refine Weaker.fz 1 0 ?_ ?_ ?_
                    · simp [go_sem, c1, c2]
                    · first | (simp; done) | (simp; omega)
                    · simp [go_sem, c1, c2]
                  · simp [go_sem, c1, c2]
                    refine Weaker.fz 1 0 ?_ ?_ ?_
                    · simp [go_sem, c1, c2]
                    · first | (simp; done) | (simp; omega)
                    · simp [go_sem, c1, c2]
                · simp [go_sem, c1]
                  refine Weaker.fz 1 0 ?_ ?_ ?_
                  · simp [go_sem, c1]
                  · first | (simp; done) | (simp; omega)
                  · simp [go_sem, c1]
              · skip
                refine cond_k rfl (fun h => ?_) (fun h => ?_)
                · have hab : (decide (2 ≤ x.op) && decide (x.op ≤ 8)) = true := h
                  have h16 : True := trivial
                  refine tr_skip ?_
                  refine Weaker.fzk 1 0 (by omega) ?_ ?_ ?_
                  · simp [go_sem, useAB, hab, h16, int_beq]
                  · first | (simp; done) | (simp; omega)
                  · simp [go_sem, useAB, hab, h16, int_beq]
                · have hab : (decide (2 ≤ x.op) && decide (x.op ≤ 8)) = false := h
                  refine region_k T_ok (by decide) fun K hK => ?_
                  simp [go_sem]
                  refine hK _ ?_; clear hK K
                  refine cond_k rfl (fun h => ?_) (fun h => ?_)
                  · simp at h
                    have h16 : x.op = 16 := h
                    refine tr_skip ?_
                    refine Weaker.fzk 1 0 (by omega) ?_ ?_ ?_
                    · simp [go_sem, useAB, hab, h16, int_beq]
                    · first | (simp; done) | (simp; omega)
                    · simp [go_sem, useAB, hab, h16, int_beq]
                  · simp at h
                    have h16 : ¬ x.op = 16 := h
                    refine region_e T_ok (by decide) fun K hK => ?_
                    simp [go_sem]
                    refine hK _ ?_; clear hK K
                    refine Weaker.fzk 1 0 (by omega) ?_ ?_ ?_
                    · simp [go_sem, useAB, hab, h16, int_beq]
                    · first | (simp; done) | (simp; omega)
                    · simp [go_sem, useAB, hab, h16, int_beq]
            · skip
              refine cond_k rfl (fun h => ?_) (fun h => ?_)
              · have hab' : useAB x.op = true := h
                refine draw_e T_ok (by kernel_rfl) 6 [[], [0], [], [2], [0, 1], [0, 1, 4], [0, 1, 2, 3, 4, 5], [0, 1, 2, 3, 4, 5, 6]] [(2, 5), (3, 5)] (by decide) (by decide) (by decide) fun K hK => ?_
                first | dsimp only [List.take, List.drop] | dsimp [List.take, List.drop]
                simp [go_sem]
                refine hK _ ?_; clear hK K
                refine Weaker.fzk 1 0 (by omega) ?_ ?_ ?_
                · simp [go_sem, h1, h1', hab', useA, useB]
                · first | (simp; done) | (simp; omega)
                · simp [go_sem, h1, h1', hab', useA, useB]
              · have hab' : useAB x.op = false := h
                refine tr_skip ?_
                refine Weaker.fzk 1 0 (by omega) ?_ ?_ ?_
                · simp [go_sem, h1, h1', hab', useA, useB]
                · first | (simp; done) | (simp; omega)
                · simp [go_sem, h1, h1', hab', useA, useB]
      · skip
        refine seq_to ⟨78, [(1, .ptr 0 0 0), (2, .ptr 1 0 0), (3, .ptr 2 0 0)], [(0, .rows 13 [.agg x.cs]), (1, .rows 13 [.agg [iV 0, iV 0, iV 0, bV false, uV 0, bV false, uV 0, bV false, bV false, iV 0, iV 0, iV 0, iV 0]]), (2, .rows 13 [.agg [iV x.op, iV (if setB x.op = true then x.rd else 0), iV (if memB x.op = true then x.loc else 0), bV (useA x.op && x.aR), uV (if useA x.op = true then x.aN else 0), bV (useB x.op && x.bR), uV (if useB x.op = true then x.bN else 0), bV (memB x.op && x.acq), bV (memB x.op && x.rel), iV (if memB x.op = true then x.dep else 0), iV (if x.op = 15 then x.pred else 0), iV (if x.op = 15 then x.succ else 0), iV 0]])], 29⟩ ?_ ?_
        · skip
          refine region_k T_ok (by decide) fun K hK => ?_
          simp [go_sem]
          refine hK _ ?_; clear hK K
          refine cond_k rfl (fun h => ?_) (fun h => ?_)
          · simp at h
            have hf := h
            refine draw_e T_ok (by kernel_rfl) 6 [[], [0], [], [2], [0, 1], [0, 1, 4], [0, 1, 2, 3, 4, 5], [0, 1, 2, 3, 4, 5, 6]] [(2, 5), (3, 5)] (by decide) (by decide) (by decide) fun K hK => ?_
            first | dsimp only [List.take, List.drop] | dsimp [List.take, List.drop]
            simp [go_sem]
            refine hK _ ?_; clear hK K
            refine Weaker.fzk 1 0 (by omega) ?_ ?_ ?_
            · simp [go_sem, hf]
            · first | (simp; done) | (simp; omega)
            · simp [go_sem, hf]
          · simp at h
            have hf := h
            refine tr_skip ?_
            refine Weaker.fzk 1 0 (by omega) ?_ ?_ ?_
            · simp [go_sem, hf]
            · first | (simp; done) | (simp; omega)
            · simp [go_sem, hf]
        · skip
          refine seq_k fun K1 hK1 => ?_
          refine region_to T_ok (by decide) ⟨78, [(1, .ptr 0 0 0), (2, .ptr 1 0 0), (3, .ptr 2 0 0), (73, bV (isBr x.op))], [(0, .rows 13 [.agg x.cs]), (1, .rows 13 [.agg [iV 0, iV 0, iV 0, bV false, uV 0, bV false, uV 0, bV false, bV false, iV 0, iV 0, iV 0, iV 0]]), (2, .rows 13 [.agg [iV x.op, iV (if setB x.op = true then x.rd else 0), iV (if memB x.op = true then x.loc else 0), bV (useA x.op && x.aR), uV (if useA x.op = true then x.aN else 0), bV (useB x.op && x.bR), uV (if useB x.op = true then x.bN else 0), bV (memB x.op && x.acq), bV (memB x.op && x.rel), iV (if memB x.op = true then x.dep else 0), iV (if x.op = 15 then x.pred else 0), iV (if x.op = 15 then x.succ else 0), iV 0]])], 29⟩ ?_ ?_
          · by_cases c1 : x.op = 16
            · simp [go_sem, c1]
              refine Weaker.fz 1 0 ?_ ?_ ?_
              · simp [go_sem, c1, isBr]
              · first | (simp; done) | (simp; omega)
              · simp [go_sem, c1, isBr]
            · by_cases c2 : x.op = 17
              · simp [go_sem, c1, c2]
                refine Weaker.fz 1 0 ?_ ?_ ?_
                · simp [go_sem, c1, c2, isBr]
                · first | (simp; done) | (simp; omega)
                · simp [go_sem, c1, c2, isBr]
              · simp [go_sem, c1, c2]
                refine Weaker.fz 1 0 ?_ ?_ ?_
                · simp [go_sem, c1, c2, isBr]
                · first | (simp; done) | (simp; omega)
                · simp [go_sem, c1, c2, isBr]
          · skip
            refine cond_k rfl (fun h => ?_) (fun h => ?_)
            · have hb := h
              refine region_e T_ok (by decide) fun K hK => ?_
              simp [go_sem]
              refine hK _ ?_; clear hK K
              refine hK1 _ ?_; try clear hK1 K1
              refine region_k T_ok (by decide) fun K hK => ?_
              simp [go_sem]
              refine hK _ ?_; clear hK K
              refine tr_ret ⟨.inr rfl, ?_⟩
              simp [go_sem, insC, Ins.cs, blankI, hb]
            · have hb := h
              refine tr_skip ?_
              refine hK1 _ ?_; try clear hK1 K1
              refine region_k T_ok (by decide) fun K hK => ?_
              simp [go_sem]
              refine hK _ ?_; clear hK K
              refine tr_ret ⟨.inr rfl, ?_⟩
              simp [go_sem, insC, Ins.cs, blankI, hb]

end Go.Proofs.Ytflooghnoljpcaa
/- Litmus tests: the walk of check of the package litmus. -/
namespace Go.Proofs.Ytflooghnoljpcaa
open Go Go.Sl Go.Proofs.Try

set_option maxRecDepth 100000 in
set_option maxHeartbeats 16000000 in
theorem check_pf (t : Tst) (x : Ins) (left : Int) : Pf Try.prog 79 [.rp t.cs 0, insC x, iV left] (iV (insErr t.locs.length left x)) := by
  refine Pf.of_fn (.cons (nl_rp t) (.cons (nl_insC x) (.cons (.val _) .nil))) (.val _) ?_
  refine fn_in T_ok func79 rfl rfl ntmps79 rfl (by simp) ?_
  refine region_k T_ok (by decide) fun K hK => ?_
  simp [go_sem, insC]
  refine hK _ ?_; clear hK K
  refine seq_k fun K1 hK1 => ?_
  refine tr_block ?_
  refine draw_to T_ok (by kernel_rfl) 12 [[], [0], [0, 1], [0, 1, 2], [0, 1, 2, 3], [0, 1, 2, 3, 4], [0, 1, 2, 3, 4, 5], [0, 1, 2, 3, 4, 5, 6], [0, 1, 2, 3, 4, 5, 6, 7], [0, 1, 2, 3, 4, 5, 6, 7, 8], [0, 1, 2, 3, 4, 5, 6, 7, 8, 9], [0, 1, 2, 3, 4, 5, 6, 7, 8], [0, 1, 2, 3, 4, 5, 6, 7, 8, 9, 10, 11], [0, 1, 2, 3, 4, 5, 6, 7, 8, 9, 10, 11, 12], [0, 1, 2, 3, 4, 5, 6, 7, 8, 9, 10, 11, 12, 13]] [] (by decide) (by decide) (by decide) ⟨133, [(0, .rp t.cs 0), (2, iV left), (4, .ptr 0 0 0), (7, bV (err1 x))], [(0, .rows 13 [.agg x.cs])], 13⟩ ?_ ?_
  · first | dsimp only [List.take, List.drop] | dsimp [List.take, List.drop]
    by_cases c1 : x.op < 1
    · simp [go_sem, c1]
      refine Weaker.fz 1 0 ?_ ?_ ?_
      · simp [go_sem, c1, err1]
      · first | (simp; done) | (simp; omega)
      · simp [go_sem, c1, err1]
    · by_cases c2 : 17 < x.op
      · simp [go_sem, c1, c2]
        refine Weaker.fz 1 0 ?_ ?_ ?_
        · simp [go_sem, c1, c2, err1]
        · first | (simp; done) | (simp; omega)
        · simp [go_sem, c1, c2, err1]
      · simp [go_sem, c1, c2]
        refine callD_of (blank_pf x) ?_
        simp [go_sem, c1, c2, insC]
        refine Weaker.fz 1 0 ?_ ?_ ?_
        · simp [go_sem, c1, c2, err1]
        · first | (simp; done) | (simp; omega)
        · simp [go_sem, c1, c2, err1]
  · skip
    refine cond_k rfl (fun h => ?_) (fun h => ?_)
    · have e1 := h
      refine region_k T_ok (by decide) fun K hK => ?_
      simp [go_sem]
      refine hK _ ?_; clear hK K
      refine tr_ret ⟨.inr rfl, ?_⟩
      simp [go_sem, insErr, e1]
    · have e1 := h
      refine region_to T_ok (by decide) ⟨133, [(0, .rp t.cs 0), (2, iV left), (4, .ptr 0 0 0), (22, bV (err2 x))], [(0, .rows 13 [.agg x.cs])], 13⟩ ?_ ?_
      · by_cases c1 : x.rd < 0
        · simp [go_sem, c1]
          refine Weaker.fz 1 0 ?_ ?_ ?_
          · simp [go_sem, c1, err2]
          · first | (simp; done) | (simp; omega)
          · simp [go_sem, c1, err2]
        · by_cases c2 : 8 ≤ x.rd
          · simp [go_sem, c1, c2]
            refine Weaker.fz 1 0 ?_ ?_ ?_
            · simp [go_sem, c1, c2, err2]
            · first | (simp; done) | (simp; omega)
            · simp [go_sem, c1, c2, err2]
          · by_cases c3 : argOk x.aR x.aN = true
            · by_cases c4 : argOk x.bR x.bN = true
              · by_cases c5 : x.dep < 0
                · simp [go_sem, c1, c2, c3, c4, c5]
                  refine call_pf (goodArg_pf _ _) ?_
                  simp [go_sem, c1, c2, c3, c4, c5]
                  refine call_pf (goodArg_pf _ _) ?_
                  simp [go_sem, c1, c2, c3, c4, c5]
                  refine Weaker.fz 1 0 ?_ ?_ ?_
                  · simp [go_sem, c1, c2, c3, c4, c5, err2]
                  · first | (simp; done) | (simp; omega)
                  · simp [go_sem, c1, c2, c3, c4, c5, err2]
                · by_cases c6 : 8 < x.dep
                  · simp [go_sem, c1, c2, c3, c4, c5, c6]
                    refine call_pf (goodArg_pf _ _) ?_
                    simp [go_sem, c1, c2, c3, c4, c5, c6]
                    refine call_pf (goodArg_pf _ _) ?_
                    simp [go_sem, c1, c2, c3, c4, c5, c6]
                    refine Weaker.fz 1 0 ?_ ?_ ?_
                    · simp [go_sem, c1, c2, c3, c4, c5, c6, err2]
                    · first | (simp; done) | (simp; omega)
                    · simp [go_sem, c1, c2, c3, c4, c5, c6, err2]
                  · simp [go_sem, c1, c2, c3, c4, c5, c6]
                    refine call_pf (goodArg_pf _ _) ?_
                    simp [go_sem, c1, c2, c3, c4, c5, c6]
                    refine call_pf (goodArg_pf _ _) ?_
                    simp [go_sem, c1, c2, c3, c4, c5, c6]
                    refine Weaker.fz 1 0 ?_ ?_ ?_
                    · simp [go_sem, c1, c2, c3, c4, c5, c6, err2]
                    · first | (simp; done) | (simp; omega)
                    · simp [go_sem, c1, c2, c3, c4, c5, c6, err2]
              · simp [go_sem, c1, c2, c3, c4]
                refine call_pf (goodArg_pf _ _) ?_
                simp [go_sem, c1, c2, c3, c4]
                refine call_pf (goodArg_pf _ _) ?_
                simp [go_sem, c1, c2, c3, c4]
                refine Weaker.fz 1 0 ?_ ?_ ?_
                · simp [go_sem, c1, c2, c3, c4, err2]
                · first | (simp; done) | (simp; omega)
                · simp [go_sem, c1, c2, c3, c4, err2]
            · simp [go_sem, c1, c2, c3]
              refine call_pf (goodArg_pf _ _) ?_
              simp [go_sem, c1, c2, c3]
              refine Weaker.fz 1 0 ?_ ?_ ?_
              · simp [go_sem, c1, c2, c3, err2]
              · first | (simp; done) | (simp; omega)
              · simp [go_sem, c1, c2, c3, err2]
      · skip
        refine cond_k rfl (fun h => ?_) (fun h => ?_)
        · have e2 := h
          refine region_k T_ok (by decide) fun K hK => ?_
          simp [go_sem]
          refine hK _ ?_; clear hK K
          refine tr_ret ⟨.inr rfl, ?_⟩
          simp [go_sem, insErr, e1, e2]
        · have e2 := h
          refine draw_to T_ok (by kernel_rfl) 14 [[], [0], [0, 1], [0, 1, 2], [0, 1, 2, 3], [0, 1, 2, 3, 4], [0, 1, 2, 3, 4, 5], [0, 1, 2, 3, 4, 5, 6], [0, 1, 2, 3, 4, 5, 6, 7], [0, 1, 2, 3, 4, 5, 6], [0, 1, 2, 3, 4, 5, 6, 9], [0, 1, 2, 3, 4, 5, 6, 9, 10], [0, 1, 2, 3, 4, 5, 6, 9, 10, 11], [0, 1, 2, 3, 4, 5, 6, 9, 10, 11, 12], [0, 1, 2, 3, 4, 5, 6, 7, 8, 9, 10, 11, 12, 13], [0, 1, 2, 3, 4, 5, 6, 7, 8, 9, 10, 11, 12, 13, 14], [0, 1, 2, 3, 4, 5, 6, 7, 8, 9, 10, 11, 12, 13, 14, 15], [0, 1, 2, 3, 4, 5, 6, 7, 8, 9, 10, 11, 12, 13, 14, 15, 16]] [] (by decide) (by decide) (by decide) ⟨133, [(0, .rp t.cs 0), (2, iV left), (4, .ptr 0 0 0), (53, bV (err3 t.locs.length x))], [(0, .rows 13 [.agg x.cs])], 27⟩ ?_ ?_
          · first | dsimp only [List.take, List.drop] | dsimp [List.take, List.drop]
            by_cases c1 : memB x.op = true
            · by_cases c2 : x.loc < 0
              · simp [go_sem, c1, c2, Tst.cs]
                refine callD_of (ismem_pf x) ?_
                simp [go_sem, c1, c2, Tst.cs]
                refine Weaker.fz 1 0 ?_ ?_ ?_
                · simp [go_sem, Tst.cs, c1, c2, err3]
                · first | (simp; done) | (simp; omega)
                · simp [go_sem, c1, c2, err3]
              · by_cases c3 : (t.locs.length : Int) ≤ x.loc
                · simp [go_sem, c1, c2, c3, Tst.cs]
                  refine callD_of (ismem_pf x) ?_
                  simp [go_sem, c1, c2, c3, Tst.cs]
                  refine Weaker.fz 1 0 ?_ ?_ ?_
                  · simp [go_sem, Tst.cs, c1, c2, c3, err3]
                  · first | (simp; done) | (simp; omega)
                  · simp [go_sem, c1, c2, c3, err3]
                · simp [go_sem, c1, c2, c3, Tst.cs]
                  refine callD_of (ismem_pf x) ?_
                  simp [go_sem, c1, c2, c3, Tst.cs]
                  refine Weaker.fz 1 0 ?_ ?_ ?_
                  · simp [go_sem, Tst.cs, c1, c2, c3, err3]
                  · first | (simp; done) | (simp; omega)
                  · simp [go_sem, c1, c2, c3, err3]
            · simp [go_sem, c1, Tst.cs]
              refine callD_of (ismem_pf x) ?_
              simp [go_sem, c1, Tst.cs]
              refine Weaker.fz 1 0 ?_ ?_ ?_
              · simp [go_sem, Tst.cs, c1, err3]
              · first | (simp; done) | (simp; omega)
              · simp [go_sem, c1, err3]
          · skip
            refine cond_k rfl (fun h => ?_) (fun h => ?_)
            · have e3 := h
              refine region_k T_ok (by decide) fun K hK => ?_
              simp [go_sem]
              refine hK _ ?_; clear hK K
              refine tr_ret ⟨.inr rfl, ?_⟩
              simp [go_sem, insErr, e1, e2, e3]
            · have e3 := h
              refine region_to T_ok (by decide) ⟨133, [(0, .rp t.cs 0), (2, iV left), (4, .ptr 0 0 0), (71, bV (err4 x))], [(0, .rows 13 [.agg x.cs])], 27⟩ ?_ ?_
              · by_cases c1 : x.op = 1
                · by_cases c2 : x.aR = true
                  · simp [go_sem, c1, c2]
                    refine Weaker.fz 1 0 ?_ ?_ ?_
                    · simp [go_sem, c1, c2, err4]
                    · first | (simp; done) | (simp; omega)
                    · simp [go_sem, c1, c2, err4]
                  · simp [go_sem, c1, c2]
                    refine Weaker.fz 1 0 ?_ ?_ ?_
                    · simp [go_sem, c1, c2, err4]
                    · first | (simp; done) | (simp; omega)
                    · simp [go_sem, c1, c2, err4]
                · simp [go_sem, c1]
                  refine Weaker.fz 1 0 ?_ ?_ ?_
                  · simp [go_sem, c1, err4]
                  · first | (simp; done) | (simp; omega)
                  · simp [go_sem, c1, err4]
              · skip
                refine cond_k rfl (fun h => ?_) (fun h => ?_)
                · have e4 := h
                  refine region_k T_ok (by decide) fun K hK => ?_
                  simp [go_sem]
                  refine hK _ ?_; clear hK K
                  refine tr_ret ⟨.inr rfl, ?_⟩
                  simp [go_sem, insErr, e1, e2, e3, e4]
                · have e4 := h
                  refine region_to T_ok (by decide) ⟨133, [(0, .rp t.cs 0), (2, iV left), (4, .ptr 0 0 0), (80, bV (err5 x))], [(0, .rows 13 [.agg x.cs])], 27⟩ ?_ ?_
                  · by_cases c1 : x.op = 15
                    · by_cases c2 : x.pred < 1
                      · simp [go_sem, c1, c2]
                        refine Weaker.fz 1 0 ?_ ?_ ?_
                        · simp [go_sem, c1, c2, err5]
                        · first | (simp; done) | (simp; omega)
                        · simp [go_sem, c1, c2, err5]
                      · by_cases c3 : 3 < x.pred
                        · simp [go_sem, c1, c2, c3]
                          refine Weaker.fz 1 0 ?_ ?_ ?_
                          · simp [go_sem, c1, c2, c3, err5]
                          · first | (simp; done) | (simp; omega)
                          · simp [go_sem, c1, c2, c3, err5]
                        · by_cases c4 : x.succ < 1
                          · simp [go_sem, c1, c2, c3, c4]
                            refine Weaker.fz 1 0 ?_ ?_ ?_
                            · simp [go_sem, c1, c2, c3, c4, err5]
                            · first | (simp; done) | (simp; omega)
                            · simp [go_sem, c1, c2, c3, c4, err5]
                          · by_cases c5 : 3 < x.succ
                            · simp [go_sem, c1, c2, c3, c4, c5]
                              refine Weaker.fz 1 0 ?_ ?_ ?_
                              · simp [go_sem, c1, c2, c3, c4, c5, err5]
                              · first | (simp; done) | (simp; omega)
                              · simp [go_sem, c1, c2, c3, c4, c5, err5]
                            · simp [go_sem, c1, c2, c3, c4, c5]
                              refine Weaker.fz 1 0 ?_ ?_ ?_
                              · simp [go_sem, c1, c2, c3, c4, c5, err5]
                              · first | (simp; done) | (simp; omega)
                              · simp [go_sem, c1, c2, c3, c4, c5, err5]
                    · simp [go_sem, c1]
                      refine Weaker.fz 1 0 ?_ ?_ ?_
                      · simp [go_sem, c1, err5]
                      · first | (simp; done) | (simp; omega)
                      · simp [go_sem, c1, err5]
                  · skip
                    refine cond_k rfl (fun h => ?_) (fun h => ?_)
                    · have e5 := h
                      refine region_k T_ok (by decide) fun K hK => ?_
                      simp [go_sem]
                      refine hK _ ?_; clear hK K
                      refine tr_ret ⟨.inr rfl, ?_⟩
                      simp [go_sem, insErr, e1, e2, e3, e4, e5]
                    · have e5 := h
                      refine region_to T_ok (by decide) ⟨133, [(0, .rp t.cs 0), (2, iV left), (4, .ptr 0 0 0), (104, bV (err6 x))], [(0, .rows 13 [.agg x.cs])], 27⟩ ?_ ?_
                      · by_cases c1 : x.acq = true
                        · by_cases c2 : rdB x.op = true
                          · by_cases c3 : x.rel = true
                            · simp [go_sem, c1, c2, c3]
                              refine call_pf (of_pf x) ?_
                              simp [go_sem, c1, c2, c3]
                              refine call_pf (of_pf x) ?_
                              simp [go_sem, c1, c2, c3]
                              refine Weaker.fz 1 0 ?_ ?_ ?_
                              · simp [go_sem, c1, c2, c3, err6]
                              · first | (simp; done) | (simp; omega)
                              · simp [go_sem, c1, c2, c3, err6]
                            · simp [go_sem, c1, c2, c3]
                              refine call_pf (of_pf x) ?_
                              simp [go_sem, c1, c2, c3]
                              refine Weaker.fz 1 0 ?_ ?_ ?_
                              · simp [go_sem, c1, c2, c3, err6]
                              · first | (simp; done) | (simp; omega)
                              · simp [go_sem, c1, c2, c3, err6]
                          · simp [go_sem, c1, c2]
                            refine call_pf (of_pf x) ?_
                            simp [go_sem, c1, c2]
                            refine Weaker.fz 1 0 ?_ ?_ ?_
                            · simp [go_sem, c1, c2, err6]
                            · first | (simp; done) | (simp; omega)
                            · simp [go_sem, c1, c2, err6]
                        · by_cases c2 : x.rel = true
                          · simp [go_sem, c1, c2]
                            refine call_pf (of_pf x) ?_
                            simp [go_sem, c1, c2]
                            refine Weaker.fz 1 0 ?_ ?_ ?_
                            · simp [go_sem, c1, c2, err6]
                            · first | (simp; done) | (simp; omega)
                            · simp [go_sem, c1, c2, err6]
                          · simp [go_sem, c1, c2]
                            refine Weaker.fz 1 0 ?_ ?_ ?_
                            · simp [go_sem, c1, c2, err6]
                            · first | (simp; done) | (simp; omega)
                            · simp [go_sem, c1, c2, err6]
                      · skip
                        refine cond_k rfl (fun h => ?_) (fun h => ?_)
                        · have e6 := h
                          refine region_k T_ok (by decide) fun K hK => ?_
                          simp [go_sem]
                          refine hK _ ?_; clear hK K
                          refine tr_ret ⟨.inr rfl, ?_⟩
                          simp [go_sem, insErr, e1, e2, e3, e4, e5, e6]
                        · have e6 := h
                          refine region_to T_ok (by decide) ⟨133, [(0, .rp t.cs 0), (2, iV left), (4, .ptr 0 0 0), (123, bV (err7 x left))], [(0, .rows 13 [.agg x.cs])], 27⟩ ?_ ?_
                          · by_cases c1 : x.skip < 0
                            · simp [go_sem, c1]
                              refine Weaker.fz 1 0 ?_ ?_ ?_
                              · simp [go_sem, c1, err7]
                              · first | (simp; done) | (simp; omega)
                              · simp [go_sem, c1, err7]
                            · by_cases c2 : left < x.skip
                              · simp [go_sem, c1, c2]
                                refine Weaker.fz 1 0 ?_ ?_ ?_
                                · simp [go_sem, c1, c2, err7]
                                · first | (simp; done) | (simp; omega)
                                · simp [go_sem, c1, c2, err7]
                              · simp [go_sem, c1, c2]
                                refine Weaker.fz 1 0 ?_ ?_ ?_
                                · simp [go_sem, c1, c2, err7]
                                · first | (simp; done) | (simp; omega)
                                · simp [go_sem, c1, c2, err7]
                          · skip
                            refine cond_k rfl (fun h => ?_) (fun h => ?_)
                            · have e7 := h
                              refine region_k T_ok (by decide) fun K hK => ?_
                              simp [go_sem]
                              refine hK _ ?_; clear hK K
                              refine tr_ret ⟨.inr rfl, ?_⟩
                              simp [go_sem, insErr, e1, e2, e3, e4, e5, e6, e7]
                            · have e7 := h
                              refine tr_skip ?_
                              refine hK1 _ ?_; try clear hK1 K1
                              refine region_k T_ok (by decide) fun K hK => ?_
                              simp [go_sem]
                              refine hK _ ?_; clear hK K
                              refine tr_ret ⟨.inr rfl, ?_⟩
                              simp [go_sem, insErr, e1, e2, e3, e4, e5, e6, e7]

end Go.Proofs.Ytflooghnoljpcaa
/- Litmus tests: the walks of the package litmus: names, sizes. -/
namespace Go.Proofs.Ytflooghnoljpcaa
open Go Go.Sl Go.Proofs.Try

@[go_sem] theorem str_nil (s : ByteArray) : (s.toList = []) = (s.size = 0) := by
  rw [ByteArray.toList_eq]
  obtain ⟨⟨x⟩⟩ := s
  cases x with
  | nil => exact propext ⟨fun _ => rfl, fun _ => rfl⟩
  | cons a l => exact propext ⟨fun h => by simp at h, fun h => by simp [ByteArray.size] at h⟩
@[go_sem] theorem str_empty (s : ByteArray) : s.toList.isEmpty = decide (s.size = 0) := by
  rw [Bool.eq_iff_iff, List.isEmpty_iff, decide_eq_true_eq, str_nil]

set_option maxRecDepth 100000 in
set_option maxHeartbeats 8000000 in
theorem name_pf (s : ByteArray) (hs : s.size ≤ 1000000) : Pf Try.prog 78 [.val (.string s)] (bV (nmB s)) := by
  refine Pf.of_fn (.cons (.val _) .nil) (.val _) ?_
  refine fn_in T_ok func78 rfl rfl ntmps78 rfl (by simp) ?_
  refine region_k T_ok (by decide) fun K hK => ?_
  simp [go_sem]
  refine hK _ ?_; clear hK K
  refine seq_k fun K1 hK1 => ?_
  refine region_k T_ok (by decide) fun K hK => ?_
  simp [go_sem]
  refine hK _ ?_; clear hK K
  refine tr_block ?_
  refine loop_p (α := Nat) (fun a => ⟨53, [(0, .val (.string s)), (5, .val (.string s)), (6, iV (s.size : Nat)), (7, iV (a : Nat))], [], 0⟩) (fun a => a ≤ s.size ∧ okCs s a = true) (fun a => s.size - a) 0 ?_ ?_ ?_
  · exact ⟨by omega, rfl⟩
  · refine Weaker.fz 1 0 ?_ ?_ ?_
    · simp [go_sem]
    · first | (simp; done) | (simp; omega)
    · simp [go_sem]
  rintro i ⟨hi, hok⟩
  try dsimp only
  refine region_k T_ok (by decide) fun K hK => ?_
  simp [go_sem]
  refine hK _ ?_; clear hK K
  refine seq_k fun K2 hK2 => ?_
  refine cond_k rfl (fun h => ?_) (fun h => ?_)
  · simp at h
    have h' : i < s.size := by omega
    have hi0 : (0 : Int) ≤ (i : Nat) := by omega
    have hw : IntKind.i64.wrap ((i : Nat) + 1) = (i : Nat) + 1 := wrap_i64 (by omega) (by omega)
    refine tr_skip ?_
    refine hK2 _ ?_; try clear hK2 K2
    refine seq_k fun K3 hK3 => ?_
    refine tr_block ?_
    refine region_k T_ok (by decide) fun K hK => ?_
    simp [go_sem]
    refine hK _ ?_; clear hK K
    refine region_k T_ok (by decide) fun K hK => ?_
    simp [go_sem, h']
    refine hK _ ?_; clear hK K
    refine region_to T_ok (by decide) ⟨53, [(0, .val (.string s)), (5, .val (.string s)), (6, iV (s.size : Nat)), (7, iV (i : Nat)), (31, bV (!okC i (chI s i)))], [], 0⟩ ?_ ?_
    · generalize chI s i = c
      by_cases c1 : 97 ≤ c
      · by_cases c2 : c ≤ 122
        · simp [go_sem, c1, c2]
          refine Weaker.fz 1 0 ?_ ?_ ?_
          · simp [go_sem, c1, c2, okC]
          · first | (simp; done) | (simp; omega)
          · simp [go_sem, c1, c2, okC]
        · by_cases c3 : 0 < i
          · by_cases c4 : 48 ≤ c
            · by_cases c5 : c ≤ 57
              · simp [go_sem, c1, c2, c3, c4, c5]
                refine Weaker.fz 1 0 ?_ ?_ ?_
                · simp [go_sem, c1, c2, c3, c4, c5, okC]
                · first | (simp; done) | (simp; omega)
                · simp [go_sem, c1, c2, c3, c4, c5, okC]
              · simp [go_sem, c1, c2, c3, c4, c5]
                refine Weaker.fz 1 0 ?_ ?_ ?_
                · simp [go_sem, c1, c2, c3, c4, c5, okC]
                · first | (simp; done) | (simp; omega)
                · simp [go_sem, c1, c2, c3, c4, c5, okC]
            · simp [go_sem, c1, c2, c3, c4]
              refine Weaker.fz 1 0 ?_ ?_ ?_
              · simp [go_sem, c1, c2, c3, c4, okC]
              · first | (simp; done) | (simp; omega)
              · simp [go_sem, c1, c2, c3, c4, okC]
          · simp [go_sem, c1, c2, c3]
            refine Weaker.fz 1 0 ?_ ?_ ?_
            · simp [go_sem, c1, c2, c3, okC]
            · first | (simp; done) | (simp; omega)
            · simp [go_sem, c1, c2, c3, okC]
      · by_cases c2 : 0 < i
        · by_cases c3 : 48 ≤ c
          · by_cases c4 : c ≤ 57
            · simp [go_sem, c1, c2, c3, c4]
              refine Weaker.fz 1 0 ?_ ?_ ?_
              · simp [go_sem, c1, c2, c3, c4, okC]
              · first | (simp; done) | (simp; omega)
              · simp [go_sem, c1, c2, c3, c4, okC]
            · simp [go_sem, c1, c2, c3, c4]
              refine Weaker.fz 1 0 ?_ ?_ ?_
              · simp [go_sem, c1, c2, c3, c4, okC]
              · first | (simp; done) | (simp; omega)
              · simp [go_sem, c1, c2, c3, c4, okC]
          · simp [go_sem, c1, c2, c3]
            refine Weaker.fz 1 0 ?_ ?_ ?_
            · simp [go_sem, c1, c2, c3, okC]
            · first | (simp; done) | (simp; omega)
            · simp [go_sem, c1, c2, c3, okC]
        · simp [go_sem, c1, c2]
          refine Weaker.fz 1 0 ?_ ?_ ?_
          · simp [go_sem, c1, c2, okC]
          · first | (simp; done) | (simp; omega)
          · simp [go_sem, c1, c2, okC]
    · skip
      refine cond_k rfl (fun h => ?_) (fun h => ?_)
      · have hc : okC i (chI s i) = false := by simpa using h
        have hbad : okCs s s.size = false := okCs_bad h' hc
        refine region_k T_ok (by decide) fun K hK => ?_
        simp [go_sem]
        refine hK _ ?_; clear hK K
        refine tr_ret ⟨.inr rfl, ?_⟩
        simp [go_sem, nmB, hbad]
      · have hc : okC i (chI s i) = true := by simpa using h
        refine tr_skip ?_
        refine hK3 _ ?_; try clear hK3 K3
        refine region_e T_ok (by decide) fun K hK => ?_
        simp [go_sem, hw]
        refine hK _ ?_; clear hK K
        refine ⟨i + 1, ?_, ?_, ?_⟩
        · exact ⟨by omega, by simp [okCs, hok, hc]⟩
        · omega
        · refine Weaker.fz 1 0 ?_ ?_ ?_
          · simp [go_sem]
          · first | (simp; done) | (simp; omega)
          simp [go_sem]
  · simp at h
    obtain rfl : i = s.size := by omega
    refine tr_exit ?_
    refine hK1 _ ?_; try clear hK1 K1
    refine seq_k fun K4 hK4 => ?_
    refine region_to T_ok (by decide) ⟨53, [(0, .val (.string s)), (45, bV (regN s))], [], 0⟩ ?_ ?_
    · have hsI : (((s.size : Nat) : Int) = 2) = (s.size = 2) := propext (by omega)
      by_cases c1 : s.size = 2
      · by_cases c2 : chI s 0 = 114
        · by_cases c3 : chI s 1 ≤ 57
          · simp [go_sem, c1, c2, c3, hsI]
            refine Weaker.fz 1 0 ?_ ?_ ?_
            · simp [go_sem, c1, c2, c3, regN]
            · first | (simp; done) | (simp; omega)
            · simp [go_sem, c1, c2, c3, regN]
          · simp [go_sem, c1, c2, c3, hsI]
            refine Weaker.fz 1 0 ?_ ?_ ?_
            · simp [go_sem, c1, c2, c3, regN]
            · first | (simp; done) | (simp; omega)
            · simp [go_sem, c1, c2, c3, regN]
        · simp [go_sem, c1, c2, hsI]
          refine Weaker.fz 1 0 ?_ ?_ ?_
          · simp [go_sem, c1, c2, regN]
          · first | (simp; done) | (simp; omega)
          · simp [go_sem, c1, c2, regN]
      · simp [go_sem, c1, hsI]
        refine Weaker.fz 1 0 ?_ ?_ ?_
        · simp [go_sem, c1, regN]
        · first | (simp; done) | (simp; omega)
        · simp [go_sem, c1, regN]
    · skip
      refine cond_k rfl (fun h => ?_) (fun h => ?_)
      · have hreg := h
        refine region_k T_ok (by decide) fun K hK => ?_
        simp [go_sem]
        refine hK _ ?_; clear hK K
        refine tr_ret ⟨.inr rfl, ?_⟩
        simp [go_sem, nmB, hok, hreg]
      · have hreg := h
        refine tr_skip ?_
        refine hK4 _ ?_; try clear hK4 K4
        refine region_to T_ok (by decide) ⟨53, [(2, bV (decide (s.size ≠ 0) && decide (s.size ≤ 16)))], [], 0⟩ ?_ ?_
        · have hsI : (((s.size : Nat) : Int) ≤ 16) = (s.size ≤ 16) := propext (by omega)
          by_cases c1 : s.size = 0
          · simp [go_sem, c1, hsI]
            refine Weaker.fz 1 0 ?_ ?_ ?_
            · simp [go_sem, c1]
            · first | (simp; done) | (simp; omega)
            · simp [go_sem, c1]
          · by_cases c2 : s.size ≤ 16
            · simp [go_sem, c1, c2, hsI]
              refine Weaker.fz 1 0 ?_ ?_ ?_
              · simp [go_sem, c1, c2]
              · first | (simp; done) | (simp; omega)
              · simp [go_sem, c1, c2]
            · simp [go_sem, c1, c2, hsI]
              refine Weaker.fz 1 0 ?_ ?_ ?_
              · simp [go_sem, c1, c2]
              · first | (simp; done) | (simp; omega)
              · simp [go_sem, c1, c2]
        · skip
          refine tr_ret ⟨.inr rfl, ?_⟩
          simp [go_sem, nmB, hok, hreg]

set_option maxRecDepth 100000 in
set_option maxHeartbeats 8000000 in
theorem sizes_pf (t : Tst) : Pf Try.prog 77 [.rp t.cs 0] (iV (sizeErr t)) := by
  refine Pf.of_fn (.cons (nl_rp t) .nil) (.val _) ?_
  refine fn_in T_ok func77 rfl rfl ntmps77 rfl (by simp) ?_
  refine region_k T_ok (by decide) fun K hK => ?_
  simp [go_sem]
  refine hK _ ?_; clear hK K
  refine seq_k fun K1 hK1 => ?_
  refine region_k T_ok (by decide) fun K hK => ?_
  simp [go_sem, Tst.cs]
  refine hK _ ?_; clear hK K
  refine cond_k rfl (fun h => ?_) (fun h => ?_)
  · simp at h
    have h1 := h
    refine region_k T_ok (by decide) fun K hK => ?_
    simp [go_sem]
    refine hK _ ?_; clear hK K
    refine tr_ret ⟨.inr rfl, ?_⟩
    simp [go_sem, sizeErr, h1]
  · simp at h
    have h1 := h
    refine tr_skip ?_
    refine hK1 _ ?_; try clear hK1 K1
    refine seq_k fun K2 hK2 => ?_
    refine region_to T_ok (by decide) ⟨49, [(0, .rp t.cs 0), (32, bV (manyB t))], [], 0⟩ ?_ ?_
    · by_cases c1 : (4 : Int) < (t.ths.length : Nat)
      · simp [go_sem, c1, Tst.cs]
        refine Weaker.fz 1 0 ?_ ?_ ?_
        · simp [go_sem, c1, manyB, Tst.cs]
        · first | (simp; done) | (simp; omega)
        · simp [go_sem, c1, manyB, Tst.cs]
      · by_cases c2 : (8 : Int) < (t.locs.length : Nat)
        · simp [go_sem, c1, c2, Tst.cs]
          refine Weaker.fz 1 0 ?_ ?_ ?_
          · simp [go_sem, c1, c2, manyB, Tst.cs]
          · first | (simp; done) | (simp; omega)
          · simp [go_sem, c1, c2, manyB, Tst.cs]
        · by_cases c3 : (40 : Int) < (t.asks.length : Nat)
          · simp [go_sem, c1, c2, c3, Tst.cs]
            refine Weaker.fz 1 0 ?_ ?_ ?_
            · simp [go_sem, c1, c2, c3, manyB, Tst.cs]
            · first | (simp; done) | (simp; omega)
            · simp [go_sem, c1, c2, c3, manyB, Tst.cs]
          · simp [go_sem, c1, c2, c3, Tst.cs]
            refine Weaker.fz 1 0 ?_ ?_ ?_
            · simp [go_sem, c1, c2, c3, manyB, Tst.cs]
            · first | (simp; done) | (simp; omega)
            · simp [go_sem, c1, c2, c3, manyB, Tst.cs]
    · skip
      refine cond_k rfl (fun h => ?_) (fun h => ?_)
      · have h2 := h
        refine region_k T_ok (by decide) fun K hK => ?_
        simp [go_sem]
        refine hK _ ?_; clear hK K
        refine tr_ret ⟨.inr rfl, ?_⟩
        simp [go_sem, sizeErr, h1, h2]
      · have h2 := h
        have hm : t.ths.length ≤ 4 := by unfold manyB at h2; simp at h2; omega
        refine tr_skip ?_
        refine hK2 _ ?_; try clear hK2 K2
        refine seq_k fun K3 hK3 => ?_
        refine region_k T_ok (by decide) fun K hK => ?_
        simp [go_sem, Tst.cs]
        refine hK _ ?_; clear hK K
        refine tr_block ?_
        refine loop_p (α := Nat) (fun a => ⟨49, [(0, .rp t.cs 0), (36, .ro 1 (thrs t.ths)), (37, iV (t.ths.length : Nat)), (38, iV (a : Nat))], [], 0⟩) (fun a => a ≤ t.ths.length ∧ ∀ x ∈ t.ths.take a, x.length ≤ 8) (fun a => t.ths.length - a) 0 ?_ ?_ ?_
        · exact ⟨by omega, by simp⟩
        · refine Weaker.fz 1 0 ?_ ?_ ?_
          · simp [go_sem, Tst.cs]
          · first | (simp; done) | (simp; omega)
          · simp [go_sem]
        rintro i ⟨hi, hok⟩
        try dsimp only
        refine region_k T_ok (by decide) fun K hK => ?_
        simp [go_sem]
        refine hK _ ?_; clear hK K
        refine seq_k fun K4 hK4 => ?_
        refine cond_k rfl (fun h => ?_) (fun h => ?_)
        · simp at h
          have hI := h
          clear h
          have h' : i < (t.ths).length := by omega
          obtain ⟨l, hx, hx'⟩ := getAt h'
          have hi0 : (0 : Int) ≤ (i : Nat) := by omega
          have hw : IntKind.i64.wrap ((i : Nat) + 1) = (i : Nat) + 1 := wrap_i64 (by omega) (by omega)
          refine tr_skip ?_
          refine hK4 _ ?_; try clear hK4 K4
          refine seq_k fun K5 hK5 => ?_
          refine tr_block ?_
          refine region_k T_ok (by decide) fun K hK => ?_
          simp [go_sem, hI, hx, hx', hi0, h']
          refine hK _ ?_; clear hK K
          refine region_k T_ok (by decide) fun K hK => ?_
          simp [go_sem]
          refine hK _ ?_; clear hK K
          refine cond_k rfl (fun h => ?_) (fun h => ?_)
          · simp at h
            have h8 : ¬ l.length ≤ 8 := by omega
            have hnot : ¬ ∀ x ∈ t.ths, x.length ≤ 8 := fun hh => h8 (hh l (List.mem_of_getElem? hx))
            refine region_k T_ok (by decide) fun K hK => ?_
            simp [go_sem]
            refine hK _ ?_; clear hK K
            refine tr_ret ⟨.inr rfl, ?_⟩
            simp only [sizeErr, h1, h2, hnot, if_false, if_true]
            simp [go_sem, h1, h2]
          · simp at h
            have h8 : l.length ≤ 8 := by omega
            refine tr_skip ?_
            refine hK5 _ ?_; try clear hK5 K5
            refine region_e T_ok (by decide) fun K hK => ?_
            simp [go_sem, hw]
            refine hK _ ?_; clear hK K
            refine ⟨i + 1, ?_, ?_, ?_⟩
            · refine ⟨by omega, fun y hy => ?_⟩
              rw [takeAt hx] at hy
              rcases List.mem_append.1 hy with hy | hy
              · exact hok y hy
              · rw [List.mem_singleton.1 hy]; exact h8
            · omega
            · refine Weaker.fz 1 0 ?_ ?_ ?_
              · simp [go_sem]
              · first | (simp; done) | (simp; omega)
              simp [go_sem]
        · simp at h
          obtain rfl : i = t.ths.length := by omega
          rw [List.take_length] at hok
          have hev := events_len t.ths hok
          have hev2 : events t.ths ≤ 64 := Nat.le_trans hev (by omega)
          refine tr_exit ?_
          refine hK3 _ ?_; try clear hK3 K3
          refine seq_k fun K6 hK6 => ?_
          refine region_k T_ok (by decide) fun K hK => ?_
          simp [go_sem]
          refine call_pf (events_pf t (by omega) (fun x hx => by have := hok x hx; omega) (by omega)) ?_
          simp [go_sem]
          refine hK _ ?_; clear hK K
          refine cond_k rfl (fun h => ?_) (fun h => ?_)
          · simp at h
            have h3 : 8 < events t.ths := by omega
            refine region_k T_ok (by decide) fun K hK => ?_
            simp [go_sem]
            refine hK _ ?_; clear hK K
            refine tr_ret ⟨.inr rfl, ?_⟩
            simp [go_sem, sizeErr, h1, h2, h3]
            try exact fun hh => absurd hok hh
          · simp at h
            have h3 : ¬ 8 < events t.ths := by omega
            refine tr_skip ?_
            refine hK6 _ ?_; try clear hK6 K6
            refine region_k T_ok (by decide) fun K hK => ?_
            simp [go_sem]
            refine hK _ ?_; clear hK K
            refine tr_ret ⟨.inr rfl, ?_⟩
            simp [go_sem, sizeErr, h1, h2, h3]
            try exact hok

end Go.Proofs.Ytflooghnoljpcaa
/- Litmus tests: the walk of Check of the package litmus. -/
namespace Go.Proofs.Ytflooghnoljpcaa
open Go Go.Sl Go.Proofs.Try

set_option maxRecDepth 100000 in
set_option maxHeartbeats 16000000 in
theorem Check_pf (t : Tst) (hn : ∀ l ∈ t.locs, l.name.size ≤ 1000000) : Pf Try.prog 49 [.rp t.cs 0] (iV (chkErr t)) := by
  refine Pf.of_fn (.cons (nl_rp t) .nil) (.val _) ?_
  refine fn_in T_ok func49 rfl rfl ntmps49 rfl (by simp) ?_
  refine region_k T_ok (by decide) fun K hK => ?_
  simp [go_sem]
  refine hK _ ?_; clear hK K
  refine seq_k fun K1 hK1 => ?_
  refine region_k T_ok (by decide) fun K hK => ?_
  simp [go_sem]
  refine call_pf (sizes_pf t) ?_
  simp [go_sem]
  refine hK _ ?_; clear hK K
  refine region_k T_ok (by decide) fun K hK => ?_
  simp [go_sem]
  refine hK _ ?_; clear hK K
  refine cond_k rfl (fun h => ?_) (fun h => ?_)
  · simp at h
    have hs := h
    refine region_k T_ok (by decide) fun K hK => ?_
    simp [go_sem]
    refine hK _ ?_; clear hK K
    refine tr_ret ⟨.inr rfl, ?_⟩
    simp [go_sem, chkErr, hs]
  · simp at h
    have hz := h
    obtain ⟨_, b1, b2, b3, b4, _⟩ := sizeErr_zero hz
    refine tr_skip ?_
    refine hK1 _ ?_; try clear hK1 K1
    refine seq_k fun K2 hK2 => ?_
    refine region_k T_ok (by decide) fun K hK => ?_
    simp [go_sem, Tst.cs]
    refine hK _ ?_; clear hK K
    refine tr_block ?_
    refine loop_p (α := Nat × Nat) (fun a => ⟨111, [(0, .rp t.cs 0), (22, .ro 2 (inis t.locs)), (23, iV (t.locs.length : Nat)), (24, iV (a.1 : Nat))], [], a.2⟩) (fun a => a.1 ≤ t.locs.length ∧ fe (locErr t) 0 t.locs = fe (locErr t) a.1 (t.locs.drop a.1)) (fun a => t.locs.length - a.1) (0, 0) ?_ ?_ ?_
    · exact ⟨by dsimp only; omega, rfl⟩
    · refine Weaker.fz 1 0 ?_ ?_ ?_
      · simp [go_sem, Tst.cs]
      · first | (simp; done) | (simp; omega)
      · simp [go_sem]
    rintro ⟨i, j⟩ ⟨hi, hf⟩
    dsimp only at hi hf ⊢
    refine region_k T_ok (by decide) fun K hK => ?_
    simp [go_sem]
    refine hK _ ?_; clear hK K
    refine seq_k fun K3 hK3 => ?_
    refine cond_k rfl (fun h => ?_) (fun h => ?_)
    · simp at h
      have hI := h
      clear h
      have h' : i < (t.locs).length := by omega
      obtain ⟨l, hx, hx'⟩ := getAt h'
      have hi0 : (0 : Int) ≤ (i : Nat) := by omega
      have hw : IntKind.i64.wrap ((i : Nat) + 1) = (i : Nat) + 1 := wrap_i64 (by omega) (by omega)
      have hnm := hn l (List.mem_of_getElem? hx)
      refine tr_skip ?_
      refine hK3 _ ?_; try clear hK3 K3
      refine seq_k fun K4 hK4 => ?_
      refine tr_block ?_
      refine region_k T_ok (by decide) fun K hK => ?_
      simp [go_sem, hI, hx, hx', hi0, h', iniC, Ini.cs]
      refine hK _ ?_; clear hK K
      refine seq_k fun K5 hK5 => ?_
      refine region_k T_ok (by decide) fun K hK => ?_
      simp [go_sem, iniC, Ini.cs]
      refine call_pf (name_pf _ (by omega)) ?_
      simp [go_sem]
      refine hK _ ?_; clear hK K
      refine cond_k rfl (fun h => ?_) (fun h => ?_)
      · simp at h
        have hg : locErr t i l = 11 := by simp [locErr, h]
        have hl : fe (locErr t) 0 t.locs = 11 := by rw [hf, fe_bad hx (by rw [hg]; decide), hg]
        refine region_k T_ok (by decide) fun K hK => ?_
        simp [go_sem]
        refine hK _ ?_; clear hK K
        refine tr_ret ⟨.inr rfl, ?_⟩
        simp [go_sem, chkErr, hz, hl]
      · simp at h
        have hnk := h
        refine tr_skip ?_
        refine hK5 _ ?_; try clear hK5 K5
        refine draw_to T_ok (by kernel_rfl) 14 [[], [0], [0, 1], [0, 1, 2], [0, 1, 2, 3], [0, 1, 2], [0, 1, 2, 5], [0, 1, 2, 5, 6], [0, 1, 2, 5, 6, 7], [0, 1, 2], [0, 1, 2, 9], [0, 1, 2, 5, 6, 7, 8, 9, 10], [0, 1, 2, 5, 6, 7, 8, 9, 10, 11], [0, 1, 2, 5, 6, 7, 8, 9, 10, 11, 12], [0, 1, 2, 3, 4, 5, 6, 7, 8, 9, 10, 11, 12, 13], [0, 1, 2, 3, 4, 5, 6, 7, 8, 9, 10, 11, 12, 13, 14]] [] (by decide) (by decide) (by decide) ⟨111, [(0, .rp t.cs 0), (22, .ro 2 (inis t.locs)), (23, iV (t.locs.length : Nat)), (24, iV (i : Nat)), (48, bV (prevLe t i l))], [], j + 15⟩ ?_ ?_
        · first | dsimp only [List.take, List.drop] | dsimp [List.take, List.drop]
          by_cases c1 : 0 < i
          · obtain ⟨p, hp, hp'⟩ := getAt (show i - 1 < t.locs.length by omega)
            have hw1 : IntKind.i64.wrap ((i : Int) - 1) = ((i - 1 : Nat) : Int) := by rw [wrap_i64 (by omega) (by omega)]; omega
            have hb1 : ((i - 1 : Nat) : Int) < (t.locs.length : Nat) := by omega
            have hb0 : (0 : Int) ≤ ((i - 1 : Nat) : Int) := by omega
            have hb2 : i - 1 < t.locs.length := by omega
            have cI : (0 : Int) < (i : Nat) := by omega
            simp [go_sem, c1, Tst.cs, iniC, Ini.cs, hp, hp', hw1, hb1, hb0, hb2, cI]
            refine Weaker.fz 1 0 ?_ ?_ ?_
            · simp [go_sem, c1, prevLe, strLe, Tst.cs, hp, hp', hw1, hb1, hb0, hb2, cI]
            · first | (simp; done) | (simp; omega)
            · simp [go_sem, c1, prevLe, strLe, Tst.cs, hp, hp', hw1, hb1, hb0, hb2, cI]
          · have cI : ¬ (0 : Int) < (i : Nat) := by omega
            simp [go_sem, c1, Tst.cs, iniC, Ini.cs, cI]
            refine Weaker.fz 1 0 ?_ ?_ ?_
            · simp [go_sem, c1, prevLe, strLe, Tst.cs, cI]
            · first | (simp; done) | (simp; omega)
            · simp [go_sem, c1, prevLe, strLe, Tst.cs, cI]
        · skip
          refine cond_k rfl (fun h => ?_) (fun h => ?_)
          · have hg : locErr t i l = 16 := by simp [locErr, hnk, h]
            have hl : fe (locErr t) 0 t.locs = 16 := by rw [hf, fe_bad hx (by rw [hg]; decide), hg]
            refine region_k T_ok (by decide) fun K hK => ?_
            simp [go_sem]
            refine hK _ ?_; clear hK K
            refine tr_ret ⟨.inr rfl, ?_⟩
            simp [go_sem, chkErr, hz, hl]
          · have hg : locErr t i l = 0 := by simp [locErr, hnk, h]
            refine tr_skip ?_
            refine hK4 _ ?_; try clear hK4 K4
            refine region_e T_ok (by decide) fun K hK => ?_
            simp [go_sem, hw]
            refine hK _ ?_; clear hK K
            refine ⟨(i + 1, j + 15), ?_, ?_, ?_⟩
            · exact ⟨by dsimp only; omega, by dsimp only; rw [hf, fe_good hx hg]⟩
            · dsimp only; omega
            · refine Weaker.fz 1 0 ?_ ?_ ?_
              · simp [go_sem]
              · first | (simp; done) | (simp; omega)
              simp [go_sem]
    · simp at h
      obtain rfl : i = t.locs.length := by omega
      rw [fe_end] at hf
      have hl := hf
      clear hf
      refine tr_exit ?_
      refine hK2 _ ?_; try clear hK2 K2
      refine seq_k fun K6 hK6 => ?_
      refine region_k T_ok (by decide) fun K hK => ?_
      simp [go_sem, Tst.cs]
      refine hK _ ?_; clear hK K
      refine tr_block ?_
      refine loop_p (α := Nat × Nat) (fun a => ⟨111, [(0, .rp t.cs 0), (53, .ro 1 (thrs t.ths)), (54, iV (t.ths.length : Nat)), (55, iV (a.1 : Nat))], [], a.2⟩) (fun a => a.1 ≤ t.ths.length ∧ fe (thrErr t) 0 t.ths = fe (thrErr t) a.1 (t.ths.drop a.1)) (fun a => t.ths.length - a.1) (0, j) ?_ ?_ ?_
      · exact ⟨by dsimp only; omega, rfl⟩
      · refine Weaker.fz 1 0 ?_ ?_ ?_
        · simp [go_sem, Tst.cs]
        · first | (simp; done) | (simp; omega)
        · simp [go_sem]
      rintro ⟨i, j⟩ ⟨hi, hf⟩
      dsimp only at hi hf ⊢
      refine region_k T_ok (by decide) fun K hK => ?_
      simp [go_sem]
      refine hK _ ?_; clear hK K
      refine seq_k fun K7 hK7 => ?_
      refine cond_k rfl (fun h => ?_) (fun h => ?_)
      · simp at h
        have hI := h
        clear h
        have h' : i < (t.ths).length := by omega
        obtain ⟨l, hx, hx'⟩ := getAt h'
        have hi0 : (0 : Int) ≤ (i : Nat) := by omega
        have hw : IntKind.i64.wrap ((i : Nat) + 1) = (i : Nat) + 1 := wrap_i64 (by omega) (by omega)
        have hll := b4 l (List.mem_of_getElem? hx)
        refine tr_skip ?_
        refine hK7 _ ?_; try clear hK7 K7
        refine seq_k fun K8 hK8 => ?_
        refine tr_block ?_
        refine region_k T_ok (by decide) fun K hK => ?_
        simp [go_sem, hI, hx, hx', hi0, h']
        refine hK _ ?_; clear hK K
        refine region_k T_ok (by decide) fun K hK => ?_
        simp [go_sem]
        refine hK _ ?_; clear hK K
        refine tr_block ?_
        refine loop_p (α := Nat × Nat) (fun b => ⟨111, [(0, .rp t.cs 0), (7, .ro 13 (inss l)), (53, .ro 1 (thrs t.ths)), (54, iV (t.ths.length : Nat)), (55, iV (i : Nat)), (59, .ro 13 (inss l)), (60, iV (l.length : Nat)), (61, iV (b.1 : Nat))], [], b.2⟩) (fun b => b.1 ≤ l.length ∧ fe (fun i x => insErr t.locs.length ((l.length : Int) - i - 1) x) 0 l = fe (fun i x => insErr t.locs.length ((l.length : Int) - i - 1) x) b.1 (l.drop b.1)) (fun b => l.length - b.1) (0, j) ?_ ?_ ?_
        · exact ⟨by dsimp only; omega, rfl⟩
        · refine Weaker.fz 1 0 ?_ ?_ ?_
          · simp [go_sem]
          · first | (simp; done) | (simp; omega)
          · simp [go_sem]
        rintro ⟨b, c⟩ ⟨hib, hfb⟩
        dsimp only at hib hfb ⊢
        refine region_k T_ok (by decide) fun K hK => ?_
        simp [go_sem]
        refine hK _ ?_; clear hK K
        refine seq_k fun K9 hK9 => ?_
        refine cond_k rfl (fun h => ?_) (fun h => ?_)
        · simp at h
          have hIb := h
          clear h
          have h'b : b < (l).length := by omega
          obtain ⟨x, hxb, hx'b⟩ := getAt h'b
          have hi0b : (0 : Int) ≤ (b : Nat) := by omega
          have hwb : IntKind.i64.wrap ((b : Nat) + 1) = (b : Nat) + 1 := wrap_i64 (by omega) (by omega)
          have hwl1 : IntKind.i64.wrap ((l.length : Int) - (b : Int)) = (l.length : Int) - b := wrap_i64 (by omega) (by omega)
          have hwl2 : IntKind.i64.wrap ((l.length : Int) - (b : Int) - 1) = (l.length : Int) - b - 1 := wrap_i64 (by omega) (by omega)
          refine tr_skip ?_
          refine hK9 _ ?_; try clear hK9 K9
          refine seq_k fun K10 hK10 => ?_
          refine tr_block ?_
          refine region_k T_ok (by decide) fun K hK => ?_
          simp [go_sem, hIb, hxb, hx'b, hi0b, h'b, insC]
          refine hK _ ?_; clear hK K
          refine region_k T_ok (by decide) fun K hK => ?_
          simp [go_sem, hwl1, hwl2]
          refine call_pf (check_pf t x _) ?_
          simp [go_sem]
          refine hK _ ?_; clear hK K
          refine region_k T_ok (by decide) fun K hK => ?_
          simp [go_sem]
          refine hK _ ?_; clear hK K
          refine cond_k rfl (fun h => ?_) (fun h => ?_)
          · simp at h
            have hgx : fe (fun i x => insErr t.locs.length ((l.length : Int) - i - 1) x) 0 l = insErr t.locs.length ((l.length : Int) - b - 1) x := by rw [hfb, fe_bad hxb h]
            have hg : thrErr t i l = insErr t.locs.length ((l.length : Int) - b - 1) x := hgx
            have ht : fe (thrErr t) 0 t.ths = insErr t.locs.length ((l.length : Int) - b - 1) x := by rw [hf, fe_bad hx (by rw [hg]; exact h), hg]
            refine region_k T_ok (by decide) fun K hK => ?_
            simp [go_sem]
            refine hK _ ?_; clear hK K
            refine tr_ret ⟨.inr rfl, ?_⟩
            simp [go_sem, chkErr, hz, hl, ht, h]
          · simp at h
            have hgb := h
            refine tr_skip ?_
            refine hK10 _ ?_; try clear hK10 K10
            refine region_e T_ok (by decide) fun K hK => ?_
            simp [go_sem, hwb]
            refine hK _ ?_; clear hK K
            refine ⟨(b + 1, c + 1), ?_, ?_, ?_⟩
            · exact ⟨by dsimp only; omega, by dsimp only; rw [hfb, fe_good hxb hgb]⟩
            · dsimp only; omega
            · refine Weaker.fz 1 0 ?_ ?_ ?_
              · simp [go_sem]
              · first | (simp; done) | (simp; omega)
              simp [go_sem]
        · simp at h
          obtain rfl : b = l.length := by omega
          rw [fe_end] at hfb
          have hg : thrErr t i l = 0 := hfb
          refine tr_exit ?_
          refine hK8 _ ?_; try clear hK8 K8
          refine region_e T_ok (by decide) fun K hK => ?_
          simp [go_sem, hw]
          refine hK _ ?_; clear hK K
          refine ⟨(i + 1, c), ?_, ?_, ?_⟩
          · exact ⟨by dsimp only; omega, by dsimp only; rw [hf, fe_good hx hg]⟩
          · dsimp only; omega
          · refine Weaker.fz 1 0 ?_ ?_ ?_
            · simp [go_sem]
            · first | (simp; done) | (simp; omega)
            simp [go_sem]
      · simp at h
        obtain rfl : i = t.ths.length := by omega
        rw [fe_end] at hf
        have ht := hf
        clear hf
        refine tr_exit ?_
        refine hK6 _ ?_; try clear hK6 K6
        refine seq_k fun K11 hK11 => ?_
        refine region_k T_ok (by decide) fun K hK => ?_
        simp [go_sem, Tst.cs]
        refine hK _ ?_; clear hK K
        refine tr_block ?_
        refine loop_p (α := Nat × Nat) (fun a => ⟨111, [(0, .rp t.cs 0), (82, .ro 3 (atms t.asks)), (83, iV (t.asks.length : Nat)), (84, iV (a.1 : Nat))], [], a.2⟩) (fun a => a.1 ≤ t.asks.length ∧ fe (askErr2 t) 0 t.asks = fe (askErr2 t) a.1 (t.asks.drop a.1)) (fun a => t.asks.length - a.1) (0, j) ?_ ?_ ?_
        · exact ⟨by dsimp only; omega, rfl⟩
        · refine Weaker.fz 1 0 ?_ ?_ ?_
          · simp [go_sem, Tst.cs]
          · first | (simp; done) | (simp; omega)
          · simp [go_sem]
        rintro ⟨i, j⟩ ⟨hi, hf⟩
        dsimp only at hi hf ⊢
        refine region_k T_ok (by decide) fun K hK => ?_
        simp [go_sem]
        refine hK _ ?_; clear hK K
        refine seq_k fun K12 hK12 => ?_
        refine cond_k rfl (fun h => ?_) (fun h => ?_)
        · simp at h
          have hI := h
          clear h
          have h' : i < (t.asks).length := by omega
          obtain ⟨a, hx, hx'⟩ := getAt h'
          have hi0 : (0 : Int) ≤ (i : Nat) := by omega
          have hw : IntKind.i64.wrap ((i : Nat) + 1) = (i : Nat) + 1 := wrap_i64 (by omega) (by omega)
          refine tr_skip ?_
          refine hK12 _ ?_; try clear hK12 K12
          refine seq_k fun K13 hK13 => ?_
          refine tr_block ?_
          refine region_k T_ok (by decide) fun K hK => ?_
          simp [go_sem, hI, hx, hx', hi0, h', atmC, Atm.cs]
          refine hK _ ?_; clear hK K
          refine seq_k fun K14 hK14 => ?_
          refine region_k T_ok (by decide) fun K hK => ?_
          simp [go_sem, atmC, Atm.cs]
          refine call_pf (checkAsk_pf t a) ?_
          simp [go_sem]
          refine hK _ ?_; clear hK K
          refine region_k T_ok (by decide) fun K hK => ?_
          simp [go_sem]
          refine hK _ ?_; clear hK K
          refine cond_k rfl (fun h => ?_) (fun h => ?_)
          · simp at h
            have hg : askErr2 t i a = askErr t a := by simp [askErr2, h]
            have ha : fe (askErr2 t) 0 t.asks = askErr t a := by rw [hf, fe_bad hx (by rw [hg]; exact h), hg]
            refine region_k T_ok (by decide) fun K hK => ?_
            simp [go_sem]
            refine hK _ ?_; clear hK K
            refine tr_ret ⟨.inr rfl, ?_⟩
            simp [go_sem, chkErr, hz, hl, ht, ha, h]
          · simp at h
            have hak := h
            refine tr_skip ?_
            refine hK14 _ ?_; try clear hK14 K14
            refine draw_to T_ok (by kernel_rfl) 12 [[], [0], [0, 1], [0, 1, 2], [0, 1, 2, 3], [0, 1, 2, 3, 4], [0, 1, 2, 3, 4, 5], [0, 1, 2], [0, 1, 2, 7], [0, 1, 2, 3, 4, 5, 6, 7, 8], [0, 1, 2, 3, 4, 5, 6, 7, 8, 9], [0, 1, 2], [0, 1, 2, 3, 4, 5, 6, 7, 8, 9, 10, 11], [0, 1, 2, 3, 4, 5, 6, 7, 8, 9, 10, 11, 12], [0, 1, 2, 3, 4, 5, 6, 7, 8, 9, 10, 11, 12, 13]] [] (by decide) (by decide) (by decide) ⟨111, [(0, .rp t.cs 0), (82, .ro 3 (atms t.asks)), (83, iV (t.asks.length : Nat)), (84, iV (i : Nat)), (109, bV (prevAsk t i a))], [], j + 13⟩ ?_ ?_
            · first | dsimp only [List.take, List.drop] | dsimp [List.take, List.drop]
              by_cases c1 : 0 < i
              · obtain ⟨p, hp, hp'⟩ := getAt (show i - 1 < t.asks.length by omega)
                have hw1 : IntKind.i64.wrap ((i : Int) - 1) = ((i - 1 : Nat) : Int) := by rw [wrap_i64 (by omega) (by omega)]; omega
                have hb1 : ((i - 1 : Nat) : Int) < (t.asks.length : Nat) := by omega
                have hb0 : (0 : Int) ≤ ((i - 1 : Nat) : Int) := by omega
                have hb2 : i - 1 < t.asks.length := by omega
                have cI : (0 : Int) < (i : Nat) := by omega
                simp [go_sem, c1, Tst.cs, atmC, Atm.cs, hp, hp', hw1, hb1, hb0, hb2, cI]
                refine call_pf (before_pf p a) ?_
                simp [go_sem, c1, Tst.cs, atmC, Atm.cs, hp, hp', hw1, hb1, hb0, hb2, cI]
                refine Weaker.fz 1 0 ?_ ?_ ?_
                · simp [go_sem, c1, prevAsk, Tst.cs, hp, hp', hw1, hb1, hb0, hb2, cI]
                · first | (simp; done) | (simp; omega)
                · simp [go_sem, c1, prevAsk, Tst.cs, hp, hp', hw1, hb1, hb0, hb2, cI]
              · have cI : ¬ (0 : Int) < (i : Nat) := by omega
                simp [go_sem, c1, Tst.cs, atmC, Atm.cs, cI]
                refine Weaker.fz 1 0 ?_ ?_ ?_
                · simp [go_sem, c1, prevAsk, Tst.cs, cI]
                · first | (simp; done) | (simp; omega)
                · simp [go_sem, c1, prevAsk, Tst.cs, cI]
            · skip
              refine cond_k rfl (fun h => ?_) (fun h => ?_)
              · have hg : askErr2 t i a = 16 := by simp [askErr2, hak, h]
                have ha : fe (askErr2 t) 0 t.asks = 16 := by rw [hf, fe_bad hx (by rw [hg]; decide), hg]
                refine region_k T_ok (by decide) fun K hK => ?_
                simp [go_sem]
                refine hK _ ?_; clear hK K
                refine tr_ret ⟨.inr rfl, ?_⟩
                simp [go_sem, chkErr, hz, hl, ht, ha]
              · have hg : askErr2 t i a = 0 := by simp [askErr2, hak, h]
                refine tr_skip ?_
                refine hK13 _ ?_; try clear hK13 K13
                refine region_e T_ok (by decide) fun K hK => ?_
                simp [go_sem, hw]
                refine hK _ ?_; clear hK K
                refine ⟨(i + 1, j + 13), ?_, ?_, ?_⟩
                · exact ⟨by dsimp only; omega, by dsimp only; rw [hf, fe_good hx hg]⟩
                · dsimp only; omega
                · refine Weaker.fz 1 0 ?_ ?_ ?_
                  · simp [go_sem]
                  · first | (simp; done) | (simp; omega)
                  simp [go_sem]
        · simp at h
          obtain rfl : i = t.asks.length := by omega
          rw [fe_end] at hf
          have ha := hf
          clear hf
          refine tr_exit ?_
          refine hK11 _ ?_; try clear hK11 K11
          refine region_k T_ok (by decide) fun K hK => ?_
          simp [go_sem]
          refine hK _ ?_; clear hK K
          refine tr_ret ⟨.inr rfl, ?_⟩
          simp [go_sem, chkErr, hz, hl, ht, ha]

end Go.Proofs.Ytflooghnoljpcaa
/- Law 14: the walk of Small. -/
namespace Go.Proofs.Ytflooghnoljpcaa
open Go Go.Sl Go.Proofs.Try

set_option maxRecDepth 100000 in
set_option maxHeartbeats 8000000 in
theorem small_pf (t : Tst) (hn : ∀ l ∈ t.locs, l.name.size ≤ 1000000) (n : Int) : Pf Try.prog 64 [.agg t.cs, iV n] (iV (smallT t n)) := by
  refine Pf.of_fn (.cons (.agg (nl_tst t)) (.cons (.val _) .nil)) (.val _) ?_
  refine fn_in T_ok func64 rfl rfl ntmps64 rfl (by simp) ?_
  refine region_k T_ok (by decide) fun K hK => ?_
  simp [go_sem, Tst.cs]
  refine hK _ ?_; clear hK K
  refine seq_k fun K1 hK1 => ?_
  refine Tr.weaken (Weaker.fz (H' := []) (t' := [(1, iV n), (2, .rp t.cs 0)]) 1 0 ?_ ?_ ?_) ?_
  · simp [go_sem, Tst.cs]
  · simp
  · simp
  refine region_k T_ok (by decide) fun K hK => ?_
  simp [go_sem]
  refine call_pf awake14 ?_
  simp [go_sem]
  refine call_pf (Check_pf t hn) ?_
  by_cases hc : chkErr t = 0
  · have hcb : (chkErr t == 0) = true := by simpa using hc
    simp [go_sem, hc]
    refine hK _ ?_; clear hK K
    refine cond_k rfl (fun h => ?_) (fun h => ?_)
    · simp at h
    · clear h
      have hs := sizeErr_zero (chkErr_zero.1 hc).1
      have hu := memUp_le hs.2.2.2.2.1
      refine tr_skip ?_
      refine hK1 _ ?_; try clear hK1 K1
      refine region_k T_ok (by decide) fun K hK => ?_
      simp [go_sem]
      refine hK _ ?_; clear hK K
      refine seq_k fun K2 hK2 => ?_
      refine region_k T_ok (by decide) fun K hK => ?_
      simp [go_sem, Tst.cs]
      refine hK _ ?_; clear hK K
      refine tr_block ?_
      refine loop_p (α := Nat × Nat) (fun a => ⟨38, [(1, iV n), (2, .rp t.cs 0), (17, .ro 1 (thrs t.ths)), (18, iV (t.ths.length : Nat)), (19, iV (a.1 : Nat)), (5, iV (memUp t.ths a.1 : Nat))], [], a.2⟩) (fun a => a.1 ≤ t.ths.length) (fun a => t.ths.length - a.1) (0, 1) ?_ ?_ ?_
      · exact Nat.zero_le _
      · refine Weaker.fz 1 0 ?_ ?_ ?_
        · simp [go_sem, memUp, Tst.cs]
        · first | (simp; done) | (simp; omega)
        · simp [go_sem, Tst.cs]
      rintro ⟨i, jn⟩ hi
      dsimp only at hi ⊢
      refine region_k T_ok (by decide) fun K hK => ?_
      simp [go_sem]
      refine hK _ ?_; clear hK K
      refine seq_k fun K3 hK3 => ?_
      refine cond_k rfl (fun h => ?_) (fun h => ?_)
      · simp at h
        have hin : i < t.ths.length := by omega
        clear h
        have hinI : (i : Int) < (t.ths.length : Nat) := by omega
        obtain ⟨l, hx, hx'⟩ := getAt hin
        have hi0 : (0 : Int) ≤ (i : Nat) := by omega
        have hl8 := hs.2.2.2.2.1 l (List.mem_of_getElem? hx)
        have hui := hu i hi
        have ht4 := hs.2.1
        have hgl : t.ths.getD i [] = l := by rw [List.getD, hx]; rfl
        have hw : IntKind.i64.wrap ((i : Nat) + 1) = (i : Nat) + 1 := wrap_i64 (by omega) (by omega)
        refine tr_skip ?_
        refine hK3 _ ?_; try clear hK3 K3
        refine seq_k fun K4 hK4 => ?_
        refine tr_block ?_
        refine region_k T_ok (by decide) fun K hK => ?_
        simp [go_sem, hin, hinI, hx, hx', hi0]
        refine hK _ ?_; clear hK K
        refine region_k T_ok (by decide) fun K hK => ?_
        simp [go_sem]
        refine hK _ ?_; clear hK K
        refine tr_block ?_
        refine loop_p (α := Nat × Nat) (fun b => ⟨38, [(1, iV n), (2, .rp t.cs 0), (17, .ro 1 (thrs t.ths)), (18, iV (t.ths.length : Nat)), (19, iV (i : Nat)), (23, .ro 13 (inss l)), (24, iV (l.length : Nat)), (25, iV (b.1 : Nat)), (5, iV ((memUp t.ths i + memC l b.1 : Nat)))], [], b.2⟩) (fun b => b.1 ≤ l.length) (fun b => l.length - b.1) (0, jn) ?_ ?_ ?_
        · exact Nat.zero_le _
        · refine Weaker.fz 1 0 ?_ ?_ ?_
          · simp [go_sem, memC]
          · first | (simp; done) | (simp; omega)
          · simp [go_sem, memC]
        rintro ⟨b, j⟩ hib
        dsimp only at hib ⊢
        refine region_k T_ok (by decide) fun K hK => ?_
        simp [go_sem]
        refine hK _ ?_; clear hK K
        refine seq_k fun K5 hK5 => ?_
        refine cond_k rfl (fun h => ?_) (fun h => ?_)
        · simp at h
          have hbn : b < l.length := by omega
          clear h
          have hbI : (b : Int) < (l.length : Nat) := by omega
          obtain ⟨x, hg, hg'⟩ := getAt hbn
          have hb0 : (0 : Int) ≤ (b : Nat) := by omega
          have hcl := memC_le l b
          have hw2 : IntKind.i64.wrap ((b : Nat) + 1) = (b : Nat) + 1 := wrap_i64 (by omega) (by omega)
          have hw3 : IntKind.i64.wrap ((memUp t.ths i : Int) + (memC l b : Int) + 1) = (memUp t.ths i : Int) + ((memC l b : Int) + 1) := by rw [wrap_i64 (by have := ht4; omega) (by have := ht4; omega)]; omega
          refine tr_skip ?_
          refine hK5 _ ?_; try clear hK5 K5
          refine seq_k fun K6 hK6 => ?_
          refine tr_block ?_
          refine region_k T_ok (by decide) fun K hK => ?_
          simp [go_sem, hbn, hbI, hg, hg', hb0, insC]
          refine hK _ ?_; clear hK K
          refine region_k T_ok (by decide) fun K hK => ?_
          simp [go_sem, insC]
          refine call_pf (ismem_pf x) ?_
          simp [go_sem]
          refine hK _ ?_; clear hK K
          refine cond_k rfl (fun h => ?_) (fun h => ?_)
          · have hm : memB x.op = true := h
            have hst : memC l (b + 1) = memC l b + 1 := by rw [memC_step hg, hm]; rfl
            refine region_e T_ok (by decide) fun K hK => ?_
            simp [go_sem, hw3]
            refine hK _ ?_; clear hK K
            refine hK6 _ ?_; try clear hK6 K6
            refine region_e T_ok (by decide) fun K hK => ?_
            simp [go_sem, hw2]
            refine hK _ ?_; clear hK K
            refine ⟨(b + 1, j + 1), ?_, ?_, ?_⟩
            · dsimp only; omega
            · dsimp only; omega
            · refine Weaker.fz 1 0 ?_ ?_ ?_
              · simp [go_sem, hst]
              · first | (simp; done) | (simp; omega)
              simp [go_sem, memC]
          · have hm : memB x.op = false := h
            have hst : memC l (b + 1) = memC l b := by rw [memC_step hg, hm]; rfl
            refine tr_skip ?_
            refine hK6 _ ?_; try clear hK6 K6
            refine region_e T_ok (by decide) fun K hK => ?_
            simp [go_sem, hw2]
            refine hK _ ?_; clear hK K
            refine ⟨(b + 1, j + 1), ?_, ?_, ?_⟩
            · dsimp only; omega
            · dsimp only; omega
            · refine Weaker.fz 1 0 ?_ ?_ ?_
              · simp [go_sem, hst]
              · first | (simp; done) | (simp; omega)
              simp [go_sem, memC]
        · simp at h
          obtain rfl : b = l.length := by omega
          clear h
          refine tr_exit ?_
          refine hK4 _ ?_; try clear hK4 K4
          refine region_e T_ok (by decide) fun K hK => ?_
          simp [go_sem, hw]
          refine hK _ ?_; clear hK K
          refine ⟨(i + 1, j), ?_, ?_, ?_⟩
          · dsimp only; omega
          · dsimp only; omega
          · refine Weaker.fz 1 0 ?_ ?_ ?_
            · simp [go_sem, memUp, hx]
            · first | (simp; done) | (simp; omega)
            simp [go_sem, memUp]
      · simp at h
        obtain rfl : i = t.ths.length := by omega
        clear h
        refine tr_exit ?_
        refine hK2 _ ?_; try clear hK2 K2
        refine seq_k fun K7 hK7 => ?_
        refine region_k T_ok (by decide) fun K hK => ?_
        simp [go_sem]
        refine hK _ ?_; clear hK K
        refine cond_k rfl (fun h => ?_) (fun h => ?_)
        · have hgt : n < (memTot t : Int) := by simpa [memTot] using h
          refine region_k T_ok (by decide) fun K hK => ?_
          simp [go_sem]
          refine hK _ ?_; clear hK K
          refine tr_ret ⟨.inr rfl, ?_⟩
          simp [go_sem, smallT, hc, hgt]
        · have hgt : ¬ n < (memTot t : Int) := by simpa [memTot] using h
          refine tr_skip ?_
          refine hK7 _ ?_; try clear hK7 K7
          refine region_k T_ok (by decide) fun K hK => ?_
          simp [go_sem]
          refine hK _ ?_; clear hK K
          refine tr_ret ⟨.inr rfl, ?_⟩
          simp [go_sem, smallT, hc, hgt]
  · simp [go_sem, hc]
    refine hK _ ?_; clear hK K
    refine cond_k rfl (fun h => ?_) (fun h => ?_)
    · clear h
      refine region_k T_ok (by decide) fun K hK => ?_
      simp [go_sem]
      refine hK _ ?_; clear hK K
      refine tr_ret ⟨.inr rfl, ?_⟩
      simp [go_sem, smallT, hc]
    · simp [hc] at h

end Go.Proofs.Ytflooghnoljpcaa
/- Litmus tests: the walk of Few. -/
namespace Go.Proofs.Ytflooghnoljpcaa
open Go Go.Sl Go.Proofs.Try

set_option maxRecDepth 100000 in
set_option maxHeartbeats 16000000 in
theorem few_pf (t : Tst) (hs : ∀ l ∈ t.locs, l.name.size ≤ 9223372036854775807) : Pf Try.prog 47 [.agg t.cs] (.agg (few t).cs) := by
  refine Pf.of_fz 2 (.cons (.agg (nl_tst t)) .nil) (.agg (nl_tst _)) ?_
  refine fn_in T_ok func47 rfl rfl ntmps47 rfl (by simp) ?_
  refine region_k T_ok (by decide) fun K hK => ?_
  simp [go_sem, Tst.cs]
  refine hK _ ?_; clear hK K
  refine region_k T_ok (by decide) fun K hK => ?_
  simp [go_sem]
  refine hK _ ?_; clear hK K
  refine seq_to ⟨78, [(1, .ptr 0 0 0), (2, .ptr 1 0 0), (3, .ptr 2 0 0)], [(0, .rows 3 [.agg [.ro 2 (inis t.locs), .ro 1 (thrs t.ths), .ro 3 (atms t.asks)]]), (1, .rows 3 [.agg [.val (.slice none 0 0), .val (.slice none 0 0), .val (.slice none 0 0)]]), (2, .rows 3 [.agg [.ro 2 (inis (locP t.locs 12)), .sl 4 0 0, .sl 3 0 0]]), (4, .rows 1 []), (3, .rows 3 [])], 300⟩ ?_ ?_
  · skip
    refine region_k T_ok (by decide) fun K hK => ?_
    simp [go_sem]
    refine hK _ ?_; clear hK K
    refine tr_block ?_
    refine Tr.weaken (Weaker.ghostH (sz := 3) (es := [.agg [.val (.slice none 0 0), .val (.slice none 0 0), .val (.slice none 0 0)]]) 2 3 [.agg [.val (.slice none 0 0), .val (.slice none 0 0), .sl 3 0 0]] (by simp [Sl.look]) (by simp) (by simp) (by simp [V.fits, V.cells, V.one]) (by simp only [List.flatMap_cons, List.flatMap_nil, V.cells, List.append_nil]; exact .same (.same (.to .nil)))) ?_
    simp only [Sl.put, if_true, if_false, Nat.reduceEqDiff, reduceIte]
    refine Tr.weaken (Weaker.ghostH (sz := 3) (es := [.agg [.val (.slice none 0 0), .val (.slice none 0 0), .sl 3 0 0]]) 2 1 [.agg [.val (.slice none 0 0), .sl 4 0 0, .sl 3 0 0]] (by simp [Sl.look]) (by simp) (by simp) (by simp [V.fits, V.cells, V.one]) (by simp only [List.flatMap_cons, List.flatMap_nil, V.cells, List.append_nil]; exact .same (.to (.same .nil)))) ?_
    simp only [Sl.put, if_true, if_false, Nat.reduceEqDiff, reduceIte]
    refine Tr.weaken (Weaker.ghostH (sz := 3) (es := [.agg [.val (.slice none 0 0), .sl 4 0 0, .sl 3 0 0]]) 2 2 [.agg [.sl 5 0 0, .sl 4 0 0, .sl 3 0 0]] (by simp [Sl.look]) (by simp) (by simp) (by simp [V.fits, V.cells, V.one]) (by simp only [List.flatMap_cons, List.flatMap_nil, V.cells, List.append_nil]; exact .to (.same (.same .nil)))) ?_
    simp only [Sl.put, if_true, if_false, Nat.reduceEqDiff, reduceIte]
    refine loop_p (α := Nat × Nat × Nat) (fun a => ⟨78, [(1, .ptr 0 0 0), (2, .ptr 1 0 0), (3, .ptr 2 0 0), (4, iV (a.1 : Nat))], [(0, .rows 3 [.agg [.ro 2 (inis t.locs), .ro 1 (thrs t.ths), .ro 3 (atms t.asks)]]), (1, .rows 3 [.agg [.val (.slice none 0 0), .val (.slice none 0 0), .val (.slice none 0 0)]]), (2, .rows 3 [.agg [.sl a.2.2 0 (locP t.locs a.1).length, .sl 4 0 0, .sl 3 0 0]]), (a.2.2, .rows 2 (inis (locP t.locs a.1))), (4, .rows 1 []), (3, .rows 3 [])], a.2.1 + 6⟩) (fun a => a.1 ≤ t.locs.length ∧ a.1 ≤ 12 ∧ 4 < a.2.2 ∧ a.2.2 < a.2.1 + 6 ∧ a.2.1 = 18 * a.1) (fun a => 12 - a.1) (0, 0, 5) ?_ ?_ ?_
    · dsimp only; omega
    · refine Weaker.fz 1 0 ?_ ?_ ?_
      · simp [go_sem, locP_zero]
      · first | (simp; done) | (simp; omega)
      · simp [go_sem, Tst.cs, locP_zero, inis_nil]
    rintro ⟨i, j, m⟩ ⟨hi, hi2, hm1, hm2, hj⟩
    dsimp only at hi hi2 hm1 hm2 hj ⊢
    refine seq_k fun K1 hK1 => ?_
    refine region_k T_ok (by decide) fun K hK => ?_
    have hcase : (i < t.locs.length ∧ i < 12) ∨ (i < t.locs.length ∧ i = 12) ∨ i = t.locs.length := by omega
    rcases hcase with ⟨h1, h2⟩ | ⟨h1, rfl⟩ | h1
    · have h1I : (i : Int) < (t.locs.length : Nat) := by omega
      have h2I : (i : Int) < 12 := by omega
      simp [go_sem, h1, h2, h1I, h2I]
      refine hK _ ?_; clear hK K
      refine cond_k rfl (fun h => ?_) (fun h => ?_)
      · clear h
        obtain ⟨x, hx, hx'⟩ := getAt h1
        have hi0 : (0 : Int) ≤ (i : Nat) := by omega
        have hw : IntKind.i64.wrap ((i : Nat) + 1) = (i : Nat) + 1 := wrap_i64 (by omega) (by omega)
        have hsx := hs x (List.mem_of_getElem? hx)
        have hpl := locP_len t.locs i
        have n0 : ¬ m = 0 := by omega
        have q0 : ¬ 0 = m := by omega
        have n1 : ¬ m = 1 := by omega
        have q1 : ¬ 1 = m := by omega
        have n2 : ¬ m = 2 := by omega
        have q2 : ¬ 2 = m := by omega
        have n3 : ¬ m = 3 := by omega
        have q3 : ¬ 3 = m := by omega
        have n4 : ¬ m = 4 := by omega
        have q4 : ¬ 4 = m := by omega
        have n5 : ¬ m = j + 22 := by omega
        have q5 : ¬ j + 22 = m := by omega
        have n6 : ¬ m = j + 23 := by omega
        have q6 : ¬ j + 23 = m := by omega
        refine tr_skip ?_
        refine hK1 _ ?_; try clear hK1 K1
        refine seq_k fun K2 hK2 => ?_
        refine tr_block ?_
        refine draw_e T_ok (by kernel_rfl) 17 [[], [0], [], [2], [], [2, 3, 4], [2, 3, 4, 5], [2, 3, 4, 5, 6], [2, 3, 4, 5, 6, 7], [], [9], [], [9, 10, 11], [9, 10, 11, 12], [9, 10, 11, 12, 13], [2, 3, 4, 5, 6, 7, 8, 9, 10, 11, 12, 13, 14], [2, 3, 4, 5, 6, 7, 8, 9, 10, 11, 12, 13, 14, 15], [0, 1, 2, 3, 4, 5, 6, 7, 8, 9, 10, 11, 12, 13, 14, 15, 16], [0, 1, 2, 3, 4, 5, 6, 7, 8, 9, 10, 11, 12, 13, 14, 15, 16, 17], [0, 1, 2, 3, 4, 5, 6, 7, 8, 9, 10, 11, 12, 13, 14, 15, 16, 17, 18]] [(0, 16), (1, 16)] (by decide) (by decide) (by decide) fun K hK => ?_
        first | dsimp only [List.take, List.drop] | dsimp [List.take, List.drop]
        simp [go_sem, hx, hx', hi0, h1, h1I, iniC, Ini.cs, n0, q0, n1, q1, n2, q2, n3, q3, n4, q4, n5, q5, n6, q6]
        refine callD_of (cut_pf x.name 20 hsx) ?_
        simp [go_sem, hx, hx', hi0, h1, h1I, iniC, Ini.cs, n0, q0, n1, q1, n2, q2, n3, q3, n4, q4, n5, q5, n6, q6]
        refine ⟨by omega, ?_⟩
        refine hK _ ?_; clear hK K
        refine hK2 _ ?_; try clear hK2 K2
        refine region_e T_ok (by decide) fun K hK => ?_
        simp [go_sem, hw]
        refine hK _ ?_; clear hK K
        refine ⟨(i + 1, j + 18, j + 23), ?_, ?_, ?_⟩
        · dsimp only; omega
        · dsimp only; omega
        · refine Weaker.fz 1 0 ?_ ?_ ?_
          · simp [go_sem, locP_step hx]
          · first | (simp; done) | (simp; omega)
          simp [go_sem, locP_step hx, inis_append, inis_one, iniC, Ini.cs, cutI, n0, q0, n1, q1, n2, q2, n3, q3, n4, q4, n5, q5, n6, q6]
      · simp at h
    · have h1I : (12 : Int) < (t.locs.length : Nat) := by omega
      simp [go_sem, h1, h1I]
      refine hK _ ?_; clear hK K
      refine cond_k rfl (fun h => ?_) (fun h => ?_)
      · simp at h
      · have hla : True := trivial
        have n0 : ¬ m = 0 := by omega
        have q0 : ¬ 0 = m := by omega
        have n1 : ¬ m = 1 := by omega
        have q1 : ¬ 1 = m := by omega
        have n2 : ¬ m = 2 := by omega
        have q2 : ¬ 2 = m := by omega
        have n3 : ¬ m = 3 := by omega
        have q3 : ¬ 3 = m := by omega
        have n4 : ¬ m = 4 := by omega
        have q4 : ¬ 4 = m := by omega
        have n5 : ¬ m = j + 22 := by omega
        have q5 : ¬ j + 22 = m := by omega
        have n6 : ¬ m = j + 23 := by omega
        have q6 : ¬ j + 23 = m := by omega
        refine tr_exit ?_
        refine Weaker.fzk 1 1 (by omega) ?_ ?_ ?_
        · simp [go_sem, hla, n0, q0, n1, q1, n2, q2, n3, q3, n4, q4, n5, q5, n6, q6]
        · first | (simp; done) | (simp; omega)
        · simp [go_sem, hla, n0, q0, n1, q1, n2, q2, n3, q3, n4, q4, n5, q5, n6, q6]
    · simp [go_sem, h1]
      refine hK _ ?_; clear hK K
      refine cond_k rfl (fun h => ?_) (fun h => ?_)
      · simp at h
      · have hla := locP_all (l := t.locs) (by omega)
        have n0 : ¬ m = 0 := by omega
        have q0 : ¬ 0 = m := by omega
        have n1 : ¬ m = 1 := by omega
        have q1 : ¬ 1 = m := by omega
        have n2 : ¬ m = 2 := by omega
        have q2 : ¬ 2 = m := by omega
        have n3 : ¬ m = 3 := by omega
        have q3 : ¬ 3 = m := by omega
        have n4 : ¬ m = 4 := by omega
        have q4 : ¬ 4 = m := by omega
        have n5 : ¬ m = j + 22 := by omega
        have q5 : ¬ j + 22 = m := by omega
        have n6 : ¬ m = j + 23 := by omega
        have q6 : ¬ j + 23 = m := by omega
        refine tr_exit ?_
        refine Weaker.fzk 1 1 (by omega) ?_ ?_ ?_
        · simp [go_sem, hla, n0, q0, n1, q1, n2, q2, n3, q3, n4, q4, n5, q5, n6, q6]
        · first | (simp; done) | (simp; omega)
        · simp [go_sem, hla, n0, q0, n1, q1, n2, q2, n3, q3, n4, q4, n5, q5, n6, q6]
  · skip
    refine seq_to ⟨78, [(1, .ptr 0 0 0), (2, .ptr 1 0 0), (3, .ptr 2 0 0)], [(0, .rows 3 [.agg [.ro 2 (inis t.locs), .ro 1 (thrs t.ths), .ro 3 (atms t.asks)]]), (1, .rows 3 [.agg [.val (.slice none 0 0), .val (.slice none 0 0), .val (.slice none 0 0)]]), (2, .rows 3 [.agg [.ro 2 (inis (locP t.locs 12)), .ro 1 (thrs (thP t.ths 6)), .sl 3 0 0]]), (3, .rows 3 [])], 400⟩ ?_ ?_
    · skip
      refine region_k T_ok (by decide) fun K hK => ?_
      simp [go_sem]
      refine hK _ ?_; clear hK K
      refine tr_block ?_
      refine loop_p (α := Nat × Nat × Nat) (fun a => ⟨78, [(1, .ptr 0 0 0), (2, .ptr 1 0 0), (3, .ptr 2 0 0), (5, iV (a.1 : Nat))], [(0, .rows 3 [.agg [.ro 2 (inis t.locs), .ro 1 (thrs t.ths), .ro 3 (atms t.asks)]]), (1, .rows 3 [.agg [.val (.slice none 0 0), .val (.slice none 0 0), .val (.slice none 0 0)]]), (2, .rows 3 [.agg [.ro 2 (inis (locP t.locs 12)), .sl a.2.2 0 (thP t.ths a.1).length, .sl 3 0 0]]), (a.2.2, .rows 1 (thrs (thP t.ths a.1))), (3, .rows 3 [])], a.2.1 + 300⟩) (fun a => a.1 ≤ t.ths.length ∧ a.1 ≤ 6 ∧ 3 < a.2.2 ∧ a.2.2 < a.2.1 + 300 ∧ a.2.1 = 11 * a.1) (fun a => 6 - a.1) (0, 0, 4) ?_ ?_ ?_
      · dsimp only; omega
      · refine Weaker.fz 1 1 ?_ ?_ ?_
        · simp [go_sem, thP_zero]
        · first | (simp; done) | (simp; omega)
        · simp [go_sem, thP_zero, thrs_nil]
      rintro ⟨i, j, m⟩ ⟨hi, hi2, hm1, hm2, hj⟩
      dsimp only at hi hi2 hm1 hm2 hj ⊢
      refine seq_k fun K3 hK3 => ?_
      refine region_k T_ok (by decide) fun K hK => ?_
      have hcase : (i < t.ths.length ∧ i < 6) ∨ (i < t.ths.length ∧ i = 6) ∨ i = t.ths.length := by omega
      rcases hcase with ⟨h1, h2⟩ | ⟨h1, rfl⟩ | h1
      · have h1I : (i : Int) < (t.ths.length : Nat) := by omega
        have h2I : (i : Int) < 6 := by omega
        simp [go_sem, h1, h2, h1I, h2I]
        refine hK _ ?_; clear hK K
        refine cond_k rfl (fun h => ?_) (fun h => ?_)
        · clear h
          obtain ⟨l, hx, hx'⟩ := getAt h1
          have hi0 : (0 : Int) ≤ (i : Nat) := by omega
          have hw : IntKind.i64.wrap ((i : Nat) + 1) = (i : Nat) + 1 := wrap_i64 (by omega) (by omega)
          have hpl := thP_len t.ths i
          have n0 : ¬ m = 0 := by omega
          have q0 : ¬ 0 = m := by omega
          have n1 : ¬ m = 1 := by omega
          have q1 : ¬ 1 = m := by omega
          have n2 : ¬ m = 2 := by omega
          have q2 : ¬ 2 = m := by omega
          have n3 : ¬ m = 3 := by omega
          have q3 : ¬ 3 = m := by omega
          have n4 : ¬ m = j + 302 := by omega
          have q4 : ¬ j + 302 = m := by omega
          have n5 : ¬ m = j + 308 := by omega
          have q5 : ¬ j + 308 = m := by omega
          have n6 : ¬ m = j + 309 := by omega
          have q6 : ¬ j + 309 = m := by omega
          have n7 : ¬ m = j + 310 := by omega
          have q7 : ¬ j + 310 = m := by omega
          refine tr_skip ?_
          refine hK3 _ ?_; try clear hK3 K3
          refine seq_k fun K4 hK4 => ?_
          refine tr_block ?_
          refine region_k T_ok (by decide) fun K hK => ?_
          simp [go_sem, hx, hx', hi0, h1, h1I]
          refine hK _ ?_; clear hK K
          refine draw_e T_ok (by kernel_rfl) 10 [[], [0], [], [], [], [4], [4, 5], [3, 4, 5, 6], [2, 3, 4, 5, 6, 7], [2, 3, 4, 5, 6, 7, 8], [0, 1, 2, 3, 4, 5, 6, 7, 8, 9], [0, 1, 2, 3, 4, 5, 6, 7, 8, 9, 10], [0, 1, 2, 3, 4, 5, 6, 7, 8, 9, 10, 11]] [(0, 2), (1, 2), (2, 3), (2, 4), (2, 5), (2, 6), (2, 7), (0, 8), (1, 8), (0, 9), (1, 9)] (by decide) (by decide) (by decide) fun K hK => ?_
          first | dsimp only [List.take, List.drop] | dsimp [List.take, List.drop]
          rcases Nat.lt_or_ge 12 l.length with hl | hl
          · have hlI : (12 : Int) < (l.length : Nat) := by omega
            have hl2 : (12 : Int) ≤ (l.length : Nat) := by omega
            have hl3 : 12 ≤ l.length := by omega
            have ht12 : True := trivial
            have hm12 : 12 ≤ min 12 l.length := by omega
            simp [go_sem, hl, hlI, hl2, hl3, n0, q0, n1, q1, n2, q2, n3, q3, n4, q4, n5, q5, n6, q6, n7, q7]
            refine ⟨by omega, ?_⟩
            refine hK _ ?_; clear hK K
            refine hK4 _ ?_; try clear hK4 K4
            refine region_e T_ok (by decide) fun K hK => ?_
            simp [go_sem, hw]
            refine hK _ ?_; clear hK K
            refine ⟨(i + 1, j + 11, j + 310), ?_, ?_, ?_⟩
            · dsimp only; omega
            · dsimp only; omega
            · refine Weaker.fz 1 1 ?_ ?_ ?_
              · simp [go_sem, thP_step hx]
              · first | (simp; done) | (simp; omega)
              simp [go_sem, thP_step hx, thrs_append, thrs_one, ht12, hm12, List.take_take, n0, q0, n1, q1, n2, q2, n3, q3, n4, q4, n5, q5, n6, q6, n7, q7]
          · have hlI : ¬ (12 : Int) < (l.length : Nat) := by omega
            have hl2 : (0 : Int) ≤ (l.length : Nat) := by omega
            have hm12 : True := trivial
            have ht12 : l.take 12 = l := List.take_of_length_le hl
            simp [go_sem, hl, hlI, hl2, n0, q0, n1, q1, n2, q2, n3, q3, n4, q4, n5, q5, n6, q6, n7, q7]
            refine ⟨by omega, ?_⟩
            refine ⟨by omega, ?_⟩
            refine hK _ ?_; clear hK K
            refine hK4 _ ?_; try clear hK4 K4
            refine region_e T_ok (by decide) fun K hK => ?_
            simp [go_sem, hw]
            refine hK _ ?_; clear hK K
            refine ⟨(i + 1, j + 11, j + 310), ?_, ?_, ?_⟩
            · dsimp only; omega
            · dsimp only; omega
            · refine Weaker.fz 1 1 ?_ ?_ ?_
              · simp [go_sem, thP_step hx]
              · first | (simp; done) | (simp; omega)
              simp [go_sem, thP_step hx, thrs_append, thrs_one, ht12, hm12, List.take_take, n0, q0, n1, q1, n2, q2, n3, q3, n4, q4, n5, q5, n6, q6, n7, q7]
        · simp at h
      · have h1I : (6 : Int) < (t.ths.length : Nat) := by omega
        simp [go_sem, h1, h1I]
        refine hK _ ?_; clear hK K
        refine cond_k rfl (fun h => ?_) (fun h => ?_)
        · simp at h
        · have hla : True := trivial
          have n0 : ¬ m = 0 := by omega
          have q0 : ¬ 0 = m := by omega
          have n1 : ¬ m = 1 := by omega
          have q1 : ¬ 1 = m := by omega
          have n2 : ¬ m = 2 := by omega
          have q2 : ¬ 2 = m := by omega
          have n3 : ¬ m = 3 := by omega
          have q3 : ¬ 3 = m := by omega
          have n4 : ¬ m = j + 302 := by omega
          have q4 : ¬ j + 302 = m := by omega
          have n5 : ¬ m = j + 308 := by omega
          have q5 : ¬ j + 308 = m := by omega
          have n6 : ¬ m = j + 309 := by omega
          have q6 : ¬ j + 309 = m := by omega
          have n7 : ¬ m = j + 310 := by omega
          have q7 : ¬ j + 310 = m := by omega
          refine tr_exit ?_
          refine Weaker.fzk 1 1 (by omega) ?_ ?_ ?_
          · simp [go_sem, hla, n0, q0, n1, q1, n2, q2, n3, q3, n4, q4, n5, q5, n6, q6, n7, q7]
          · first | (simp; done) | (simp; omega)
          · simp [go_sem, hla, n0, q0, n1, q1, n2, q2, n3, q3, n4, q4, n5, q5, n6, q6, n7, q7]
      · simp [go_sem, h1]
        refine hK _ ?_; clear hK K
        refine cond_k rfl (fun h => ?_) (fun h => ?_)
        · simp at h
        · have hla := thP_all (l := t.ths) (by omega)
          have n0 : ¬ m = 0 := by omega
          have q0 : ¬ 0 = m := by omega
          have n1 : ¬ m = 1 := by omega
          have q1 : ¬ 1 = m := by omega
          have n2 : ¬ m = 2 := by omega
          have q2 : ¬ 2 = m := by omega
          have n3 : ¬ m = 3 := by omega
          have q3 : ¬ 3 = m := by omega
          have n4 : ¬ m = j + 302 := by omega
          have q4 : ¬ j + 302 = m := by omega
          have n5 : ¬ m = j + 308 := by omega
          have q5 : ¬ j + 308 = m := by omega
          have n6 : ¬ m = j + 309 := by omega
          have q6 : ¬ j + 309 = m := by omega
          have n7 : ¬ m = j + 310 := by omega
          have q7 : ¬ j + 310 = m := by omega
          refine tr_exit ?_
          refine Weaker.fzk 1 1 (by omega) ?_ ?_ ?_
          · simp [go_sem, hla, n0, q0, n1, q1, n2, q2, n3, q3, n4, q4, n5, q5, n6, q6, n7, q7]
          · first | (simp; done) | (simp; omega)
          · simp [go_sem, hla, n0, q0, n1, q1, n2, q2, n3, q3, n4, q4, n5, q5, n6, q6, n7, q7]
    · skip
      refine draw_k T_ok (by kernel_rfl) 9 [[], [0], [], [2], [], [4], [4, 5], [4, 5, 6], [2, 3, 4, 5, 6, 7], [0, 1, 2, 3, 4, 5, 6, 7, 8], [0, 1, 2, 3, 4, 5, 6, 7, 8, 9], [0, 1, 2, 3, 4, 5, 6, 7, 8, 9, 10]] [] (by decide) (by decide) (by decide) fun K hK => ?_
      first | dsimp only [List.take, List.drop] | dsimp [List.take, List.drop]
      rcases Nat.lt_or_ge 50 t.asks.length with hl | hl
      · have hlI : (50 : Int) < (t.asks.length : Nat) := by omega
        have hl2 : (50 : Int) ≤ (t.asks.length : Nat) := by omega
        have hl3 : 50 ≤ t.asks.length := by omega
        have ht50 : True := trivial
        have hm50 : 50 ≤ min 50 t.asks.length := by omega
        simp [go_sem, hl, hlI, hl2, hl3]
        refine hK _ ?_; clear hK K
        refine region_k T_ok (by decide) fun K hK => ?_
        simp [go_sem]
        refine hK _ ?_; clear hK K
        refine tr_ret ⟨.inr rfl, ?_⟩
        simp [go_sem, few_cs, ht50, hm50, List.take_take]
      · have hlI : ¬ (50 : Int) < (t.asks.length : Nat) := by omega
        have hl2 : (0 : Int) ≤ (t.asks.length : Nat) := by omega
        have hm50 : True := trivial
        have ht50 : t.asks.take 50 = t.asks := List.take_of_length_le hl
        simp [go_sem, hl, hlI, hl2]
        refine ⟨by omega, ?_⟩
        refine hK _ ?_; clear hK K
        refine region_k T_ok (by decide) fun K hK => ?_
        simp [go_sem]
        refine hK _ ?_; clear hK K
        refine tr_ret ⟨.inr rfl, ?_⟩
        simp [go_sem, few_cs, ht50, hm50, List.take_take]

end Go.Proofs.Ytflooghnoljpcaa
/- The walk of TsoSome. -/
namespace Go.Proofs.Ytflooghnoljpcaa
open Go Go.Sl Go.Proofs.Try
theorem few_nm3 {t : Tst} : ∀ l ∈ (few t).locs, l.name.size ≤ 1000000 := fun l hl => by
  obtain ⟨l', _, rfl⟩ := List.mem_map.1 hl
  exact Nat.le_trans (cutS_le l'.name 20) (by decide)
theorem smallC (T : Tst) : smallT T 6 = 0 ∨ (smallT T 6 = 1 ∧ chkErr T = 0 ∧ memTot T ≤ 6 ∧ hasPairs T.ths = true) ∨ (smallT T 6 = 1 ∧ chkErr T = 0 ∧ memTot T ≤ 6 ∧ hasPairs T.ths = false) := by
  unfold smallT
  by_cases h : chkErr T = 0
  · by_cases h2 : (6 : Int) < (memTot T : Int)
    · simp [h, h2]
    · cases hasPairs T.ths
      · refine .inr (.inr ⟨by simp [h, h2], h, by omega, rfl⟩)
      · refine .inr (.inl ⟨by simp [h, h2], h, by omega, rfl⟩)
  · simp [h]
theorem setOf_pos {t : Tst} (ht : TTOk t) : 0 < (setOf (tsoEnds t)).length := by
  cases h : tsoEnds t with
  | nil => exact absurd h (tsoEnds_some ht)
  | cons x l => exact List.length_pos_of_mem (mem_setOf.2 (List.mem_cons_self : x ∈ x :: l))
theorem set41 {t : Tst} (ht : TTOk t) : ∀ q ∈ setOf (tsoEnds t), q.length = 41 := fun q hq =>
  (explT_ok ht _ _ _ (tsoM_ok ht) ⟨fun _ h => (by cases h), fun _ h => (by cases h)⟩).ends q (mem_setOf.1 hq)
theorem setLen {t : Tst} (ht : TTOk t) : (setOf (tsoEnds t)).length = (tsoEnds t).length := setOf_len (explT_nodup ht _ _ _ (tsoM_ok ht) List.nodup_nil)
theorem slotsV_len (t : Tst) : (sloV (slotsT t)).length = (slotsT t).length := List.length_map ..

set_option maxRecDepth 100000 in
set_option maxHeartbeats 16000000 in
theorem tsoSome_pf (t : Tst) (hs : ∀ l ∈ t.locs, l.name.size ≤ 9223372036854775807) (hwf : tstWf t) : Pf Try.prog 16 [.agg t.cs] (bV true) := by
  refine Pf.of_fn (.cons (.agg (nl_tst t)) .nil) (.val _) ?_
  have hnm : ∀ l ∈ (few t).locs, l.name.size ≤ 1000000 := few_nm3
  have hfew := few_pf t hs
  have hwT := few_wf hwf
  obtain ⟨T, hT⟩ : ∃ T, few t = T := ⟨_, rfl⟩
  rw [hT] at hnm hfew hwT
  have hcl : T.cs.length = 3 := rfl
  have hct : List.take 3 T.cs = T.cs := rfl
  refine fn_in T_ok func16 rfl rfl ntmps16 rfl (by simp) ?_
  refine region_k T_ok (by decide) fun K hK => ?_
  simp [go_sem, Tst.cs]
  refine hK _ ?_; clear hK K
  refine region_k T_ok (by decide) fun K hK => ?_
  simp [go_sem, Tst.cs]
  refine call_pf (hfew) ?_
  simp [go_sem, Tst.cs]
  refine hK _ ?_; clear hK K
  refine seq_k fun K1 hK1 => ?_
  refine Tr.weaken (Weaker.fz (H' := []) (t' := [(1, .rp T.cs 0)]) 1 0 ?_ ?_ ?_) ?_
  · simp [go_sem, Tst.cs]
  · simp
  · simp
  refine region_k T_ok (by decide) fun K hK => ?_
  simp [go_sem]
  refine call_pf (awake14) ?_
  simp [go_sem, hcl, hct]
  refine call_pf (small_pf T hnm 6) ?_
  simp [go_sem]
  rcases smallC T with hz | ⟨hz, hc, hm, hp⟩ | ⟨hz, hc, hm, hp⟩
  · simp [go_sem, hz]
    refine hK _ ?_; clear hK K
    refine cond_k rfl (fun h => ?_) (fun h => ?_)
    · clear h
      refine region_k T_ok (by decide) fun K hK => ?_
      simp [go_sem]
      refine call_pf (awake14) ?_
      simp [go_sem]
      refine hK _ ?_; clear hK K
      refine tr_ret ⟨.inr rfl, ?_⟩
      simp [go_sem]
    · simp at h
  · simp [go_sem, hz]
    refine call_pf (hasPairs_pf T (by have := (good_tt hc hwT).ths; omega) (thr_len (good_tt hc hwT))) ?_
    simp [go_sem, hp, hz]
    refine hK _ ?_; clear hK K
    refine cond_k rfl (fun h => ?_) (fun h => ?_)
    · clear h
      refine region_k T_ok (by decide) fun K hK => ?_
      simp [go_sem]
      refine call_pf (awake14) ?_
      simp [go_sem]
      refine hK _ ?_; clear hK K
      refine tr_ret ⟨.inr rfl, ?_⟩
      simp [go_sem]
    · simp at h
  · simp [go_sem, hz]
    refine call_pf (hasPairs_pf T (by have := (good_tt hc hwT).ths; omega) (thr_len (good_tt hc hwT))) ?_
    simp [go_sem, hp, hz]
    refine hK _ ?_; clear hK K
    refine cond_k rfl (fun h => ?_) (fun h => ?_)
    · simp at h
    · clear h
      refine tr_skip ?_
      refine hK1 _ ?_; try clear hK1 K1
      have hTT := good_tt hc hwT
      have hfe := ends_few hTT hm
      refine region_k T_ok (by decide) fun K hK => ?_
      simp [go_sem]
      refine call_pf (tso_pf T hTT hp hfe) ?_
      simp [go_sem]
      refine hK _ ?_; clear hK K
      have hpos := setOf_pos hTT
      have hposI : (0 : Int) < ((setOf (tsoEnds T)).length : Nat) := by omega
      have hgd := tso_good hTT
      refine region_k T_ok (by decide) fun K hK => ?_
      simp [go_sem]
      refine call_pf (awake14) ?_
      simp [go_sem, hpos, hposI]
      refine call_pf (slots_pf T (by have := hTT.ths; omega) (thr_len hTT) (setB_rd hTT) (by have := hTT.locs; omega)) ?_
      simp [go_sem, slotsV_len, hpos, hposI]
      refine call_pf (good_pf _ _ (set41 hTT) (by rw [setLen hTT]; exact hfe)) ?_
      simp [go_sem, hgd, hpos, hposI]
      refine hK _ ?_; clear hK K
      refine tr_ret ⟨.inr rfl, ?_⟩
      simp [go_sem]

end Go.Proofs.Ytflooghnoljpcaa
/- The walk of TsoAlone. -/
namespace Go.Proofs.Ytflooghnoljpcaa
open Go Go.Sl Go.Proofs.Try
def aloneT (l : List Ins) : Tst := { locs := bufI, ths := [l.take 8], asks := [] }
theorem smallCn (T : Tst) (n : Int) : smallT T n = 0 ∨ (smallT T n = 1 ∧ chkErr T = 0 ∧ (memTot T : Int) ≤ n ∧ hasPairs T.ths = true) ∨ (smallT T n = 1 ∧ chkErr T = 0 ∧ (memTot T : Int) ≤ n ∧ hasPairs T.ths = false) := by
  unfold smallT
  by_cases h : chkErr T = 0
  · by_cases h2 : n < (memTot T : Int)
    · simp [h, h2]
    · cases hasPairs T.ths
      · refine .inr (.inr ⟨by simp [h, h2], h, by omega, rfl⟩)
      · refine .inr (.inl ⟨by simp [h, h2], h, by omega, rfl⟩)
  · simp [h]
theorem ends_one_few {t : Tst} (ht : TTOk t) (h1 : t.ths.length = 1) : (tsoEnds t).length ≤ 400000000000 := by rw [tsoEnds_one ht h1]; decide
theorem alone_nm {l : List Ins} : ∀ x ∈ (aloneT l).locs, x.name.size ≤ 1000000 := fun x h => by
  simp only [aloneT, bufI, List.mem_cons, List.not_mem_nil, or_false] at h
  rcases h with rfl | rfl <;> decide
theorem alone_wf {l : List Ins} (h : ∀ x ∈ l, insWf x) : tstWf (aloneT l) := fun m hm x hx => by
  simp only [aloneT, List.mem_singleton] at hm
  subst hm
  exact h x (List.mem_of_mem_take hx)

set_option maxRecDepth 100000 in
set_option maxHeartbeats 16000000 in
theorem tsoAlone_pf (l : List Ins) (hl : l.length ≤ maxLen) (hwf : ∀ x ∈ l, insWf x) : Pf Try.prog 13 [.ro 13 (inss l)] (bV true) := by
  refine Pf.of_fn (.cons (.ro (fun v hv => by obtain ⟨x, _, rfl⟩ := List.mem_map.1 hv; exact nl_ins x)) .nil) (.val _) ?_
  have hnm := alone_nm (l := l)
  have hwT := alone_wf hwf
  obtain ⟨T, hT⟩ : ∃ T, aloneT l = T := ⟨_, rfl⟩
  rw [hT] at hnm hwT
  have h1T : T.ths.length = 1 := by rw [← hT]; rfl
  have hcl : T.cs.length = 3 := rfl
  have hct : List.take 3 T.cs = T.cs := rfl
  refine fn_in T_ok func13 rfl rfl ntmps13 rfl (by simp) ?_
  refine region_k T_ok (by decide) fun K hK => ?_
  simp [go_sem]
  refine hK _ ?_; clear hK K
  refine region_k T_ok (by decide) fun K hK => ?_
  simp [go_sem]
  refine ⟨by split <;> omega, by split <;> omega, ?_⟩
  have e8 : List.take (if (8 : Int) < (l.length : Int) then (8 : Int) else (l.length : Int)).toNat l = List.take 8 l := by
    split
    · rfl
    · rw [List.take_of_length_le (by omega), List.take_of_length_le (by omega)]
  rw [e8]
  refine hK _ ?_; clear hK K
  refine seq_k fun K1 hK1 => ?_
  refine Tr.weaken (Weaker.ghostH (sz := 3) (es := [.agg [.sl 0 0 2, .sl 1 0 1, .val (.slice none 0 0)]]) 2 3 [.agg [.sl 0 0 2, .sl 1 0 1, .sl 3 0 0]] (by simp [Sl.look]) (by simp) (by simp) (by simp [V.fits, V.cells, V.one]) (by simp only [List.flatMap_cons, List.flatMap_nil, V.cells, List.append_nil]; exact .same (.same (.to .nil)))) ?_
  simp only [Sl.put, if_true, if_false, Nat.reduceEqDiff, reduceIte]
  refine Tr.weaken (Weaker.fz (H' := []) (t' := [(3, .rp T.cs 0)]) 3 0 ?_ ?_ ?_) ?_
  · simp [go_sem, ← hT, Tst.cs, aloneT, bufI, inis, iniC, Ini.cs, nmX, nmY, thrs, atms]
  · simp
  · simp
  refine region_k T_ok (by decide) fun K hK => ?_
  simp [go_sem]
  refine call_pf (awake14) ?_
  simp [go_sem, hcl, hct]
  refine call_pf (small_pf T hnm 8) ?_
  simp [go_sem]
  rcases smallCn T 8 with hz | ⟨hz, hc, hm, hp⟩ | ⟨hz, hc, hm, hp⟩
  · simp [go_sem, hz]
    refine hK _ ?_; clear hK K
    refine cond_k rfl (fun h => ?_) (fun h => ?_)
    · clear h
      refine region_k T_ok (by decide) fun K hK => ?_
      simp [go_sem]
      refine call_pf (awake14) ?_
      simp [go_sem]
      refine hK _ ?_; clear hK K
      refine tr_ret ⟨.inr rfl, ?_⟩
      simp [go_sem]
    · simp at h
  · simp [go_sem, hz]
    refine call_pf (hasPairs_pf T (by have := (good_tt hc hwT).ths; omega) (thr_len (good_tt hc hwT))) ?_
    simp [go_sem, hp, hz]
    refine hK _ ?_; clear hK K
    refine cond_k rfl (fun h => ?_) (fun h => ?_)
    · clear h
      refine region_k T_ok (by decide) fun K hK => ?_
      simp [go_sem]
      refine call_pf (awake14) ?_
      simp [go_sem]
      refine hK _ ?_; clear hK K
      refine tr_ret ⟨.inr rfl, ?_⟩
      simp [go_sem]
    · simp at h
  · simp [go_sem, hz]
    refine call_pf (hasPairs_pf T (by have := (good_tt hc hwT).ths; omega) (thr_len (good_tt hc hwT))) ?_
    simp [go_sem, hp, hz]
    refine hK _ ?_; clear hK K
    refine cond_k rfl (fun h => ?_) (fun h => ?_)
    · simp at h
    · clear h
      refine tr_skip ?_
      refine hK1 _ ?_; try clear hK1 K1
      have hTT := good_tt hc hwT
      have hfe := ends_one_few hTT h1T
      refine region_k T_ok (by decide) fun K hK => ?_
      simp [go_sem]
      refine call_pf (tso_pf T hTT hp hfe) ?_
      simp [go_sem]
      refine hK _ ?_; clear hK K
      have hpos : (setOf (tsoEnds T)).length = 1 := by rw [setLen hTT, tsoEnds_one hTT h1T]
      refine region_k T_ok (by decide) fun K hK => ?_
      simp [go_sem]
      refine call_pf (awake14) ?_
      simp [go_sem, hpos]
      refine hK _ ?_; clear hK K
      refine tr_ret ⟨.inr rfl, ?_⟩
      simp [go_sem]

end Go.Proofs.Ytflooghnoljpcaa
/- The walk of TsoPlain. -/
namespace Go.Proofs.Ytflooghnoljpcaa
open Go Go.Sl Go.Proofs.Try
def plU (l : List (List Ins)) (i : Nat) : List (List Ins) := (l.take i).map fun x => x.map plainI
def plI (l : List Ins) (b : Nat) : List Ins := (l.take b).map plainI
theorem plU_step {l : List (List Ins)} {i : Nat} {x : List Ins} (h : l[i]? = some x) : plU l (i + 1) = plU l i ++ [plI x x.length] := by simp [plU, plI, takeAt h]
theorem plI_step {l : List Ins} {b : Nat} {x : Ins} (h : l[b]? = some x) : plI l (b + 1) = plI l b ++ [plainI x] := by simp [plI, takeAt h]
theorem plU_len {l : List (List Ins)} {i : Nat} (h : i ≤ l.length) : (plU l i).length = i := by simp [plU]; omega
theorem plI_len {l : List Ins} {b : Nat} (h : b ≤ l.length) : (plI l b).length = b := by simp [plI]; omega
theorem plU_all (T : Tst) : plU T.ths T.ths.length = (plainP T).ths := by simp [plU, plainP]
theorem plain_cs (T : Tst) : (plainP T).cs = [.ro 2 (inis T.locs), .ro 1 (thrs (plainP T).ths), .ro 3 (atms T.asks)] := rfl
theorem plain_pairs (T : Tst) : hasPairs (plainP T).ths = hasPairs T.ths := by
  unfold hasPairs plainP
  simp only [List.any_map]
  congr 1; funext l
  simp only [Function.comp, List.any_map]
  congr 1; funext x
  show isPair (plainI x) = isPair x
  unfold isPair
  rw [(plain_op x).1]
theorem plain_few {t : Tst} (ht : TTOk t) (h : (tsoEnds t).length ≤ 400000000000) : (tsoEnds (plainP t)).length ≤ 400000000000 := by
  rw [← setLen (plain_ok ht), plain_ends ht, setLen ht]; exact h
theorem fence4 (x : Ins) : (x.op = 15 ∧ x.pred = 1) ∨ (x.op = 15 ∧ ¬ x.pred = 1 ∧ x.succ = 2) ∨ (x.op = 15 ∧ ¬ x.pred = 1 ∧ ¬ x.succ = 2) ∨ ¬ x.op = 15 := by omega
theorem inss_append (a b : List Ins) : inss (a ++ b) = inss a ++ inss b := List.map_append
theorem inss_one (x : Ins) : inss [x] = [insC x] := rfl
theorem in_self (l : List (List Int)) : decide (∀ x ∈ l, x ∈ l) = true := by simp

set_option maxRecDepth 100000 in
set_option maxHeartbeats 16000000 in
theorem tsoPlain_pf (t : Tst) (hs : ∀ l ∈ t.locs, l.name.size ≤ 9223372036854775807) (hwf : tstWf t) : Pf Try.prog 14 [.agg t.cs] (bV true) := by
  refine Pf.of_fn (.cons (.agg (nl_tst t)) .nil) (.val _) ?_
  have hnm : ∀ l ∈ (few t).locs, l.name.size ≤ 1000000 := few_nm3
  have hfew := few_pf t hs
  have hwT := few_wf hwf
  obtain ⟨T, hT⟩ : ∃ T, few t = T := ⟨_, rfl⟩
  rw [hT] at hnm hfew hwT
  have hcl : T.cs.length = 3 := rfl
  have hct : List.take 3 T.cs = T.cs := rfl
  refine fn_in T_ok func14 rfl rfl ntmps14 rfl (by simp) ?_
  refine region_k T_ok (by decide) fun K hK => ?_
  simp [go_sem, Tst.cs]
  refine hK _ ?_; clear hK K
  refine region_k T_ok (by decide) fun K hK => ?_
  simp [go_sem, Tst.cs]
  refine call_pf (hfew) ?_
  simp [go_sem, Tst.cs]
  refine hK _ ?_; clear hK K
  refine seq_k fun K1 hK1 => ?_
  refine Tr.weaken (Weaker.fz (H' := []) (t' := [(1, .rp T.cs 0), (2, bV false)]) 1 0 ?_ ?_ ?_) ?_
  · simp [go_sem, Tst.cs]
  · simp
  · simp
  refine region_k T_ok (by decide) fun K hK => ?_
  simp [go_sem]
  refine call_pf (awake14) ?_
  simp [go_sem, hcl, hct]
  refine call_pf (small_pf T hnm 6) ?_
  simp [go_sem]
  rcases smallCn T 6 with hz | ⟨hz, hc, hm, hp⟩ | ⟨hz, hc, hm, hp⟩
  · simp [go_sem, hz]
    refine hK _ ?_; clear hK K
    refine cond_k rfl (fun h => ?_) (fun h => ?_)
    · clear h
      refine region_k T_ok (by decide) fun K hK => ?_
      simp [go_sem]
      refine call_pf (awake14) ?_
      simp [go_sem]
      refine hK _ ?_; clear hK K
      refine tr_ret ⟨.inr rfl, ?_⟩
      simp [go_sem]
    · simp at h
  · simp [go_sem, hz]
    refine call_pf (hasPairs_pf T (by have := (good_tt hc hwT).ths; omega) (thr_len (good_tt hc hwT))) ?_
    simp [go_sem, hp, hz]
    refine hK _ ?_; clear hK K
    refine cond_k rfl (fun h => ?_) (fun h => ?_)
    · clear h
      refine region_k T_ok (by decide) fun K hK => ?_
      simp [go_sem]
      refine call_pf (awake14) ?_
      simp [go_sem]
      refine hK _ ?_; clear hK K
      refine tr_ret ⟨.inr rfl, ?_⟩
      simp [go_sem]
    · simp at h
  · simp [go_sem, hz]
    refine call_pf (hasPairs_pf T (by have := (good_tt hc hwT).ths; omega) (thr_len (good_tt hc hwT))) ?_
    simp [go_sem, hp, hz]
    refine hK _ ?_; clear hK K
    refine cond_k rfl (fun h => ?_) (fun h => ?_)
    · simp at h
    · clear h
      have hTT := good_tt hc hwT
      have hfe := ends_few hTT (by omega)
      have ht4 := hTT.ths
      refine tr_skip ?_
      refine hK1 _ ?_; try clear hK1 K1
      refine region_k T_ok (by decide) fun K hK => ?_
      simp [go_sem, Tst.cs]
      refine hK _ ?_; clear hK K
      refine region_k T_ok (by decide) fun K hK => ?_
      simp [go_sem, Tst.cs]
      refine hK _ ?_; clear hK K
      refine seq_k fun K2 hK2 => ?_
      refine region_k T_ok (by decide) fun K hK => ?_
      simp [go_sem, Tst.cs]
      refine hK _ ?_; clear hK K
      refine tr_block ?_
      refine Tr.weaken (Weaker.ghostH (sz := 3) (es := [.agg [.ro 2 (inis T.locs), .val (.slice none 0 0), .ro 3 (atms T.asks)]]) 1 1 [.agg [.ro 2 (inis T.locs), .sl 2 0 0, .ro 3 (atms T.asks)]] (by simp [Sl.look]) (by simp) (by simp) (by simp [V.fits, V.cells, V.one]) (by simp only [List.flatMap_cons, List.flatMap_nil, V.cells, List.append_nil]; exact .same (.to (.same .nil)))) ?_
      simp only [Sl.put, if_true, if_false, Nat.reduceEqDiff, reduceIte]
      refine loop_p (α := Nat × Nat × Nat) (fun a => ⟨98, [(1, .rp T.cs 0), (2, bV false), (3, .ptr 1 0 0), (29, .ro 1 (thrs T.ths)), (30, iV (T.ths.length : Nat)), (31, iV (a.1 : Nat))], [(1, .rows 3 [.agg [.ro 2 (inis T.locs), .sl a.2.2 0 a.1, .ro 3 (atms T.asks)]]), (a.2.2, .rows 1 (thrs (plU T.ths a.1)))], a.2.1⟩) (fun a => a.1 ≤ T.ths.length ∧ 1 < a.2.2 ∧ a.2.2 < a.2.1) (fun a => T.ths.length - a.1) (0, 3, 2) ?_ ?_ ?_
      · dsimp only; omega
      · refine Weaker.fzk 1 1 (by first | omega | (dsimp only; omega)) ?_ ?_ ?_
        · simp [go_sem, Tst.cs]
        · first | (simp; done) | (simp; omega)
        · simp [go_sem, plU, thrs]
      rintro ⟨i, j, m⟩ ⟨hi, hm1, hm2⟩
      dsimp only at hi hm1 hm2 ⊢
      have nn0 : ¬ m = 0 := by omega
      have mm0 : ¬ 0 = m := by omega
      have nn1 : ¬ m = 1 := by omega
      have mm1 : ¬ 1 = m := by omega
      have nn2 : ¬ m = j := by omega
      have mm2 : ¬ j = m := by omega
      have nn3 : ¬ m = j + 1 := by omega
      have mm3 : ¬ j + 1 = m := by omega
      have nn4 : ¬ m = j + 2 := by omega
      have mm4 : ¬ j + 2 = m := by omega
      have nn5 : ¬ m = j + 3 := by omega
      have mm5 : ¬ j + 3 = m := by omega
      have nn6 : ¬ m = j + 4 := by omega
      have mm6 : ¬ j + 4 = m := by omega
      have nn7 : ¬ m = j + 5 := by omega
      have mm7 : ¬ j + 5 = m := by omega
      have nn8 : ¬ j = 0 := by omega
      have mm8 : ¬ 0 = j := by omega
      have nn9 : ¬ j = 1 := by omega
      have mm9 : ¬ 1 = j := by omega
      refine region_k T_ok (by decide) fun K hK => ?_
      simp [go_sem, nn0, mm0, nn1, mm1, nn2, mm2, nn3, mm3, nn4, mm4, nn5, mm5, nn6, mm6, nn7, mm7, nn8, mm8, nn9, mm9]
      refine hK _ ?_; clear hK K
      refine seq_k fun K3 hK3 => ?_
      refine cond_k rfl (fun h => ?_) (fun h => ?_)
      · simp at h
        have hin : i < T.ths.length := by omega
        clear h
        have hinI : (i : Int) < (T.ths.length : Nat) := by omega
        obtain ⟨l, hx, hx'⟩ := getAt hin
        have hi0 : (0 : Int) ≤ (i : Nat) := by omega
        have hl8 := (hTT.thr i l hx).1
        have hw : IntKind.i64.wrap ((i : Nat) + 1) = (i : Nat) + 1 := wrap_i64 (by omega) (by omega)
        have hmi : List.take i (thrs (plU T.ths i)) = thrs (plU T.ths i) := List.take_of_length_le (by rw [thrs_len, plU_len hi]; omega)
        refine tr_skip ?_
        refine hK3 _ ?_; try clear hK3 K3
        refine seq_k fun K4 hK4 => ?_
        refine tr_block ?_
        refine region_k T_ok (by decide) fun K hK => ?_
        simp [go_sem, hin, hinI, hx, hx', hi0, nn0, mm0, nn1, mm1, nn2, mm2, nn3, mm3, nn4, mm4, nn5, mm5, nn6, mm6, nn7, mm7, nn8, mm8, nn9, mm9]
        refine hK _ ?_; clear hK K
        refine region_k T_ok (by decide) fun K hK => ?_
        simp [go_sem, nn0, mm0, nn1, mm1, nn2, mm2, nn3, mm3, nn4, mm4, nn5, mm5, nn6, mm6, nn7, mm7, nn8, mm8, nn9, mm9]
        refine hK _ ?_; clear hK K
        refine seq_k fun K5 hK5 => ?_
        refine region_k T_ok (by decide) fun K hK => ?_
        simp [go_sem, nn0, mm0, nn1, mm1, nn2, mm2, nn3, mm3, nn4, mm4, nn5, mm5, nn6, mm6, nn7, mm7, nn8, mm8, nn9, mm9]
        refine hK _ ?_; clear hK K
        refine tr_block ?_
        refine loop_p (α := Nat × Nat × Nat) (fun b => ⟨98, [(1, .rp T.cs 0), (2, bV false), (3, .ptr 1 0 0), (29, .ro 1 (thrs T.ths)), (30, iV (T.ths.length : Nat)), (31, iV (i : Nat)), (36, .ro 13 (inss l)), (37, iV (l.length : Nat)), (38, iV (b.1 : Nat)), (6, .sl b.2.2 0 b.1)], [(b.2.2, .rows 13 (inss (plI l b.1))), (1, .rows 3 [.agg [.ro 2 (inis T.locs), .sl m 0 i, .ro 3 (atms T.asks)]]), (m, .rows 1 (thrs (plU T.ths i)))], b.2.1⟩) (fun b => b.1 ≤ l.length ∧ m < b.2.2 ∧ b.2.2 < b.2.1) (fun b => l.length - b.1) (0, j + 1, j) ?_ ?_ ?_
        · dsimp only; omega
        · refine Weaker.fzk 1 0 (by first | omega | (dsimp only; omega)) ?_ ?_ ?_
          · simp [go_sem, nn0, mm0, nn1, mm1, nn2, mm2, nn3, mm3, nn4, mm4, nn5, mm5, nn6, mm6, nn7, mm7, nn8, mm8, nn9, mm9]
          · first | (simp; done) | (simp; omega)
          · simp [go_sem, plI, inss, nn0, mm0, nn1, mm1, nn2, mm2, nn3, mm3, nn4, mm4, nn5, mm5, nn6, mm6, nn7, mm7, nn8, mm8, nn9, mm9]
        rintro ⟨b, jj, g⟩ ⟨hb, hg1, hg2⟩
        dsimp only at hb hg1 hg2 ⊢
        have nn40 : ¬ g = 0 := by omega
        have mm40 : ¬ 0 = g := by omega
        have nn41 : ¬ g = 1 := by omega
        have mm41 : ¬ 1 = g := by omega
        have nn42 : ¬ g = m := by omega
        have mm42 : ¬ m = g := by omega
        have nn43 : ¬ g = jj := by omega
        have mm43 : ¬ jj = g := by omega
        have nn44 : ¬ g = jj + 1 := by omega
        have mm44 : ¬ jj + 1 = g := by omega
        have nn45 : ¬ g = jj + 2 := by omega
        have mm45 : ¬ jj + 2 = g := by omega
        have nn46 : ¬ g = jj + 3 := by omega
        have mm46 : ¬ jj + 3 = g := by omega
        have nn47 : ¬ g = jj + 4 := by omega
        have mm47 : ¬ jj + 4 = g := by omega
        have nn48 : ¬ g = jj + 5 := by omega
        have mm48 : ¬ jj + 5 = g := by omega
        have nn49 : ¬ m = jj := by omega
        have mm49 : ¬ jj = m := by omega
        have nn50 : ¬ jj = 1 := by omega
        have mm50 : ¬ 1 = jj := by omega
        have nn51 : ¬ jj = 0 := by omega
        have mm51 : ¬ 0 = jj := by omega
        have nn52 : ¬ m = jj + 1 := by omega
        have mm52 : ¬ jj + 1 = m := by omega
        have nn53 : ¬ m = jj + 2 := by omega
        have mm53 : ¬ jj + 2 = m := by omega
        have nn54 : ¬ m = jj + 3 := by omega
        have mm54 : ¬ jj + 3 = m := by omega
        have nn55 : ¬ m = jj + 4 := by omega
        have mm55 : ¬ jj + 4 = m := by omega
        have nn56 : ¬ m = jj + 5 := by omega
        have mm56 : ¬ jj + 5 = m := by omega
        refine region_k T_ok (by decide) fun K hK => ?_
        simp [go_sem, nn0, mm0, nn1, mm1, nn2, mm2, nn3, mm3, nn4, mm4, nn5, mm5, nn6, mm6, nn7, mm7, nn8, mm8, nn9, mm9, nn40, mm40, nn41, mm41, nn42, mm42, nn43, mm43, nn44, mm44, nn45, mm45, nn46, mm46, nn47, mm47, nn48, mm48, nn49, mm49, nn50, mm50, nn51, mm51, nn52, mm52, nn53, mm53, nn54, mm54, nn55, mm55, nn56, mm56]
        refine hK _ ?_; clear hK K
        refine seq_k fun K6 hK6 => ?_
        refine cond_k rfl (fun h => ?_) (fun h => ?_)
        · simp at h
          have hbn : b < l.length := by omega
          clear h
          have hbI : (b : Int) < (l.length : Nat) := by omega
          obtain ⟨x, hg, hg'⟩ := getAt hbn
          have hb0 : (0 : Int) ≤ (b : Nat) := by omega
          have hw2 : IntKind.i64.wrap ((b : Nat) + 1) = (b : Nat) + 1 := wrap_i64 (by omega) (by omega)
          have hmb : List.take b (inss (plI l b)) = inss (plI l b) := List.take_of_length_le (by rw [inss_len, plI_len hb]; omega)
          refine tr_skip ?_
          refine hK6 _ ?_; try clear hK6 K6
          refine seq_k fun K7 hK7 => ?_
          refine tr_block ?_
          refine region_k T_ok (by decide) fun K hK => ?_
          simp [go_sem, hbn, hbI, hg, hg', hb0, len_ins, fits_ins, insC, nn0, mm0, nn1, mm1, nn2, mm2, nn3, mm3, nn4, mm4, nn5, mm5, nn6, mm6, nn7, mm7, nn8, mm8, nn9, mm9, nn40, mm40, nn41, mm41, nn42, mm42, nn43, mm43, nn44, mm44, nn45, mm45, nn46, mm46, nn47, mm47, nn48, mm48, nn49, mm49, nn50, mm50, nn51, mm51, nn52, mm52, nn53, mm53, nn54, mm54, nn55, mm55, nn56, mm56]
          refine hK _ ?_; clear hK K
          refine region_k T_ok (by decide) fun K hK => ?_
          simp [go_sem, insC, Ins.cs, nn0, mm0, nn1, mm1, nn2, mm2, nn3, mm3, nn4, mm4, nn5, mm5, nn6, mm6, nn7, mm7, nn8, mm8, nn9, mm9, nn40, mm40, nn41, mm41, nn42, mm42, nn43, mm43, nn44, mm44, nn45, mm45, nn46, mm46, nn47, mm47, nn48, mm48, nn49, mm49, nn50, mm50, nn51, mm51, nn52, mm52, nn53, mm53, nn54, mm54, nn55, mm55, nn56, mm56]
          refine hK _ ?_; clear hK K
          refine region_k T_ok (by decide) fun K hK => ?_
          simp [go_sem, insC, Ins.cs, nn0, mm0, nn1, mm1, nn2, mm2, nn3, mm3, nn4, mm4, nn5, mm5, nn6, mm6, nn7, mm7, nn8, mm8, nn9, mm9, nn40, mm40, nn41, mm41, nn42, mm42, nn43, mm43, nn44, mm44, nn45, mm45, nn46, mm46, nn47, mm47, nn48, mm48, nn49, mm49, nn50, mm50, nn51, mm51, nn52, mm52, nn53, mm53, nn54, mm54, nn55, mm55, nn56, mm56]
          refine hK _ ?_; clear hK K
          refine region_k T_ok (by decide) fun K hK => ?_
          simp [go_sem, insC, Ins.cs, nn0, mm0, nn1, mm1, nn2, mm2, nn3, mm3, nn4, mm4, nn5, mm5, nn6, mm6, nn7, mm7, nn8, mm8, nn9, mm9, nn40, mm40, nn41, mm41, nn42, mm42, nn43, mm43, nn44, mm44, nn45, mm45, nn46, mm46, nn47, mm47, nn48, mm48, nn49, mm49, nn50, mm50, nn51, mm51, nn52, mm52, nn53, mm53, nn54, mm54, nn55, mm55, nn56, mm56]
          refine hK _ ?_; clear hK K
          refine seq_k fun K8 hK8 => ?_
          refine region_k T_ok (by decide) fun K hK => ?_
          rcases fence4 x with ⟨c1, c2⟩ | ⟨c1, c2, c3⟩ | ⟨c1, c2, c3⟩ | c1
          · simp [go_sem, c1, c2, insC, Ins.cs, nn0, mm0, nn1, mm1, nn2, mm2, nn3, mm3, nn4, mm4, nn5, mm5, nn6, mm6, nn7, mm7, nn8, mm8, nn9, mm9, nn40, mm40, nn41, mm41, nn42, mm42, nn43, mm43, nn44, mm44, nn45, mm45, nn46, mm46, nn47, mm47, nn48, mm48, nn49, mm49, nn50, mm50, nn51, mm51, nn52, mm52, nn53, mm53, nn54, mm54, nn55, mm55, nn56, mm56]
            refine hK _ ?_; clear hK K
            refine cond_k rfl (fun h => ?_) (fun h => ?_)
            · clear h
              have hpl : plainI x = fenI 1 1 := if_pos ⟨c1, .inl c2⟩
              refine region_e T_ok (by decide) fun K hK => ?_
              simp [go_sem, insC, Ins.cs, nn0, mm0, nn1, mm1, nn2, mm2, nn3, mm3, nn4, mm4, nn5, mm5, nn6, mm6, nn7, mm7, nn8, mm8, nn9, mm9, nn40, mm40, nn41, mm41, nn42, mm42, nn43, mm43, nn44, mm44, nn45, mm45, nn46, mm46, nn47, mm47, nn48, mm48, nn49, mm49, nn50, mm50, nn51, mm51, nn52, mm52, nn53, mm53, nn54, mm54, nn55, mm55, nn56, mm56]
              refine hK _ ?_; clear hK K
              refine hK8 _ ?_; try clear hK8 K8
              refine region_e T_ok (by decide) fun K hK => ?_
              simp [go_sem, insC, Ins.cs, nn0, mm0, nn1, mm1, nn2, mm2, nn3, mm3, nn4, mm4, nn5, mm5, nn6, mm6, nn7, mm7, nn8, mm8, nn9, mm9, nn40, mm40, nn41, mm41, nn42, mm42, nn43, mm43, nn44, mm44, nn45, mm45, nn46, mm46, nn47, mm47, nn48, mm48, nn49, mm49, nn50, mm50, nn51, mm51, nn52, mm52, nn53, mm53, nn54, mm54, nn55, mm55, nn56, mm56, hmb]
              refine ⟨by rw [plI_len hb]; omega, by omega, ?_⟩
              refine hK _ ?_; clear hK K
              refine hK7 _ ?_; try clear hK7 K7
              refine region_e T_ok (by decide) fun K hK => ?_
              simp [go_sem, hw2]
              refine hK _ ?_; clear hK K
              refine ⟨(b + 1, jj + 40, jj + 2), ?_, ?_, ?_⟩
              · dsimp only; omega
              · dsimp only; omega
              · refine Weaker.fzk 1 0 (by first | omega | (dsimp only; omega)) ?_ ?_ ?_
                · simp [go_sem, nn0, mm0, nn1, mm1, nn2, mm2, nn3, mm3, nn4, mm4, nn5, mm5, nn6, mm6, nn7, mm7, nn8, mm8, nn9, mm9, nn40, mm40, nn41, mm41, nn42, mm42, nn43, mm43, nn44, mm44, nn45, mm45, nn46, mm46, nn47, mm47, nn48, mm48, nn49, mm49, nn50, mm50, nn51, mm51, nn52, mm52, nn53, mm53, nn54, mm54, nn55, mm55, nn56, mm56]
                · first | (simp; done) | (simp; omega)
                simp [go_sem, plI_step hg, inss_append, inss_one, hpl, fenI, insC, Ins.cs, nn0, mm0, nn1, mm1, nn2, mm2, nn3, mm3, nn4, mm4, nn5, mm5, nn6, mm6, nn7, mm7, nn8, mm8, nn9, mm9, nn40, mm40, nn41, mm41, nn42, mm42, nn43, mm43, nn44, mm44, nn45, mm45, nn46, mm46, nn47, mm47, nn48, mm48, nn49, mm49, nn50, mm50, nn51, mm51, nn52, mm52, nn53, mm53, nn54, mm54, nn55, mm55, nn56, mm56]
            · simp at h
          · simp [go_sem, c1, c2, c3, insC, Ins.cs, nn0, mm0, nn1, mm1, nn2, mm2, nn3, mm3, nn4, mm4, nn5, mm5, nn6, mm6, nn7, mm7, nn8, mm8, nn9, mm9, nn40, mm40, nn41, mm41, nn42, mm42, nn43, mm43, nn44, mm44, nn45, mm45, nn46, mm46, nn47, mm47, nn48, mm48, nn49, mm49, nn50, mm50, nn51, mm51, nn52, mm52, nn53, mm53, nn54, mm54, nn55, mm55, nn56, mm56]
            refine hK _ ?_; clear hK K
            refine cond_k rfl (fun h => ?_) (fun h => ?_)
            · clear h
              have hpl : plainI x = fenI 1 1 := if_pos ⟨c1, .inr c3⟩
              refine region_e T_ok (by decide) fun K hK => ?_
              simp [go_sem, insC, Ins.cs, nn0, mm0, nn1, mm1, nn2, mm2, nn3, mm3, nn4, mm4, nn5, mm5, nn6, mm6, nn7, mm7, nn8, mm8, nn9, mm9, nn40, mm40, nn41, mm41, nn42, mm42, nn43, mm43, nn44, mm44, nn45, mm45, nn46, mm46, nn47, mm47, nn48, mm48, nn49, mm49, nn50, mm50, nn51, mm51, nn52, mm52, nn53, mm53, nn54, mm54, nn55, mm55, nn56, mm56]
              refine hK _ ?_; clear hK K
              refine hK8 _ ?_; try clear hK8 K8
              refine region_e T_ok (by decide) fun K hK => ?_
              simp [go_sem, insC, Ins.cs, nn0, mm0, nn1, mm1, nn2, mm2, nn3, mm3, nn4, mm4, nn5, mm5, nn6, mm6, nn7, mm7, nn8, mm8, nn9, mm9, nn40, mm40, nn41, mm41, nn42, mm42, nn43, mm43, nn44, mm44, nn45, mm45, nn46, mm46, nn47, mm47, nn48, mm48, nn49, mm49, nn50, mm50, nn51, mm51, nn52, mm52, nn53, mm53, nn54, mm54, nn55, mm55, nn56, mm56, hmb]
              refine ⟨by rw [plI_len hb]; omega, by omega, ?_⟩
              refine hK _ ?_; clear hK K
              refine hK7 _ ?_; try clear hK7 K7
              refine region_e T_ok (by decide) fun K hK => ?_
              simp [go_sem, hw2]
              refine hK _ ?_; clear hK K
              refine ⟨(b + 1, jj + 40, jj + 2), ?_, ?_, ?_⟩
              · dsimp only; omega
              · dsimp only; omega
              · refine Weaker.fzk 1 0 (by first | omega | (dsimp only; omega)) ?_ ?_ ?_
                · simp [go_sem, nn0, mm0, nn1, mm1, nn2, mm2, nn3, mm3, nn4, mm4, nn5, mm5, nn6, mm6, nn7, mm7, nn8, mm8, nn9, mm9, nn40, mm40, nn41, mm41, nn42, mm42, nn43, mm43, nn44, mm44, nn45, mm45, nn46, mm46, nn47, mm47, nn48, mm48, nn49, mm49, nn50, mm50, nn51, mm51, nn52, mm52, nn53, mm53, nn54, mm54, nn55, mm55, nn56, mm56]
                · first | (simp; done) | (simp; omega)
                simp [go_sem, plI_step hg, inss_append, inss_one, hpl, fenI, insC, Ins.cs, nn0, mm0, nn1, mm1, nn2, mm2, nn3, mm3, nn4, mm4, nn5, mm5, nn6, mm6, nn7, mm7, nn8, mm8, nn9, mm9, nn40, mm40, nn41, mm41, nn42, mm42, nn43, mm43, nn44, mm44, nn45, mm45, nn46, mm46, nn47, mm47, nn48, mm48, nn49, mm49, nn50, mm50, nn51, mm51, nn52, mm52, nn53, mm53, nn54, mm54, nn55, mm55, nn56, mm56]
            · simp at h
          · simp [go_sem, c1, c2, c3, insC, Ins.cs, nn0, mm0, nn1, mm1, nn2, mm2, nn3, mm3, nn4, mm4, nn5, mm5, nn6, mm6, nn7, mm7, nn8, mm8, nn9, mm9, nn40, mm40, nn41, mm41, nn42, mm42, nn43, mm43, nn44, mm44, nn45, mm45, nn46, mm46, nn47, mm47, nn48, mm48, nn49, mm49, nn50, mm50, nn51, mm51, nn52, mm52, nn53, mm53, nn54, mm54, nn55, mm55, nn56, mm56]
            refine hK _ ?_; clear hK K
            refine cond_k rfl (fun h => ?_) (fun h => ?_)
            · simp [c3] at h
            · clear h
              have hpl : plainI x = { x with acq := false, rel := false, dep := 0 } := if_neg fun e => e.2.elim c2 c3
              refine tr_skip ?_
              refine hK8 _ ?_; try clear hK8 K8
              refine region_e T_ok (by decide) fun K hK => ?_
              simp [go_sem, insC, Ins.cs, nn0, mm0, nn1, mm1, nn2, mm2, nn3, mm3, nn4, mm4, nn5, mm5, nn6, mm6, nn7, mm7, nn8, mm8, nn9, mm9, nn40, mm40, nn41, mm41, nn42, mm42, nn43, mm43, nn44, mm44, nn45, mm45, nn46, mm46, nn47, mm47, nn48, mm48, nn49, mm49, nn50, mm50, nn51, mm51, nn52, mm52, nn53, mm53, nn54, mm54, nn55, mm55, nn56, mm56, hmb]
              refine ⟨by rw [plI_len hb]; omega, by omega, ?_⟩
              refine hK _ ?_; clear hK K
              refine hK7 _ ?_; try clear hK7 K7
              refine region_e T_ok (by decide) fun K hK => ?_
              simp [go_sem, hw2]
              refine hK _ ?_; clear hK K
              refine ⟨(b + 1, jj + 40, jj + 2), ?_, ?_, ?_⟩
              · dsimp only; omega
              · dsimp only; omega
              · refine Weaker.fzk 1 0 (by first | omega | (dsimp only; omega)) ?_ ?_ ?_
                · simp [go_sem, nn0, mm0, nn1, mm1, nn2, mm2, nn3, mm3, nn4, mm4, nn5, mm5, nn6, mm6, nn7, mm7, nn8, mm8, nn9, mm9, nn40, mm40, nn41, mm41, nn42, mm42, nn43, mm43, nn44, mm44, nn45, mm45, nn46, mm46, nn47, mm47, nn48, mm48, nn49, mm49, nn50, mm50, nn51, mm51, nn52, mm52, nn53, mm53, nn54, mm54, nn55, mm55, nn56, mm56]
                · first | (simp; done) | (simp; omega)
                simp [go_sem, plI_step hg, inss_append, inss_one, hpl, fenI, insC, Ins.cs, nn0, mm0, nn1, mm1, nn2, mm2, nn3, mm3, nn4, mm4, nn5, mm5, nn6, mm6, nn7, mm7, nn8, mm8, nn9, mm9, nn40, mm40, nn41, mm41, nn42, mm42, nn43, mm43, nn44, mm44, nn45, mm45, nn46, mm46, nn47, mm47, nn48, mm48, nn49, mm49, nn50, mm50, nn51, mm51, nn52, mm52, nn53, mm53, nn54, mm54, nn55, mm55, nn56, mm56, c1]
          · simp [go_sem, c1, insC, Ins.cs, nn0, mm0, nn1, mm1, nn2, mm2, nn3, mm3, nn4, mm4, nn5, mm5, nn6, mm6, nn7, mm7, nn8, mm8, nn9, mm9, nn40, mm40, nn41, mm41, nn42, mm42, nn43, mm43, nn44, mm44, nn45, mm45, nn46, mm46, nn47, mm47, nn48, mm48, nn49, mm49, nn50, mm50, nn51, mm51, nn52, mm52, nn53, mm53, nn54, mm54, nn55, mm55, nn56, mm56]
            refine hK _ ?_; clear hK K
            refine cond_k rfl (fun h => ?_) (fun h => ?_)
            · simp at h
            · clear h
              have hpl : plainI x = { x with acq := false, rel := false, dep := 0 } := if_neg fun e => c1 e.1
              refine tr_skip ?_
              refine hK8 _ ?_; try clear hK8 K8
              refine region_e T_ok (by decide) fun K hK => ?_
              simp [go_sem, insC, Ins.cs, nn0, mm0, nn1, mm1, nn2, mm2, nn3, mm3, nn4, mm4, nn5, mm5, nn6, mm6, nn7, mm7, nn8, mm8, nn9, mm9, nn40, mm40, nn41, mm41, nn42, mm42, nn43, mm43, nn44, mm44, nn45, mm45, nn46, mm46, nn47, mm47, nn48, mm48, nn49, mm49, nn50, mm50, nn51, mm51, nn52, mm52, nn53, mm53, nn54, mm54, nn55, mm55, nn56, mm56, hmb]
              refine ⟨by rw [plI_len hb]; omega, by omega, ?_⟩
              refine hK _ ?_; clear hK K
              refine hK7 _ ?_; try clear hK7 K7
              refine region_e T_ok (by decide) fun K hK => ?_
              simp [go_sem, hw2]
              refine hK _ ?_; clear hK K
              refine ⟨(b + 1, jj + 40, jj + 2), ?_, ?_, ?_⟩
              · dsimp only; omega
              · dsimp only; omega
              · refine Weaker.fzk 1 0 (by first | omega | (dsimp only; omega)) ?_ ?_ ?_
                · simp [go_sem, nn0, mm0, nn1, mm1, nn2, mm2, nn3, mm3, nn4, mm4, nn5, mm5, nn6, mm6, nn7, mm7, nn8, mm8, nn9, mm9, nn40, mm40, nn41, mm41, nn42, mm42, nn43, mm43, nn44, mm44, nn45, mm45, nn46, mm46, nn47, mm47, nn48, mm48, nn49, mm49, nn50, mm50, nn51, mm51, nn52, mm52, nn53, mm53, nn54, mm54, nn55, mm55, nn56, mm56]
                · first | (simp; done) | (simp; omega)
                simp [go_sem, plI_step hg, inss_append, inss_one, hpl, fenI, insC, Ins.cs, nn0, mm0, nn1, mm1, nn2, mm2, nn3, mm3, nn4, mm4, nn5, mm5, nn6, mm6, nn7, mm7, nn8, mm8, nn9, mm9, nn40, mm40, nn41, mm41, nn42, mm42, nn43, mm43, nn44, mm44, nn45, mm45, nn46, mm46, nn47, mm47, nn48, mm48, nn49, mm49, nn50, mm50, nn51, mm51, nn52, mm52, nn53, mm53, nn54, mm54, nn55, mm55, nn56, mm56]
        · simp at h
          obtain rfl : b = l.length := by omega
          clear h
          have htl : List.take l.length (plI l l.length) = plI l l.length := List.take_of_length_le (by rw [plI_len (Nat.le_refl _)]; omega)
          have nn80 : ¬ g = 1 := by omega
          have mm80 : ¬ 1 = g := by omega
          have nn81 : ¬ g = m := by omega
          have mm81 : ¬ m = g := by omega
          have nn82 : ¬ g = 0 := by omega
          have mm82 : ¬ 0 = g := by omega
          have nn83 : ¬ g = jj := by omega
          have mm83 : ¬ jj = g := by omega
          have nn84 : ¬ m = jj := by omega
          have mm84 : ¬ jj = m := by omega
          have nn85 : ¬ jj = 1 := by omega
          have mm85 : ¬ 1 = jj := by omega
          have nn86 : ¬ jj = 0 := by omega
          have mm86 : ¬ 0 = jj := by omega
          have nn87 : ¬ g = jj + 1 := by omega
          have mm87 : ¬ jj + 1 = g := by omega
          have nn88 : ¬ g = jj + 2 := by omega
          have mm88 : ¬ jj + 2 = g := by omega
          have nn89 : ¬ g = jj + 3 := by omega
          have mm89 : ¬ jj + 3 = g := by omega
          have nn90 : ¬ m = jj + 1 := by omega
          have mm90 : ¬ jj + 1 = m := by omega
          have nn91 : ¬ m = jj + 2 := by omega
          have mm91 : ¬ jj + 2 = m := by omega
          have nn92 : ¬ m = jj + 3 := by omega
          have mm92 : ¬ jj + 3 = m := by omega
          refine tr_exit ?_
          refine hK5 _ ?_; try clear hK5 K5
          refine region_e T_ok (by decide) fun K hK => ?_
          simp [go_sem, nn0, mm0, nn1, mm1, nn2, mm2, nn3, mm3, nn4, mm4, nn5, mm5, nn6, mm6, nn7, mm7, nn8, mm8, nn9, mm9, nn80, mm80, nn81, mm81, nn82, mm82, nn83, mm83, nn84, mm84, nn85, mm85, nn86, mm86, nn87, mm87, nn88, mm88, nn89, mm89, nn90, mm90, nn91, mm91, nn92, mm92, hmi]
          refine ⟨by rw [plU_len hi]; omega, by omega, ?_⟩
          refine hK _ ?_; clear hK K
          refine hK4 _ ?_; try clear hK4 K4
          refine region_e T_ok (by decide) fun K hK => ?_
          simp [go_sem, hw]
          refine hK _ ?_; clear hK K
          refine ⟨(i + 1, jj + 40, jj + 1), ?_, ?_, ?_⟩
          · dsimp only; omega
          · dsimp only; omega
          · refine Weaker.fzk 1 1 (by first | omega | (dsimp only; omega)) ?_ ?_ ?_
            · simp [go_sem, nn0, mm0, nn1, mm1, nn2, mm2, nn3, mm3, nn4, mm4, nn5, mm5, nn6, mm6, nn7, mm7, nn8, mm8, nn9, mm9, nn80, mm80, nn81, mm81, nn82, mm82, nn83, mm83, nn84, mm84, nn85, mm85, nn86, mm86, nn87, mm87, nn88, mm88, nn89, mm89, nn90, mm90, nn91, mm91, nn92, mm92]
            · first | (simp; done) | (simp; omega)
            simp [go_sem, plU_step hx, thrs_append, thrs_one, plI_len (Nat.le_refl l.length), htl, nn0, mm0, nn1, mm1, nn2, mm2, nn3, mm3, nn4, mm4, nn5, mm5, nn6, mm6, nn7, mm7, nn8, mm8, nn9, mm9, nn80, mm80, nn81, mm81, nn82, mm82, nn83, mm83, nn84, mm84, nn85, mm85, nn86, mm86, nn87, mm87, nn88, mm88, nn89, mm89, nn90, mm90, nn91, mm91, nn92, mm92]
      · simp at h
        obtain rfl : i = T.ths.length := by omega
        clear h
        have hTP := plain_ok hTT
        have hpe := plain_ends hTT
        have hpp : hasPairs (plainP T).ths = false := (plain_pairs T).trans hp
        have hpf := plain_few hTT hfe
        have hpl1 := plain_len T
        have htk : List.take T.ths.length (plainP T).ths = (plainP T).ths := List.take_of_length_le (by omega)
        refine tr_exit ?_
        refine hK2 _ ?_; try clear hK2 K2
        refine region_k T_ok (by decide) fun K hK => ?_
        simp [go_sem]
        refine call_pf (tso_pf T hTT hp hfe) ?_
        simp [go_sem]
        refine hK _ ?_; clear hK K
        refine Tr.weaken (Weaker.fz (H' := []) (t' := [(3, .rp (plainP T).cs 0), (9, .ro 41 (stR (setOf (tsoEnds T)))), (10, bV true)]) 2 0 ?_ ?_ ?_) ?_
        · simp [go_sem, plain_cs, plU_all, hpl1, htk, nn0, mm0, nn1, mm1, nn2, mm2, nn3, mm3, nn4, mm4, nn5, mm5, nn6, mm6, nn7, mm7, nn8, mm8, nn9, mm9]
        · simp
        · simp
        refine region_k T_ok (by decide) fun K hK => ?_
        simp [go_sem]
        refine call_pf (tso_pf (plainP T) hTP hpp hpf) ?_
        simp [go_sem, hpe]
        refine hK _ ?_; clear hK K
        refine seq_k fun K9 hK9 => ?_
        refine region_k T_ok (by decide) fun K hK => ?_
        simp [go_sem]
        refine hK _ ?_; clear hK K
        refine cond_k rfl (fun h => ?_) (fun h => ?_)
        · simp at h
        · clear h
          refine tr_skip ?_
          refine hK9 _ ?_; try clear hK9 K9
          refine region_k T_ok (by decide) fun K hK => ?_
          simp [go_sem]
          refine call_pf (awake14) ?_
          simp [go_sem]
          refine call_pf (within_pf _ (set41 hTT) (by rw [setLen hTT]; exact hfe) _ (set41 hTT) (rising_setOf _) (by rw [setLen hTT]; exact hfe)) ?_
          simp [go_sem, in_self]
          refine hK _ ?_; clear hK K
          refine tr_ret ⟨.inr rfl, ?_⟩
          simp [go_sem]

end Go.Proofs.Ytflooghnoljpcaa
/- The walk of TsoFenced. -/
namespace Go.Proofs.Ytflooghnoljpcaa
open Go Go.Sl Go.Proofs.Try
theorem fenC (T : Tst) (th a : Int) : th < 0 ∨ (¬ th < 0 ∧ (T.ths.length : Int) ≤ th) ∨ ∃ j : Nat, ∃ l, th = (j : Nat) ∧ j < T.ths.length ∧ T.ths[j]? = some l ∧ (a < 0 ∨ (¬ a < 0 ∧ (l.length : Int) < a) ∨ (¬ a < 0 ∧ ¬ (l.length : Int) < a ∧ 7 < (l.length : Int)) ∨ ∃ b : Nat, a = (b : Nat) ∧ b ≤ l.length ∧ l.length ≤ 7) := by
  by_cases h1 : th < 0
  · exact .inl h1
  · by_cases h2 : (T.ths.length : Int) ≤ th
    · exact .inr (.inl ⟨h1, h2⟩)
    · obtain ⟨j, rfl⟩ : ∃ j : Nat, th = j := ⟨th.toNat, by omega⟩
      have hj : j < T.ths.length := by omega
      refine .inr (.inr ⟨j, T.ths[j], rfl, hj, List.getElem?_eq_getElem hj, ?_⟩)
      generalize T.ths[j] = l
      by_cases h3 : a < 0
      · exact .inl h3
      · by_cases h4 : (l.length : Int) < a
        · exact .inr (.inl ⟨h3, h4⟩)
        · by_cases h5 : 7 < (l.length : Int)
          · exact .inr (.inr (.inl ⟨h3, h4, h5⟩))
          · exact .inr (.inr (.inr ⟨a.toNat, by omega, by omega, by omega⟩))
def fenL (l : List Ins) (b : Nat) : List Ins := l.take b ++ fenI 2 1 :: l.drop b
theorem fenL_len {l : List Ins} {b : Nat} (h : b ≤ l.length) : (fenL l b).length = l.length + 1 := by unfold fenL; simp; omega
theorem fenced_cs (T : Tst) (j b : Nat) : (fencedT T j b).cs = [.ro 2 (inis T.locs), .ro 1 (thrs (T.ths.set j (fenL (lth T j) b))), .ro 3 (atms T.asks)] := rfl
theorem thrs_set (l : List (List Ins)) (j : Nat) (x : List Ins) : (thrs l).set j (.ro 13 (inss x)) = thrs (l.set j x) := by
  unfold thrs; rw [List.map_set]
theorem fen_inss (l : List Ins) (b : Nat) : inss (l.take b) ++ (insC (fenI 2 1) :: inss (l.drop b)) = inss (fenL l b) := by
  unfold fenL; rw [inss_append]; rfl
theorem fenced_pairs {T : Tst} {j b : Nat} (hj : j < T.ths.length) (h : hasPairs T.ths = false) : hasPairs (fencedT T j b).ths = false := by
  unfold hasPairs at h ⊢
  rw [List.any_eq_false] at h ⊢
  intro x hx
  have hl : lth T j ∈ T.ths := List.mem_of_getElem? (thr_at hj)
  have := List.mem_or_eq_of_mem_set hx
  rcases this with h1 | h1
  · exact h x h1
  · subst h1
    have h2 := h _ hl
    rw [Bool.not_eq_true, List.any_eq_false] at h2 ⊢
    intro y hy
    rcases List.mem_append.1 hy with hy | hy
    · exact h2 y (List.mem_of_mem_take hy)
    · rcases List.mem_cons.1 hy with rfl | hy
      · decide
      · exact h2 y (List.mem_of_mem_drop hy)
theorem memLeft_fen (l : List Ins) (b : Nat) : memLeft (fenL l b) 0 = memLeft l 0 := by
  unfold memLeft fenL
  rw [List.drop_zero, List.drop_zero]
  conv => rhs; rw [← List.take_append_drop b l]
  rw [List.filter_append, List.filter_append, List.filter_cons]
  rfl
theorem memUp_congr {l m : List (List Ins)} (h : ∀ i, memLeft (l.getD i []) 0 = memLeft (m.getD i []) 0) : ∀ n, memUp l n = memUp m n
  | 0 => rfl
  | n + 1 => by rw [memUp, memUp, memUp_congr h n, memC_all, memC_all, h n]
theorem fenced_few {T : Tst} {j b : Nat} (hj : j < T.ths.length) (hb : b ≤ (lth T j).length) (ht : TTOk T) (h7 : (lth T j).length ≤ 7) (hm : memTot T ≤ 6) : (tsoEnds (fencedT T j b)).length ≤ 400000000000 := by
  refine ends_few (fenced_ok hj hb ht h7) ?_
  unfold memTot at hm ⊢
  rw [fenced_len, memUp_congr (m := T.ths)]
  · exact hm
  · intro i
    show memLeft (lth (fencedT T j b) i) 0 = memLeft (lth T i) 0
    rw [lth_fenced hj]
    split
    · rename_i e; subst e; exact memLeft_fen _ _
    · rfl
theorem sub_set {a b : List (List Int)} (h : ∀ e ∈ a, e ∈ b) : decide (∀ x ∈ setOf a, x ∈ setOf b) = true := by
  rw [decide_eq_true_eq]
  exact fun x hx => mem_setOf.2 (h x (mem_setOf.1 hx))

set_option maxRecDepth 100000 in
set_option maxHeartbeats 16000000 in
theorem tsoFenced_pf (t : Tst) (th a : Int) (hs : ∀ l ∈ t.locs, l.name.size ≤ 9223372036854775807) (hwf : tstWf t) : Pf Try.prog 15 [.agg t.cs, iV th, iV a] (bV true) := by
  refine Pf.of_fn (.cons (.agg (nl_tst t)) (.cons (.val _) (.cons (.val _) .nil))) (.val _) ?_
  have hnm : ∀ l ∈ (few t).locs, l.name.size ≤ 1000000 := few_nm3
  have hfew := few_pf t hs
  have hwT := few_wf hwf
  obtain ⟨T, hT⟩ : ∃ T, few t = T := ⟨_, rfl⟩
  rw [hT] at hnm hfew hwT
  have hcl : T.cs.length = 3 := rfl
  have hct : List.take 3 T.cs = T.cs := rfl
  refine fn_in T_ok func15 rfl rfl ntmps15 rfl (by simp) ?_
  refine region_k T_ok (by decide) fun K hK => ?_
  simp [go_sem, Tst.cs]
  refine hK _ ?_; clear hK K
  refine region_k T_ok (by decide) fun K hK => ?_
  simp [go_sem, Tst.cs]
  refine call_pf (hfew) ?_
  simp [go_sem, Tst.cs]
  refine hK _ ?_; clear hK K
  refine seq_k fun K1 hK1 => ?_
  refine Tr.weaken (Weaker.fz (H' := []) (t' := [(1, iV th), (2, iV a), (3, .rp T.cs 0), (6, bV false)]) 1 0 ?_ ?_ ?_) ?_
  · simp [go_sem, Tst.cs]
  · simp
  · simp
  refine region_k T_ok (by decide) fun K hK => ?_
  simp [go_sem]
  refine call_pf (awake14) ?_
  simp [go_sem, hcl, hct]
  refine call_pf (small_pf T hnm 5) ?_
  simp [go_sem]
  rcases smallCn T 5 with hz | ⟨hz, hc, hm, hp⟩ | ⟨hz, hc, hm, hp⟩
  rotate_left
  rotate_left
  rcases fenC T th a with f1 | ⟨f1, f2⟩ | ⟨j, l, rfl, hj, hx, f3 | ⟨f3, f4⟩ | ⟨f3, f4, f5⟩ | ⟨b, rfl, hbl, h7⟩⟩
  rotate_right
  rotate_right
  · simp [go_sem, hz]
    refine hK _ ?_; clear hK K
    refine cond_k rfl (fun h => ?_) (fun h => ?_)
    · clear h
      refine region_k T_ok (by decide) fun K hK => ?_
      simp [go_sem]
      refine call_pf (awake14) ?_
      simp [go_sem]
      refine hK _ ?_; clear hK K
      refine tr_ret ⟨.inr rfl, ?_⟩
      simp [go_sem]
    · simp at h
  · simp [go_sem, hz]
    refine call_pf (hasPairs_pf T (by have := (good_tt hc hwT).ths; omega) (thr_len (good_tt hc hwT))) ?_
    simp [go_sem, hp, hz]
    refine hK _ ?_; clear hK K
    refine cond_k rfl (fun h => ?_) (fun h => ?_)
    · clear h
      refine region_k T_ok (by decide) fun K hK => ?_
      simp [go_sem]
      refine call_pf (awake14) ?_
      simp [go_sem]
      refine hK _ ?_; clear hK K
      refine tr_ret ⟨.inr rfl, ?_⟩
      simp [go_sem]
    · simp at h
  · simp [go_sem, hz]
    refine call_pf (hasPairs_pf T (by have := (good_tt hc hwT).ths; omega) (thr_len (good_tt hc hwT))) ?_
    simp [go_sem, hp, hz, f1]
    refine hK _ ?_; clear hK K
    refine cond_k rfl (fun h => ?_) (fun h => ?_)
    · clear h
      refine region_k T_ok (by decide) fun K hK => ?_
      simp [go_sem]
      refine call_pf (awake14) ?_
      simp [go_sem]
      refine hK _ ?_; clear hK K
      refine tr_ret ⟨.inr rfl, ?_⟩
      simp [go_sem]
    · simp at h
  · simp [go_sem, hz]
    refine call_pf (hasPairs_pf T (by have := (good_tt hc hwT).ths; omega) (thr_len (good_tt hc hwT))) ?_
    simp [go_sem, hp, hz, f1, f2, Tst.cs]
    refine hK _ ?_; clear hK K
    refine cond_k rfl (fun h => ?_) (fun h => ?_)
    · clear h
      refine region_k T_ok (by decide) fun K hK => ?_
      simp [go_sem]
      refine call_pf (awake14) ?_
      simp [go_sem]
      refine hK _ ?_; clear hK K
      refine tr_ret ⟨.inr rfl, ?_⟩
      simp [go_sem]
    · simp at h
  · have hjI : (j : Int) < (T.ths.length : Nat) := by omega
    have hj0 : ¬ (j : Int) < 0 := by omega
    have hj1 : ¬ ((T.ths.length : Nat) : Int) ≤ (j : Nat) := by omega
    have hj2 : (0 : Int) ≤ (j : Nat) := by omega
    have hx' : T.ths[j] = l := (List.getElem?_eq_some_iff.1 hx).2
    simp [go_sem, hz]
    refine call_pf (hasPairs_pf T (by have := (good_tt hc hwT).ths; omega) (thr_len (good_tt hc hwT))) ?_
    simp [go_sem, hp, hz, hjI, hj0, hj1, hj2, hj, hx, hx', Tst.cs, f3]
    refine hK _ ?_; clear hK K
    refine cond_k rfl (fun h => ?_) (fun h => ?_)
    · clear h
      refine region_k T_ok (by decide) fun K hK => ?_
      simp [go_sem]
      refine call_pf (awake14) ?_
      simp [go_sem]
      refine hK _ ?_; clear hK K
      refine tr_ret ⟨.inr rfl, ?_⟩
      simp [go_sem]
    · simp at h
  · have hjI : (j : Int) < (T.ths.length : Nat) := by omega
    have hj0 : ¬ (j : Int) < 0 := by omega
    have hj1 : ¬ ((T.ths.length : Nat) : Int) ≤ (j : Nat) := by omega
    have hj2 : (0 : Int) ≤ (j : Nat) := by omega
    have hx' : T.ths[j] = l := (List.getElem?_eq_some_iff.1 hx).2
    simp [go_sem, hz]
    refine call_pf (hasPairs_pf T (by have := (good_tt hc hwT).ths; omega) (thr_len (good_tt hc hwT))) ?_
    simp [go_sem, hp, hz, hjI, hj0, hj1, hj2, hj, hx, hx', Tst.cs, f3, f4]
    refine hK _ ?_; clear hK K
    refine cond_k rfl (fun h => ?_) (fun h => ?_)
    · clear h
      refine region_k T_ok (by decide) fun K hK => ?_
      simp [go_sem]
      refine call_pf (awake14) ?_
      simp [go_sem]
      refine hK _ ?_; clear hK K
      refine tr_ret ⟨.inr rfl, ?_⟩
      simp [go_sem]
    · simp at h
  · have hjI : (j : Int) < (T.ths.length : Nat) := by omega
    have hj0 : ¬ (j : Int) < 0 := by omega
    have hj1 : ¬ ((T.ths.length : Nat) : Int) ≤ (j : Nat) := by omega
    have hj2 : (0 : Int) ≤ (j : Nat) := by omega
    have hx' : T.ths[j] = l := (List.getElem?_eq_some_iff.1 hx).2
    simp [go_sem, hz]
    refine call_pf (hasPairs_pf T (by have := (good_tt hc hwT).ths; omega) (thr_len (good_tt hc hwT))) ?_
    simp [go_sem, hp, hz, hjI, hj0, hj1, hj2, hj, hx, hx', Tst.cs, f3, f4, f5]
    refine hK _ ?_; clear hK K
    refine cond_k rfl (fun h => ?_) (fun h => ?_)
    · clear h
      refine region_k T_ok (by decide) fun K hK => ?_
      simp [go_sem]
      refine call_pf (awake14) ?_
      simp [go_sem]
      refine hK _ ?_; clear hK K
      refine tr_ret ⟨.inr rfl, ?_⟩
      simp [go_sem]
    · simp at h
  · have hjI : (j : Int) < (T.ths.length : Nat) := by omega
    have hj0 : ¬ (j : Int) < 0 := by omega
    have hj1 : ¬ ((T.ths.length : Nat) : Int) ≤ (j : Nat) := by omega
    have hj2 : (0 : Int) ≤ (j : Nat) := by omega
    have hx' : T.ths[j] = l := (List.getElem?_eq_some_iff.1 hx).2
    have g1 : ¬ (b : Int) < 0 := by omega
    have g2 : ¬ (l.length : Int) < (b : Nat) := by omega
    have g3 : ¬ 7 < (l.length : Int) := by omega
    have g0 : (0 : Int) ≤ (b : Nat) := by omega
    have gb : (b : Int) ≤ (l.length : Nat) := by omega
    simp [go_sem, hz]
    refine call_pf (hasPairs_pf T (by have := (good_tt hc hwT).ths; omega) (thr_len (good_tt hc hwT))) ?_
    simp [go_sem, hp, hz, hjI, hj0, hj1, hj2, hj, hx, hx', Tst.cs, g1, g2, g3]
    refine hK _ ?_; clear hK K
    refine cond_k rfl (fun h => ?_) (fun h => ?_)
    · simp at h
    · clear h
      refine tr_skip ?_
      refine hK1 _ ?_; try clear hK1 K1
      have hTT := good_tt hc hwT
      have hfe := ends_few hTT (by omega)
      refine region_k T_ok (by decide) fun K hK => ?_
      simp [go_sem, hjI, hj0, hj2, hj, hx, hx', Tst.cs]
      refine hK _ ?_; clear hK K
      refine seq_k fun K2 hK2 => ?_
      refine region_k T_ok (by decide) fun K hK => ?_
      simp [go_sem, g0, gb, hbl]
      refine hK _ ?_; clear hK K
      refine tr_block ?_
      refine loop_p (α := Nat × Nat) (fun i => ⟨127, [(1, iV (j : Nat)), (2, iV (b : Nat)), (3, .rp T.cs 0), (6, bV false), (7, .ro 13 (inss l)), (69, .ro 13 (inss (l.take b))), (70, iV (b : Nat)), (71, iV (i.1 : Nat))], [], i.2⟩) (fun i => i.1 ≤ b ∧ ∀ p x, p < i.1 → l[p]? = some x → x.op ≤ 15) (fun i => b - i.1) (0, 1) ?_ ?_ ?_
      · exact ⟨Nat.zero_le _, fun p x h => absurd h (Nat.not_lt_zero _)⟩
      · refine Weaker.fz 1 0 ?_ ?_ ?_
        · simp [go_sem, hbl, Tst.cs]
        · first | (simp; done) | (simp; omega)
        · simp [go_sem]
      rintro ⟨i, j2⟩ ⟨hi, hop⟩
      dsimp only at hi hop ⊢
      refine region_k T_ok (by decide) fun K hK => ?_
      simp [go_sem]
      refine hK _ ?_; clear hK K
      refine seq_k fun K3 hK3 => ?_
      refine cond_k rfl (fun h => ?_) (fun h => ?_)
      · simp at h
        have hin : i < b := by omega
        clear h
        have hinI : (i : Int) < (b : Nat) := by omega
        obtain ⟨x, hg, hg'⟩ := getAt (show i < l.length by omega)
        have hi0 : (0 : Int) ≤ (i : Nat) := by omega
        have hil : i < l.length := by omega
        have hw : IntKind.i64.wrap ((i : Nat) + 1) = (i : Nat) + 1 := wrap_i64 (by omega) (by omega)
        refine tr_skip ?_
        refine hK3 _ ?_; try clear hK3 K3
        refine seq_k fun K4 hK4 => ?_
        refine tr_block ?_
        refine region_k T_ok (by decide) fun K hK => ?_
        simp [go_sem, hin, hinI, hg, hg', hi0, hil, insC, len_ins, fits_ins]
        refine ⟨by omega, ?_⟩
        refine hK _ ?_; clear hK K
        refine region_k T_ok (by decide) fun K hK => ?_
        simp [go_sem, insC]
        refine hK _ ?_; clear hK K
        refine cond_k rfl (fun h => ?_) (fun h => ?_)
        · clear h
          refine region_k T_ok (by decide) fun K hK => ?_
          simp [go_sem]
          refine call_pf (awake14) ?_
          simp [go_sem]
          refine hK _ ?_; clear hK K
          refine tr_ret ⟨.inr rfl, ?_⟩
          simp [go_sem]
        · have hx15 : x.op ≤ 15 := by simpa using h
          refine tr_skip ?_
          refine hK4 _ ?_; try clear hK4 K4
          refine region_e T_ok (by decide) fun K hK => ?_
          simp [go_sem, hw]
          refine hK _ ?_; clear hK K
          refine ⟨(i + 1, j2 + 1), ?_, ?_, ?_⟩
          · dsimp only
            refine ⟨by omega, fun p y hp hy => ?_⟩
            by_cases e : p = i
            · subst e; rw [hg] at hy; cases hy; omega
            · exact hop p y (by omega) hy
          · dsimp only; omega
          · refine Weaker.fz 1 0 ?_ ?_ ?_
            · simp [go_sem]
            · first | (simp; done) | (simp; omega)
            simp [go_sem]
      · simp at h
        obtain rfl : i = b := by omega
        clear h
        have hlt := lth_at hx
        have hTF := fenced_ok hj (by rw [hlt]; exact hbl) hTT (by rw [hlt]; exact h7)
        have hpp := fenced_pairs (b := i) hj hp
        have hff := fenced_few hj (by rw [hlt]; exact hbl) hTT (by rw [hlt]; exact h7) (by omega)
        have hsub := fenced_ends hTT hj (by rw [hlt]; exact hbl) (by rw [hlt]; exact h7) (by rw [hlt]; exact hop)
        have hpos := setOf_pos hTF
        have hposI : (0 : Int) < ((setOf (tsoEnds (fencedT T j i))).length : Nat) := by omega
        have hjL : j < (thrs T.ths).length := by rw [thrs_len]; exact hj
        refine tr_exit ?_
        refine hK2 _ ?_; try clear hK2 K2
        refine region_k T_ok (by decide) fun K hK => ?_
        simp [go_sem, Tst.cs]
        refine hK _ ?_; clear hK K
        refine region_k T_ok (by decide) fun K hK => ?_
        simp [go_sem, Tst.cs]
        refine ⟨by have := hTT.ths; omega, ?_⟩
        refine hK _ ?_; clear hK K
        refine draw_k T_ok (by kernel_rfl) 15 [[], [0], [], [], [], [], [4, 5], [3, 4, 5, 6], [], [8], [3, 4, 5, 6, 7, 8, 9], [], [], [11, 12], [3, 4, 5, 6, 7, 8, 9, 10, 11, 12, 13], [0, 1, 2, 3, 4, 5, 6, 7, 8, 9, 10, 11, 12, 13, 14], [0, 1, 2, 3, 4, 5, 6, 7, 8, 9, 10, 11, 12, 13, 14, 15]] [(0, 3), (1, 3), (2, 3), (3, 4), (3, 5), (3, 6), (0, 7), (1, 7), (2, 7), (3, 8), (7, 8), (0, 9), (1, 9), (2, 9), (3, 9), (4, 9), (5, 9), (6, 9), (7, 9), (0, 10), (1, 10), (2, 10), (3, 11), (7, 11), (9, 11), (10, 11), (3, 12), (7, 12), (9, 12), (10, 12), (3, 13), (7, 13), (9, 13), (10, 13), (0, 14), (1, 14), (2, 14)] (by decide) (by decide) (by decide) fun K hK => ?_
        first | dsimp only [List.take, List.drop] | dsimp [List.take, List.drop]
        simp [go_sem, hjI, hj0, hj2, hj, hx, hx', g0, gb, hbl]
        refine ⟨by omega, by omega, by omega, ?_⟩
        have hl1 : List.take (i + 1) (inss (List.take i (List.take i l)) ++ [V.agg [iV 15, iV 0, iV 0, bV false, uV 0, bV false, uV 0, bV false, bV false, iV 0, iV 2, iV 1, iV 0]]) ++ inss (List.take (l.length - i) (List.drop i l)) = inss (fenL l i) := by
          rw [List.take_of_length_le (by simp [inss_len]; omega), List.take_take, Nat.min_self, List.take_of_length_le (l := List.drop i l) (by simp), ← fen_inss]
          simp; rfl
        rw [hl1]
        have hl2 : i + 1 + (l.length - i) = l.length + 1 := by omega
        rw [hl2]
        have hl3 := fenL_len hbl
        have hl4 : List.take (l.length + 1) (inss (fenL l i)) = inss (fenL l i) := List.take_of_length_le (by rw [inss_len, hl3]; omega)
        generalize hn1 : j2 + 1 + 1 + 1 + 1 + 1 + 1 + 1 + 1 + 1 + 1 + 1 + 1 + 1 + 1 + 1 + 1 + 1 = nm
        generalize hn3 : j2 + 1 + 1 + 1 + 1 + 1 + 1 + 1 + 1 + 1 + 1 + 1 + 1 = n3
        generalize hn2 : j2 + 1 + 1 = n2
        have q7 : ¬ j2 = n3 := by omega
        have q8 : ¬ n2 = n3 := by omega
        have q9 : ¬ n3 = n2 := by omega
        have q10 : ¬ n3 = j2 := by omega
        have q1 : ¬ nm = n2 := by omega
        have q2 : ¬ nm = j2 := by omega
        have q3 : ¬ n2 = j2 := by omega
        have q4 : ¬ n2 = nm := by omega
        have q5 : ¬ j2 = nm := by omega
        have q6 : ¬ j2 = n2 := by omega
        have hfc : (fencedT T j i).cs = [.ro 2 (inis T.locs), .ro 1 (thrs (T.ths.set j (fenL l i))), .ro 3 (atms T.asks)] := by rw [fenced_cs, hlt]
        have htl : List.take T.ths.length (T.ths.set j (fenL l i)) = T.ths.set j (fenL l i) := List.take_of_length_le (by simp)
        refine hK _ ?_; clear hK K
        refine Tr.weaken (Weaker.fz (H' := [(j2, .rows 3 [.agg [.ro 2 (inis T.locs), .sl n2 0 T.ths.length, .ro 3 (atms T.asks)]]), (n2, .rows 1 (thrs (T.ths.set j (fenL l i))))]) (t' := [(3, .rp T.cs 0), (10, .ptr j2 0 0), (6, bV false)]) 1 1 ?_ ?_ ?_) ?_
        · simp [go_sem, Tst.cs, q1, q2, q3, q4, q5, q6, q7, q8, q9, q10]
        · simp [q1, q2, q3, q4, q5, q6, q7, q8, q9, q10]
        · simp [go_sem, q1, q2, q3, q4, q5, q6, q7, q8, q9, q10, hl3, hl4, thrs_set]
        clear hl1
        refine Tr.weaken (Weaker.fz (H' := []) (t' := [(3, .rp T.cs 0), (10, .rp (fencedT T j i).cs 0), (6, bV false)]) 2 0 ?_ ?_ ?_) ?_
        · simp [go_sem, hfc, htl, q1, q2, q3, q4, q5, q6, q7, q8, q9, q10]
        · simp
        · simp
        refine region_k T_ok (by decide) fun K hK => ?_
        simp [go_sem]
        refine call_pf (tso_pf T hTT hp hfe) ?_
        simp [go_sem]
        refine hK _ ?_; clear hK K
        refine region_k T_ok (by decide) fun K hK => ?_
        simp [go_sem]
        refine call_pf (tso_pf (fencedT T j i) hTF hpp hff) ?_
        simp [go_sem]
        refine hK _ ?_; clear hK K
        refine region_k T_ok (by decide) fun K hK => ?_
        simp [go_sem]
        refine call_pf (awake14) ?_
        simp [go_sem, hpos, hposI]
        refine call_pf (within_pf _ (set41 hTF) (by rw [setLen hTF]; exact hff) _ (set41 hTT) (rising_setOf _) (by rw [setLen hTT]; exact hfe)) ?_
        simp [go_sem, sub_set hsub, hpos, hposI]
        refine hK _ ?_; clear hK K
        refine tr_ret ⟨.inr rfl, ?_⟩
        simp [go_sem]

end Go.Proofs.Ytflooghnoljpcaa
/- What the readings of litmus tests say. -/
namespace Go.Proofs.Ytflooghnoljpcaa
open Go Go.Sl Go.Proofs.Try

theorem ownKnob16 : ownKnob Try.prog.godebug = none := by kernel_rfl
theorem laidOut16 : laidOutB Try.prog = true := by kernel_rfl
theorem ImpAs.to {P : Program} {t : TypeId} {α β : Type} {ok : α → Prop} {f : α → List V} {ok' : β → Prop} {f' : β → List V} (φ : α → β) (h : ImpAs P t ok f) (hok : ∀ a, ok a → ok' (φ a)) (hs : ∀ a, ok a → SeenAll (f a) (f' (φ a))) (hnl : ∀ b, NLs (f' b))
    (hone : ∀ b, (f' b).all V.one = true) (hlen : ∀ b, (f' b).length = P.cellsOf t) : ImpAs P t ok' f' where
  nl := hnl
  one b _ := hone b
  len b _ := hlen b
  imp hr := by
    obtain ⟨a, ha, hv⟩ := h.imp hr
    exact ⟨φ a, hok a ha, (hs a ha).rels hv⟩

/-- a slice, nil or not -/
theorem imp_list {P : Program} {t e : TypeId} {α : Type} {ok : α → Prop} {f : α → List V} {sz : Nat} (el : α → V) (ht : P.underlying t = some (.slice e)) (hc : P.cellsOf t = 1) (hsz : P.cellsOf e = sz) (hpos : 0 < sz) (hel : ∀ a, (el a).cells = f a) (hnl : ∀ a, NLs (el a).cells)
    (h : ImpAs P e ok f) : ImpAs P t (fun l : List α => l.length ≤ maxLen ∧ ∀ a ∈ l, ok a) fun l => [V.ro sz (l.map el)] :=
  ImpAs.to (fun o : Option (List α) => o.getD []) (imp_slice el ht hc hsz hpos (fun a _ => hel a) hnl h)
    (fun o ho => by cases o with | none => exact ⟨Nat.zero_le _, fun a ha => absurd ha (List.not_mem_nil)⟩ | some l => exact ho l rfl)
    (fun o ho => .cons (seen_slice sz el o) .nil)
    (fun l => .cons (.ro fun v hv => by obtain ⟨a, _, rfl⟩ := List.mem_map.1 hv; exact hnl a) .nil) (fun l => rfl) (fun l => hc.symm)

theorem iI : ImpAs Try.prog 3 (fun n : Int => (Lit.int .i64 n).wf = true) fun n => [.val (.int .i64 n)] := imp_int Try.underlying3 (by kernel_rfl)
theorem iB : ImpAs Try.prog 4 (fun _ : Bool => True) fun b => [.val (.bool b)] := imp_bool Try.underlying4 (by kernel_rfl)
theorem iU : ImpAs Try.prog 64 (fun n : Int => (Lit.int .u64 n).wf = true) fun n => [.val (.int .u64 n)] := imp_int Try.underlying64 (by kernel_rfl)
set_option maxRecDepth 100000 in
theorem imp_arg : ImpAs Try.prog 66 (fun p : Bool × Int => True ∧ (Lit.int .u64 p.2).wf = true) fun p => [.val (.bool p.1)] ++ [.val (.int .u64 p.2)] :=
  imp_struct (tot := 2) Try.underlying66 (by kernel_rfl) (impF_cons rfl (o' := 1) (by kernel_rfl) (imp_bool Try.underlying4 (by kernel_rfl)) (impF_last rfl (by kernel_rfl) (imp_int Try.underlying64 (by kernel_rfl))))

set_option maxRecDepth 100000 in
theorem imp_ins : ImpAs Try.prog 68 (fun _ : Ins => True) Ins.cs :=
  ImpAs.to (fun p : Int × Int × Int × (Bool × Int) × (Bool × Int) × Bool × Bool × Int × Int × Int × Int => ⟨p.1, p.2.1, p.2.2.1, p.2.2.2.1.1, p.2.2.2.1.2, p.2.2.2.2.1.1, p.2.2.2.2.1.2, p.2.2.2.2.2.1, p.2.2.2.2.2.2.1, p.2.2.2.2.2.2.2.1, p.2.2.2.2.2.2.2.2.1, p.2.2.2.2.2.2.2.2.2.1, p.2.2.2.2.2.2.2.2.2.2⟩)
    (imp_struct (tot := 13) Try.underlying68 (by kernel_rfl) (impF_cons rfl (o' := 1) (by kernel_rfl) iI (impF_cons rfl (o' := 2) (by kernel_rfl) iI (impF_cons rfl (o' := 3) (by kernel_rfl) iI (impF_cons rfl (o' := 5) (by kernel_rfl) imp_arg (impF_cons rfl (o' := 7) (by kernel_rfl) imp_arg (impF_cons rfl (o' := 8) (by kernel_rfl) iB (impF_cons rfl (o' := 9) (by kernel_rfl) iB (impF_cons rfl (o' := 10) (by kernel_rfl) iI (impF_cons rfl (o' := 11) (by kernel_rfl) iI (impF_cons rfl (o' := 12) (by kernel_rfl) iI (impF_last rfl (by kernel_rfl) iI))))))))))))
    (fun _ _ => trivial) (fun p _ => SeenAll.refl _) nl_ins (fun _ => rfl) (fun _ => by kernel_rfl)

set_option maxRecDepth 100000 in
theorem imp_atm : ImpAs Try.prog 147 (fun _ : Atm => True) Atm.cs :=
  ImpAs.to (fun p : Int × Int × Int => ⟨p.1, p.2.1, p.2.2⟩)
    (imp_struct (tot := 3) Try.underlying147 (by kernel_rfl) (impF_cons rfl (o' := 1) (by kernel_rfl) iI (impF_cons rfl (o' := 2) (by kernel_rfl) iI (impF_last rfl (by kernel_rfl) iU))))
    (fun _ _ => trivial) (fun p _ => SeenAll.refl _) nl_atm (fun _ => rfl) (fun _ => by kernel_rfl)

def iniOk (x : Ini) : Prop := x.name.size ≤ 9223372036854775807
set_option maxRecDepth 100000 in
theorem imp_ini : ImpAs Try.prog 73 iniOk Ini.cs :=
  ImpAs.to (fun p : ByteArray × Int => ⟨p.1, p.2⟩)
    (imp_struct (tot := 2) Try.underlying73 (by kernel_rfl) (impF_cons rfl (o' := 1) (by kernel_rfl) (imp_string Try.underlying9 (by kernel_rfl)) (impF_last rfl (by kernel_rfl) iU)))
    (fun p h => h.1) (fun p _ => SeenAll.refl _) nl_ini (fun _ => rfl) (fun _ => by kernel_rfl)

theorem imp_inis : ImpAs Try.prog 55 (fun l : List Ini => l.length ≤ maxLen ∧ ∀ a ∈ l, iniOk a) fun l => [V.ro 2 (inis l)] := imp_list iniC Try.underlying55 (by kernel_rfl) (by kernel_rfl) (by omega) (fun _ => rfl) nl_ini imp_ini
theorem imp_atms : ImpAs Try.prog 57 (fun l : List Atm => l.length ≤ maxLen ∧ ∀ a ∈ l, True) fun l => [V.ro 3 (atms l)] := imp_list atmC Try.underlying57 (by kernel_rfl) (by kernel_rfl) (by omega) (fun _ => rfl) nl_atm imp_atm
theorem imp_inss : ImpAs Try.prog 63 (fun l : List Ins => l.length ≤ maxLen ∧ ∀ a ∈ l, True) fun l => [V.ro 13 (inss l)] := imp_list insC Try.underlying63 (by kernel_rfl) (by kernel_rfl) (by omega) (fun _ => rfl) nl_ins imp_ins
theorem imp_thrs : ImpAs Try.prog 56 (fun l : List (List Ins) => l.length ≤ maxLen ∧ ∀ a ∈ l, a.length ≤ maxLen ∧ ∀ b ∈ a, True) fun l => [V.ro 1 (thrs l)] :=
  imp_list (fun x => .ro 13 (inss x)) Try.underlying56 (by kernel_rfl) (by kernel_rfl) (by omega) (fun _ => rfl) (fun x => .cons (nl_inss x) .nil) imp_inss

def tstOk (t : Tst) : Prop := ∀ l ∈ t.locs, iniOk l
set_option maxRecDepth 100000 in
theorem imp_tst : ImpAs Try.prog 59 tstOk Tst.cs :=
  ImpAs.to (fun p : List Ini × List (List Ins) × List Atm => ⟨p.1, p.2.1, p.2.2⟩)
    (imp_struct (tot := 3) Try.underlying59 (by kernel_rfl) (impF_cons rfl (o' := 1) (by kernel_rfl) imp_inis (impF_cons rfl (o' := 2) (by kernel_rfl) imp_thrs (impF_last rfl (by kernel_rfl) imp_atms))))
    (fun p h => h.1.2) (fun p _ => SeenAll.refl _) nl_tst (fun _ => rfl) (fun _ => by kernel_rfl)

end Go.Proofs.Ytflooghnoljpcaa
/- What the readings of litmus tests and of what is given to flow say, with the bounds of their numbers. -/
namespace Go.Proofs.Ytflooghnoljpcaa
open Go Go.Sl Go.Proofs.Try

set_option maxRecDepth 100000 in
theorem imp_ins2 : ImpAs Try.prog 68 insWf Ins.cs :=
  ImpAs.to (fun p : Int × Int × Int × (Bool × Int) × (Bool × Int) × Bool × Bool × Int × Int × Int × Int => ⟨p.1, p.2.1, p.2.2.1, p.2.2.2.1.1, p.2.2.2.1.2, p.2.2.2.2.1.1, p.2.2.2.2.1.2, p.2.2.2.2.2.1, p.2.2.2.2.2.2.1, p.2.2.2.2.2.2.2.1, p.2.2.2.2.2.2.2.2.1, p.2.2.2.2.2.2.2.2.2.1, p.2.2.2.2.2.2.2.2.2.2⟩)
    (imp_struct (tot := 13) Try.underlying68 (by kernel_rfl) (impF_cons rfl (o' := 1) (by kernel_rfl) iI (impF_cons rfl (o' := 2) (by kernel_rfl) iI (impF_cons rfl (o' := 3) (by kernel_rfl) iI (impF_cons rfl (o' := 5) (by kernel_rfl) imp_arg (impF_cons rfl (o' := 7) (by kernel_rfl) imp_arg (impF_cons rfl (o' := 8) (by kernel_rfl) iB (impF_cons rfl (o' := 9) (by kernel_rfl) iB (impF_cons rfl (o' := 10) (by kernel_rfl) iI (impF_cons rfl (o' := 11) (by kernel_rfl) iI (impF_cons rfl (o' := 12) (by kernel_rfl) iI (impF_last rfl (by kernel_rfl) iI))))))))))))
    (fun p h => by
      have h1 := bounds_u64 h.2.2.2.1.2
      have h2 := bounds_u64 h.2.2.2.2.1.2
      exact ⟨⟨h1.1, by have := h1.2; dsimp only; omega⟩, h2.1, by have := h2.2; dsimp only; omega⟩) (fun p _ => SeenAll.refl _) nl_ins (fun _ => rfl) (fun _ => by kernel_rfl)
theorem imp_inss2 : ImpAs Try.prog 63 (fun l : List Ins => l.length ≤ maxLen ∧ ∀ a ∈ l, insWf a) fun l => [V.ro 13 (inss l)] := imp_list insC Try.underlying63 (by kernel_rfl) (by kernel_rfl) (by omega) (fun _ => rfl) nl_ins imp_ins2
theorem imp_thrs2 : ImpAs Try.prog 56 (fun l : List (List Ins) => l.length ≤ maxLen ∧ ∀ a ∈ l, a.length ≤ maxLen ∧ ∀ b ∈ a, insWf b) fun l => [V.ro 1 (thrs l)] :=
  imp_list (fun x => .ro 13 (inss x)) Try.underlying56 (by kernel_rfl) (by kernel_rfl) (by omega) (fun _ => rfl) (fun x => .cons (nl_inss x) .nil) imp_inss2
set_option maxRecDepth 100000 in
theorem imp_tst2 : ImpAs Try.prog 59 (fun t => tstOk t ∧ tstWf t) Tst.cs :=
  ImpAs.to (fun p : List Ini × List (List Ins) × List Atm => ⟨p.1, p.2.1, p.2.2⟩)
    (imp_struct (tot := 3) Try.underlying59 (by kernel_rfl) (impF_cons rfl (o' := 1) (by kernel_rfl) imp_inis (impF_cons rfl (o' := 2) (by kernel_rfl) imp_thrs2 (impF_last rfl (by kernel_rfl) imp_atms))))
    (fun p h => ⟨h.1.2, fun l hl x hx => (h.2.1.2 l hl).2 x hx⟩) (fun p _ => SeenAll.refl _) nl_tst (fun _ => rfl) (fun _ => by kernel_rfl)
def vlWf (x : Vl) : Prop := 0 ≤ x.v ∧ x.v < 18446744073709551616
set_option maxRecDepth 100000 in
theorem imp_val0 : ImpAs Try.prog 78 (fun p : Bool × Int => True ∧ (Lit.int .u64 p.2).wf = true) fun p => [.val (.bool p.1)] ++ [.val (.int .u64 p.2)] :=
  imp_struct (tot := 2) Try.underlying78 (by kernel_rfl) (impF_cons rfl (o' := 1) (by kernel_rfl) (imp_bool Try.underlying4 (by kernel_rfl)) (impF_last rfl (by kernel_rfl) (imp_int Try.underlying64 (by kernel_rfl))))
theorem imp_val : ImpAs Try.prog 78 vlWf fun x : Vl => [bV x.k, uV x.v] :=
  ImpAs.to (fun p : Bool × Int => ⟨p.1, p.2⟩) imp_val0 (fun p h => by have := bounds_u64 h.2; exact ⟨this.1, by have := this.2; dsimp only; omega⟩) (fun p _ => SeenAll.refl _) (fun x => .cons (.val _) (.cons (.val _) .nil)) (fun _ => rfl) (fun _ => by kernel_rfl)
theorem imp_vls : ImpAs Try.prog 79 (fun l : List Vl => l.length ≤ maxLen ∧ ∀ a ∈ l, vlWf a) fun l => [V.ro 2 (vls l)] := imp_list vlC Try.underlying79 (by kernel_rfl) (by kernel_rfl) (by omega) (fun _ => rfl) (fun x => .cons (.val _) (.cons (.val _) .nil)) imp_val
theorem imp_bvs : ImpAs Try.prog 80 (fun l : List Bool => l.length ≤ maxLen ∧ ∀ a ∈ l, True) fun l => [V.ro 1 (bVs l)] := imp_list bV Try.underlying80 (by kernel_rfl) (by kernel_rfl) (by omega) (fun _ => rfl) (fun x => .cons (.val _) .nil) iB
theorem imp_uvs : ImpAs Try.prog 81 (fun l : List Int => l.length ≤ maxLen ∧ ∀ a ∈ l, (Lit.int .u64 a).wf = true) fun l => [V.ro 1 (uVs l)] := imp_list uV Try.underlying81 (by kernel_rfl) (by kernel_rfl) (by omega) (fun _ => rfl) (fun x => .cons (.val _) .nil) iU

end Go.Proofs.Ytflooghnoljpcaa
namespace Go.Proofs.Ytflooghnoljpcaa
open Go Go.Sl Go.Proofs.Try

set_option maxRecDepth 100000 in
theorem tsoFenced_lifted (os : Os) (started : os.Started) (H : Type) (enc : TypeId × Value → H) :
    ReturnsInHanded {} Try.checked os 15 .any (Rows.tsoFencedSpec.pre6 enc Try.prog Try.f15 Rows.tsoFencedRow.domain false) (Rows.tsoFencedSpec.post enc Try.prog Try.f15 false true false false) := by
  refine law_lifted (C := Try.checked) (rt := 4) ownKnob16 started (by kernel_rfl) Try.func15 laidOut16 (by kernel_rfl) (by kernel_rfl) Try.underlying4 rfl ?_
    (ChangeSpec.witness6 (enc := enc) (C := Try.checked) false ⟨#[], #[.agg #[.slice none 0 0, .slice none 0 0, .slice none 0 0], .int .i64 0, .int .i64 0], []⟩ 16 (by kernel_rfl) (by kernel_rfl) (by kernel_rfl) (by kernel_rfl))
    (α := Tst × Int × Int × Unit) (ok := fun a => (tstOk a.1 ∧ tstWf a.1) ∧ (Lit.int .i64 a.2.1).wf = true ∧ (Lit.int .i64 a.2.2.1).wf = true ∧ True) (g := fun a => [.agg a.1.cs, iV a.2.1, iV a.2.2.1]) ?_ ?_
  · intro H ds hds
    have : Try.f15.params.size = 3 := by kernel_rfl
    rw [this] at hds
    match ds, hds with
    | [_, _, _], _ => rfl
  · rw [Try.params15]
    exact args_agg (by rw [Try.underlying59]) imp_tst2 (args_one (by rw [Try.underlying3]) iI (args_one (by rw [Try.underlying3]) iI args_nil))
  · rintro ⟨t, th, a, _⟩ ⟨⟨ht, hw⟩, _⟩
    exact tsoFenced_pf t th a ht hw

theorem tsoFenced_over : Rows.tsoFencedRow.holds Try.pinned (OpenSpec.ofChange Rows.tsoFencedSpec) :=
  OpenClaim.holds_of_wide 15 Try.f15 rfl rfl rfl rfl rfl rfl rfl ⟨rfl, rfl, rfl, rfl, rfl⟩ rfl rfl rfl rfl rfl (by kernel_rfl) Try.func15 (by kernel_rfl)
    (of_decide_eq_true (by kernel_rfl)) (by unfold Func.isWrapper; first | (rw [if_pos (by decide +kernel)]; kernel_rfl) | (rw [if_neg (by decide +kernel)]; exact ⟨rfl, rfl⟩))
    (fun os started H enc _ => tsoFenced_lifted os started H enc)

/-- The row. -/
theorem tsoFenced_holds : Rows.TsoFencedSaid := tsoFenced_over
#print axioms tsoFenced_holds

end Go.Proofs.Ytflooghnoljpcaa
