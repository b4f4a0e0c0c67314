/- Litmus tests: the walk of blank of the package litmus. -/
import Derived.Test.YtokdphmnlcmbbaaGlita
import Derived.Test.YtokdphmnlcmbbaaW10
set_option linter.unusedVariables false
set_option linter.unusedSimpArgs false
namespace Go.Proofs.Ytokdphmnlcmbbaa
open Go Go.Sl Go.Proofs.Try

set_option maxRecDepth 100000 in
set_option maxHeartbeats 8000000 in
theorem blank_pf (x : Ins) : Pf Try.prog 41 [insC x] (insC (blankI x)) := by
  refine Pf.of_fn (.cons (nl_insC x) .nil) (nl_insC _) ?_
  refine fn_in T_ok func41 rfl rfl ntmps41 rfl (by simp) ?_
  refine region_k T_ok (by decide) fun K hK => ?_
  simp [go_sem, insC]
  refine hK _ ?_; clear hK K
  refine region_k T_ok (by decide) fun K hK => ?_
  simp [go_sem]
  refine hK _ ?_; clear hK K
  refine seq_to ⟨78, [(1, .ptr 0 0 0), (2, .ptr 1 0 0), (3, .ptr 2 0 0)], [(0, .rows 13 [.agg x.cs]), (1, .rows 13 [.agg [iV 0, iV 0, iV 0, bV false, uV 0, bV false, uV 0, bV false, bV false, iV 0, iV 0, iV 0, iV 0]]), (2, .rows 13 [.agg [iV x.op, iV (if setB x.op = true then x.rd else 0), iV 0, bV false, uV 0, bV false, uV 0, bV false, bV false, iV 0, iV 0, iV 0, iV 0]])], 3⟩ ?_ ?_
  · skip
    refine region_k T_ok (by decide) fun K hK => ?_
    simp [go_sem]
    refine call_pf (sets_pf x) ?_
    simp [go_sem]
    refine hK _ ?_; clear hK K
    refine cond_k rfl (fun h => ?_) (fun h => ?_)
    · have hs := h
      refine region_e T_ok (by decide) fun K hK => ?_
      simp [go_sem]
      refine hK _ ?_; clear hK K
      refine Weaker.fzk 1 0 (by omega) ?_ ?_ ?_
      · simp [go_sem, hs]
      · first | (simp; done) | (simp; omega)
      · simp [go_sem, hs]
    · have hs := h
      refine tr_skip ?_
      refine Weaker.fzk 1 0 (by omega) ?_ ?_ ?_
      · simp [go_sem, hs]
      · first | (simp; done) | (simp; omega)
      · simp [go_sem, hs]
  · skip
    refine seq_to ⟨78, [(1, .ptr 0 0 0), (2, .ptr 1 0 0), (3, .ptr 2 0 0)], [(0, .rows 13 [.agg x.cs]), (1, .rows 13 [.agg [iV 0, iV 0, iV 0, bV false, uV 0, bV false, uV 0, bV false, bV false, iV 0, iV 0, iV 0, iV 0]]), (2, .rows 13 [.agg [iV x.op, iV (if setB x.op = true then x.rd else 0), iV (if memB x.op = true then x.loc else 0), bV false, uV 0, bV false, uV 0, bV (memB x.op && x.acq), bV (memB x.op && x.rel), iV (if memB x.op = true then x.dep else 0), iV 0, iV 0, iV 0]])], 17⟩ ?_ ?_
    · skip
      refine region_k T_ok (by decide) fun K hK => ?_
      simp [go_sem]
      refine call_pf (ismem_pf x) ?_
      simp [go_sem]
      refine hK _ ?_; clear hK K
      refine cond_k rfl (fun h => ?_) (fun h => ?_)
      · have hm := h
        refine draw_e T_ok (by kernel_rfl) 14 [[], [0], [], [2], [], [4], [], [6], [0, 1], [0, 1, 8], [0, 1, 2, 3, 8, 9], [0, 1, 2, 3, 8, 9, 10], [0, 1, 2, 3, 4, 5, 8, 9, 10, 11], [0, 1, 2, 3, 4, 5, 8, 9, 10, 11, 12], [0, 1, 2, 3, 4, 5, 6, 7, 8, 9, 10, 11, 12, 13], [0, 1, 2, 3, 4, 5, 6, 7, 8, 9, 10, 11, 12, 13, 14]] [(2, 9), (3, 9), (4, 9), (5, 9), (6, 9), (7, 9), (4, 11), (5, 11), (6, 11), (7, 11), (6, 13), (7, 13)] (by decide) (by decide) (by decide) fun K hK => ?_
        first | dsimp only [List.take, List.drop] | dsimp [List.take, List.drop]
        simp [go_sem]
        refine hK _ ?_; clear hK K
        refine Weaker.fzk 1 0 (by omega) ?_ ?_ ?_
        · simp [go_sem, hm]
        · first | (simp; done) | (simp; omega)
        · simp [go_sem, hm]
      · have hm := h
        refine tr_skip ?_
        refine Weaker.fzk 1 0 (by omega) ?_ ?_ ?_
        · simp [go_sem, hm]
        · first | (simp; done) | (simp; omega)
        · simp [go_sem, hm]
    · skip
      refine seq_to ⟨78, [(1, .ptr 0 0 0), (2, .ptr 1 0 0), (3, .ptr 2 0 0)], [(0, .rows 13 [.agg x.cs]), (1, .rows 13 [.agg [iV 0, iV 0, iV 0, bV false, uV 0, bV false, uV 0, bV false, bV false, iV 0, iV 0, iV 0, iV 0]]), (2, .rows 13 [.agg [iV x.op, iV (if setB x.op = true then x.rd else 0), iV (if memB x.op = true then x.loc else 0), bV (useA x.op && x.aR), uV (if useA x.op = true then x.aN else 0), bV (useB x.op && x.bR), uV (if useB x.op = true then x.bN else 0), bV (memB x.op && x.acq), bV (memB x.op && x.rel), iV (if memB x.op = true then x.dep else 0), iV 0, iV 0, iV 0]])], 23⟩ ?_ ?_
      · skip
        refine tr_block ?_
        refine seq_to ⟨78, [(1, .ptr 0 0 0), (2, .ptr 1 0 0), (3, .ptr 2 0 0), (26, bV (use1 x.op))], [(0, .rows 13 [.agg x.cs]), (1, .rows 13 [.agg [iV 0, iV 0, iV 0, bV false, uV 0, bV false, uV 0, bV false, bV false, iV 0, iV 0, iV 0, iV 0]]), (2, .rows 13 [.agg [iV x.op, iV (if setB x.op = true then x.rd else 0), iV (if memB x.op = true then x.loc else 0), bV false, uV 0, bV false, uV 0, bV (memB x.op && x.acq), bV (memB x.op && x.rel), iV (if memB x.op = true then x.dep else 0), iV 0, iV 0, iV 0]])], 17⟩ ?_ ?_
        · skip
          refine region_k T_ok (by decide) fun K hK => ?_
          simp [go_sem]
          refine hK _ ?_; clear hK K
          refine cond_k rfl (fun h => ?_) (fun h => ?_)
          · simp at h
            have h1 : x.op = 1 := h
            refine tr_skip ?_
            refine Weaker.fzk 1 0 (by omega) ?_ ?_ ?_
            · simp [go_sem, use1, h1]
            · first | (simp; done) | (simp; omega)
            · simp [go_sem, use1, h1]
          · simp at h
            have h1 : ¬ x.op = 1 := h
            refine region_e T_ok (by decide) fun K hK => ?_
            simp [go_sem]
            refine call_pf (of_pf x) ?_
            simp [go_sem]
            refine hK _ ?_; clear hK K
            refine Weaker.fzk 1 0 (by omega) ?_ ?_ ?_
            · simp [go_sem, use1, h1]
            · first | (simp; done) | (simp; omega)
            · simp [go_sem, use1, h1]
        · skip
          refine cond_k rfl (fun h => ?_) (fun h => ?_)
          · have h1' : use1 x.op = true := h
            have h1 : True := trivial
            have hab' : True := trivial
            refine region_e T_ok (by decide) fun K hK => ?_
            simp [go_sem]
            refine hK _ ?_; clear hK K
            refine Weaker.fzk 1 0 (by omega) ?_ ?_ ?_
            · simp [go_sem, h1, h1', hab', useA, useB]
            · first | (simp; done) | (simp; omega)
            · simp [go_sem, h1, h1', hab', useA, useB]
          · have h1' : use1 x.op = false := h
            have h1 : True := trivial
            refine seq_to ⟨78, [(1, .ptr 0 0 0), (2, .ptr 1 0 0), (3, .ptr 2 0 0), (36, bV (useAB x.op)), (26, bV (use1 x.op))], [(0, .rows 13 [.agg x.cs]), (1, .rows 13 [.agg [iV 0, iV 0, iV 0, bV false, uV 0, bV false, uV 0, bV false, bV false, iV 0, iV 0, iV 0, iV 0]]), (2, .rows 13 [.agg [iV x.op, iV (if setB x.op = true then x.rd else 0), iV (if memB x.op = true then x.loc else 0), bV false, uV 0, bV false, uV 0, bV (memB x.op && x.acq), bV (memB x.op && x.rel), iV (if memB x.op = true then x.dep else 0), iV 0, iV 0, iV 0]])], 17⟩ ?_ ?_
            · skip
              refine region_to T_ok (by decide) ⟨78, [(1, .ptr 0 0 0), (2, .ptr 1 0 0), (3, .ptr 2 0 0), (26, bV (use1 x.op)), (36, bV (decide (2 ≤ x.op) && decide (x.op ≤ 8)))], [(0, .rows 13 [.agg x.cs]), (1, .rows 13 [.agg [iV 0, iV 0, iV 0, bV false, uV 0, bV false, uV 0, bV false, bV false, iV 0, iV 0, iV 0, iV 0]]), (2, .rows 13 [.agg [iV x.op, iV (if setB x.op = true then x.rd else 0), iV (if memB x.op = true then x.loc else 0), bV false, uV 0, bV false, uV 0, bV (memB x.op && x.acq), bV (memB x.op && x.rel), iV (if memB x.op = true then x.dep else 0), iV 0, iV 0, iV 0]])], 17⟩ ?_ ?_
              · by_cases c1 : 2 ≤ x.op
                · by_cases c2 : x.op ≤ 8
                  · simp [go_sem, c1, c2]
                    refine Weaker.fz 1 0 ?_ ?_ ?_
                    · simp [go_sem, c1, c2]
                    · first | (simp; done) | (simp; omega)
                    · simp [go_sem, c1, c2]
                  · simp [go_sem, c1, c2]
                    refine Weaker.fz 1 0 ?_ ?_ ?_
                    · simp [go_sem, c1, c2]
                    · first | (simp; done) | (simp; omega)
                    · simp [go_sem, c1, c2]
                · simp [go_sem, c1]
                  refine Weaker.fz 1 0 ?_ ?_ ?_
                  · simp [go_sem, c1]
                  · first | (simp; done) | (simp; omega)
                  · simp [go_sem, c1]
              · skip
                refine cond_k rfl (fun h => ?_) (fun h => ?_)
                · have hab : (decide (2 ≤ x.op) && decide (x.op ≤ 8)) = true := h
                  have h16 : True := trivial
                  refine tr_skip ?_
                  refine Weaker.fzk 1 0 (by omega) ?_ ?_ ?_
                  · simp [go_sem, useAB, hab, h16, int_beq]
                  · first | (simp; done) | (simp; omega)
                  · simp [go_sem, useAB, hab, h16, int_beq]
                · have hab : (decide (2 ≤ x.op) && decide (x.op ≤ 8)) = false := h
                  refine region_k T_ok (by decide) fun K hK => ?_
                  simp [go_sem]
                  refine hK _ ?_; clear hK K
                  refine cond_k rfl (fun h => ?_) (fun h => ?_)
                  · simp at h
                    have h16 : x.op = 16 := h
                    refine tr_skip ?_
                    refine Weaker.fzk 1 0 (by omega) ?_ ?_ ?_
                    · simp [go_sem, useAB, hab, h16, int_beq]
                    · first | (simp; done) | (simp; omega)
                    · simp [go_sem, useAB, hab, h16, int_beq]
                  · simp at h
                    have h16 : ¬ x.op = 16 := h
                    refine region_e T_ok (by decide) fun K hK => ?_
                    simp [go_sem]
                    refine hK _ ?_; clear hK K
                    refine Weaker.fzk 1 0 (by omega) ?_ ?_ ?_
                    · simp [go_sem, useAB, hab, h16, int_beq]
                    · first | (simp; done) | (simp; omega)
                    · simp [go_sem, useAB, hab, h16, int_beq]
            · skip
              refine cond_k rfl (fun h => ?_) (fun h => ?_)
              · have hab' : useAB x.op = true := h
                refine draw_e T_ok (by kernel_rfl) 6 [[], [0], [], [2], [0, 1], [0, 1, 4], [0, 1, 2, 3, 4, 5], [0, 1, 2, 3, 4, 5, 6]] [(2, 5), (3, 5)] (by decide) (by decide) (by decide) fun K hK => ?_
                first | dsimp only [List.take, List.drop] | dsimp [List.take, List.drop]
                simp [go_sem]
                refine hK _ ?_; clear hK K
                refine Weaker.fzk 1 0 (by omega) ?_ ?_ ?_
                · simp [go_sem, h1, h1', hab', useA, useB]
                · first | (simp; done) | (simp; omega)
                · simp [go_sem, h1, h1', hab', useA, useB]
              · have hab' : useAB x.op = false := h
                refine tr_skip ?_
                refine Weaker.fzk 1 0 (by omega) ?_ ?_ ?_
                · simp [go_sem, h1, h1', hab', useA, useB]
                · first | (simp; done) | (simp; omega)
                · simp [go_sem, h1, h1', hab', useA, useB]
      · skip
        refine seq_to ⟨78, [(1, .ptr 0 0 0), (2, .ptr 1 0 0), (3, .ptr 2 0 0)], [(0, .rows 13 [.agg x.cs]), (1, .rows 13 [.agg [iV 0, iV 0, iV 0, bV false, uV 0, bV false, uV 0, bV false, bV false, iV 0, iV 0, iV 0, iV 0]]), (2, .rows 13 [.agg [iV x.op, iV (if setB x.op = true then x.rd else 0), iV (if memB x.op = true then x.loc else 0), bV (useA x.op && x.aR), uV (if useA x.op = true then x.aN else 0), bV (useB x.op && x.bR), uV (if useB x.op = true then x.bN else 0), bV (memB x.op && x.acq), bV (memB x.op && x.rel), iV (if memB x.op = true then x.dep else 0), iV (if x.op = 15 then x.pred else 0), iV (if x.op = 15 then x.succ else 0), iV 0]])], 29⟩ ?_ ?_
        · skip
          refine region_k T_ok (by decide) fun K hK => ?_
          simp [go_sem]
          refine hK _ ?_; clear hK K
          refine cond_k rfl (fun h => ?_) (fun h => ?_)
          · simp at h
            have hf := h
            refine draw_e T_ok (by kernel_rfl) 6 [[], [0], [], [2], [0, 1], [0, 1, 4], [0, 1, 2, 3, 4, 5], [0, 1, 2, 3, 4, 5, 6]] [(2, 5), (3, 5)] (by decide) (by decide) (by decide) fun K hK => ?_
            first | dsimp only [List.take, List.drop] | dsimp [List.take, List.drop]
            simp [go_sem]
            refine hK _ ?_; clear hK K
            refine Weaker.fzk 1 0 (by omega) ?_ ?_ ?_
            · simp [go_sem, hf]
            · first | (simp; done) | (simp; omega)
            · simp [go_sem, hf]
          · simp at h
            have hf := h
            refine tr_skip ?_
            refine Weaker.fzk 1 0 (by omega) ?_ ?_ ?_
            · simp [go_sem, hf]
            · first | (simp; done) | (simp; omega)
            · simp [go_sem, hf]
        · skip
          refine seq_k fun K1 hK1 => ?_
          refine region_to T_ok (by decide) ⟨78, [(1, .ptr 0 0 0), (2, .ptr 1 0 0), (3, .ptr 2 0 0), (73, bV (isBr x.op))], [(0, .rows 13 [.agg x.cs]), (1, .rows 13 [.agg [iV 0, iV 0, iV 0, bV false, uV 0, bV false, uV 0, bV false, bV false, iV 0, iV 0, iV 0, iV 0]]), (2, .rows 13 [.agg [iV x.op, iV (if setB x.op = true then x.rd else 0), iV (if memB x.op = true then x.loc else 0), bV (useA x.op && x.aR), uV (if useA x.op = true then x.aN else 0), bV (useB x.op && x.bR), uV (if useB x.op = true then x.bN else 0), bV (memB x.op && x.acq), bV (memB x.op && x.rel), iV (if memB x.op = true then x.dep else 0), iV (if x.op = 15 then x.pred else 0), iV (if x.op = 15 then x.succ else 0), iV 0]])], 29⟩ ?_ ?_
          · by_cases c1 : x.op = 16
            · simp [go_sem, c1]
              refine Weaker.fz 1 0 ?_ ?_ ?_
              · simp [go_sem, c1, isBr]
              · first | (simp; done) | (simp; omega)
              · simp [go_sem, c1, isBr]
            · by_cases c2 : x.op = 17
              · simp [go_sem, c1, c2]
                refine Weaker.fz 1 0 ?_ ?_ ?_
                · simp [go_sem, c1, c2, isBr]
                · first | (simp; done) | (simp; omega)
                · simp [go_sem, c1, c2, isBr]
              · simp [go_sem, c1, c2]
                refine Weaker.fz 1 0 ?_ ?_ ?_
                · simp [go_sem, c1, c2, isBr]
                · first | (simp; done) | (simp; omega)
                · simp [go_sem, c1, c2, isBr]
          · skip
            refine cond_k rfl (fun h => ?_) (fun h => ?_)
            · have hb := h
              refine region_e T_ok (by decide) fun K hK => ?_
              simp [go_sem]
              refine hK _ ?_; clear hK K
              refine hK1 _ ?_; try clear hK1 K1
              refine region_k T_ok (by decide) fun K hK => ?_
              simp [go_sem]
              refine hK _ ?_; clear hK K
              refine tr_ret ⟨.inr rfl, ?_⟩
              simp [go_sem, insC, Ins.cs, blankI, hb]
            · have hb := h
              refine tr_skip ?_
              refine hK1 _ ?_; try clear hK1 K1
              refine region_k T_ok (by decide) fun K hK => ?_
              simp [go_sem]
              refine hK _ ?_; clear hK K
              refine tr_ret ⟨.inr rfl, ?_⟩
              simp [go_sem, insC, Ins.cs, blankI, hb]

end Go.Proofs.Ytokdphmnlcmbbaa
