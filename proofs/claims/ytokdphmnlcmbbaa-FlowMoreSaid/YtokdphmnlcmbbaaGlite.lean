/- Litmus tests: the walk of check of the package litmus. -/
import Derived.Test.YtokdphmnlcmbbaaGlitd
set_option linter.unusedVariables false
set_option linter.unusedSimpArgs false
namespace Go.Proofs.Ytokdphmnlcmbbaa
open Go Go.Sl Go.Proofs.Try

set_option maxRecDepth 100000 in
set_option maxHeartbeats 16000000 in
theorem check_pf (t : Tst) (x : Ins) (left : Int) : Pf Try.prog 29 [.rp t.cs 0, insC x, iV left] (iV (insErr t.locs.length left x)) := by
  refine Pf.of_fn (.cons (nl_rp t) (.cons (nl_insC x) (.cons (.val _) .nil))) (.val _) ?_
  refine fn_in T_ok func29 rfl rfl ntmps29 rfl (by simp) ?_
  refine region_k T_ok (by decide) fun K hK => ?_
  simp [go_sem, insC]
  refine hK _ ?_; clear hK K
  refine seq_k fun K1 hK1 => ?_
  refine tr_block ?_
  refine draw_to T_ok (by kernel_rfl) 12 [[], [0], [0, 1], [0, 1, 2], [0, 1, 2, 3], [0, 1, 2, 3, 4], [0, 1, 2, 3, 4, 5], [0, 1, 2, 3, 4, 5, 6], [0, 1, 2, 3, 4, 5, 6, 7], [0, 1, 2, 3, 4, 5, 6, 7, 8], [0, 1, 2, 3, 4, 5, 6, 7, 8, 9], [0, 1, 2, 3, 4, 5, 6, 7, 8], [0, 1, 2, 3, 4, 5, 6, 7, 8, 9, 10, 11], [0, 1, 2, 3, 4, 5, 6, 7, 8, 9, 10, 11, 12], [0, 1, 2, 3, 4, 5, 6, 7, 8, 9, 10, 11, 12, 13]] [] (by decide) (by decide) (by decide) ⟨133, [(0, .rp t.cs 0), (2, iV left), (4, .ptr 0 0 0), (7, bV (err1 x))], [(0, .rows 13 [.agg x.cs])], 13⟩ ?_ ?_
  · first | dsimp only [List.take, List.drop] | dsimp [List.take, List.drop]
    by_cases c1 : x.op < 1
    · simp [go_sem, c1]
      refine Weaker.fz 1 0 ?_ ?_ ?_
      · simp [go_sem, c1, err1]
      · first | (simp; done) | (simp; omega)
      · simp [go_sem, c1, err1]
    · by_cases c2 : 17 < x.op
      · simp [go_sem, c1, c2]
        refine Weaker.fz 1 0 ?_ ?_ ?_
        · simp [go_sem, c1, c2, err1]
        · first | (simp; done) | (simp; omega)
        · simp [go_sem, c1, c2, err1]
      · simp [go_sem, c1, c2]
        refine callD_of (blank_pf x) ?_
        simp [go_sem, c1, c2, insC]
        refine Weaker.fz 1 0 ?_ ?_ ?_
        · simp [go_sem, c1, c2, err1]
        · first | (simp; done) | (simp; omega)
        · simp [go_sem, c1, c2, err1]
  · skip
    refine cond_k rfl (fun h => ?_) (fun h => ?_)
    · have e1 := h
      refine region_k T_ok (by decide) fun K hK => ?_
      simp [go_sem]
      refine hK _ ?_; clear hK K
      refine tr_ret ⟨.inr rfl, ?_⟩
      simp [go_sem, insErr, e1]
    · have e1 := h
      refine region_to T_ok (by decide) ⟨133, [(0, .rp t.cs 0), (2, iV left), (4, .ptr 0 0 0), (22, bV (err2 x))], [(0, .rows 13 [.agg x.cs])], 13⟩ ?_ ?_
      · by_cases c1 : x.rd < 0
        · simp [go_sem, c1]
          refine Weaker.fz 1 0 ?_ ?_ ?_
          · simp [go_sem, c1, err2]
          · first | (simp; done) | (simp; omega)
          · simp [go_sem, c1, err2]
        · by_cases c2 : 8 ≤ x.rd
          · simp [go_sem, c1, c2]
            refine Weaker.fz 1 0 ?_ ?_ ?_
            · simp [go_sem, c1, c2, err2]
            · first | (simp; done) | (simp; omega)
            · simp [go_sem, c1, c2, err2]
          · by_cases c3 : argOk x.aR x.aN = true
            · by_cases c4 : argOk x.bR x.bN = true
              · by_cases c5 : x.dep < 0
                · simp [go_sem, c1, c2, c3, c4, c5]
                  refine call_pf (goodArg_pf _ _) ?_
                  simp [go_sem, c1, c2, c3, c4, c5]
                  refine call_pf (goodArg_pf _ _) ?_
                  simp [go_sem, c1, c2, c3, c4, c5]
                  refine Weaker.fz 1 0 ?_ ?_ ?_
                  · simp [go_sem, c1, c2, c3, c4, c5, err2]
                  · first | (simp; done) | (simp; omega)
                  · simp [go_sem, c1, c2, c3, c4, c5, err2]
                · by_cases c6 : 8 < x.dep
                  · simp [go_sem, c1, c2, c3, c4, c5, c6]
                    refine call_pf (goodArg_pf _ _) ?_
                    simp [go_sem, c1, c2, c3, c4, c5, c6]
                    refine call_pf (goodArg_pf _ _) ?_
                    simp [go_sem, c1, c2, c3, c4, c5, c6]
                    refine Weaker.fz 1 0 ?_ ?_ ?_
                    · simp [go_sem, c1, c2, c3, c4, c5, c6, err2]
                    · first | (simp; done) | (simp; omega)
                    · simp [go_sem, c1, c2, c3, c4, c5, c6, err2]
                  · simp [go_sem, c1, c2, c3, c4, c5, c6]
                    refine call_pf (goodArg_pf _ _) ?_
                    simp [go_sem, c1, c2, c3, c4, c5, c6]
                    refine call_pf (goodArg_pf _ _) ?_
                    simp [go_sem, c1, c2, c3, c4, c5, c6]
                    refine Weaker.fz 1 0 ?_ ?_ ?_
                    · simp [go_sem, c1, c2, c3, c4, c5, c6, err2]
                    · first | (simp; done) | (simp; omega)
                    · simp [go_sem, c1, c2, c3, c4, c5, c6, err2]
              · simp [go_sem, c1, c2, c3, c4]
                refine call_pf (goodArg_pf _ _) ?_
                simp [go_sem, c1, c2, c3, c4]
                refine call_pf (goodArg_pf _ _) ?_
                simp [go_sem, c1, c2, c3, c4]
                refine Weaker.fz 1 0 ?_ ?_ ?_
                · simp [go_sem, c1, c2, c3, c4, err2]
                · first | (simp; done) | (simp; omega)
                · simp [go_sem, c1, c2, c3, c4, err2]
            · simp [go_sem, c1, c2, c3]
              refine call_pf (goodArg_pf _ _) ?_
              simp [go_sem, c1, c2, c3]
              refine Weaker.fz 1 0 ?_ ?_ ?_
              · simp [go_sem, c1, c2, c3, err2]
              · first | (simp; done) | (simp; omega)
              · simp [go_sem, c1, c2, c3, err2]
      · skip
        refine cond_k rfl (fun h => ?_) (fun h => ?_)
        · have e2 := h
          refine region_k T_ok (by decide) fun K hK => ?_
          simp [go_sem]
          refine hK _ ?_; clear hK K
          refine tr_ret ⟨.inr rfl, ?_⟩
          simp [go_sem, insErr, e1, e2]
        · have e2 := h
          refine draw_to T_ok (by kernel_rfl) 14 [[], [0], [0, 1], [0, 1, 2], [0, 1, 2, 3], [0, 1, 2, 3, 4], [0, 1, 2, 3, 4, 5], [0, 1, 2, 3, 4, 5, 6], [0, 1, 2, 3, 4, 5, 6, 7], [0, 1, 2, 3, 4, 5, 6], [0, 1, 2, 3, 4, 5, 6, 9], [0, 1, 2, 3, 4, 5, 6, 9, 10], [0, 1, 2, 3, 4, 5, 6, 9, 10, 11], [0, 1, 2, 3, 4, 5, 6, 9, 10, 11, 12], [0, 1, 2, 3, 4, 5, 6, 7, 8, 9, 10, 11, 12, 13], [0, 1, 2, 3, 4, 5, 6, 7, 8, 9, 10, 11, 12, 13, 14], [0, 1, 2, 3, 4, 5, 6, 7, 8, 9, 10, 11, 12, 13, 14, 15], [0, 1, 2, 3, 4, 5, 6, 7, 8, 9, 10, 11, 12, 13, 14, 15, 16]] [] (by decide) (by decide) (by decide) ⟨133, [(0, .rp t.cs 0), (2, iV left), (4, .ptr 0 0 0), (53, bV (err3 t.locs.length x))], [(0, .rows 13 [.agg x.cs])], 27⟩ ?_ ?_
          · first | dsimp only [List.take, List.drop] | dsimp [List.take, List.drop]
            by_cases c1 : memB x.op = true
            · by_cases c2 : x.loc < 0
              · simp [go_sem, c1, c2, Tst.cs]
                refine callD_of (ismem_pf x) ?_
                simp [go_sem, c1, c2, Tst.cs]
                refine Weaker.fz 1 0 ?_ ?_ ?_
                · simp [go_sem, Tst.cs, c1, c2, err3]
                · first | (simp; done) | (simp; omega)
                · simp [go_sem, c1, c2, err3]
              · by_cases c3 : (t.locs.length : Int) ≤ x.loc
                · simp [go_sem, c1, c2, c3, Tst.cs]
                  refine callD_of (ismem_pf x) ?_
                  simp [go_sem, c1, c2, c3, Tst.cs]
                  refine Weaker.fz 1 0 ?_ ?_ ?_
                  · simp [go_sem, Tst.cs, c1, c2, c3, err3]
                  · first | (simp; done) | (simp; omega)
                  · simp [go_sem, c1, c2, c3, err3]
                · simp [go_sem, c1, c2, c3, Tst.cs]
                  refine callD_of (ismem_pf x) ?_
                  simp [go_sem, c1, c2, c3, Tst.cs]
                  refine Weaker.fz 1 0 ?_ ?_ ?_
                  · simp [go_sem, Tst.cs, c1, c2, c3, err3]
                  · first | (simp; done) | (simp; omega)
                  · simp [go_sem, c1, c2, c3, err3]
            · simp [go_sem, c1, Tst.cs]
              refine callD_of (ismem_pf x) ?_
              simp [go_sem, c1, Tst.cs]
              refine Weaker.fz 1 0 ?_ ?_ ?_
              · simp [go_sem, Tst.cs, c1, err3]
              · first | (simp; done) | (simp; omega)
              · simp [go_sem, c1, err3]
          · skip
            refine cond_k rfl (fun h => ?_) (fun h => ?_)
            · have e3 := h
              refine region_k T_ok (by decide) fun K hK => ?_
              simp [go_sem]
              refine hK _ ?_; clear hK K
              refine tr_ret ⟨.inr rfl, ?_⟩
              simp [go_sem, insErr, e1, e2, e3]
            · have e3 := h
              refine region_to T_ok (by decide) ⟨133, [(0, .rp t.cs 0), (2, iV left), (4, .ptr 0 0 0), (71, bV (err4 x))], [(0, .rows 13 [.agg x.cs])], 27⟩ ?_ ?_
              · by_cases c1 : x.op = 1
                · by_cases c2 : x.aR = true
                  · simp [go_sem, c1, c2]
                    refine Weaker.fz 1 0 ?_ ?_ ?_
                    · simp [go_sem, c1, c2, err4]
                    · first | (simp; done) | (simp; omega)
                    · simp [go_sem, c1, c2, err4]
                  · simp [go_sem, c1, c2]
                    refine Weaker.fz 1 0 ?_ ?_ ?_
                    · simp [go_sem, c1, c2, err4]
                    · first | (simp; done) | (simp; omega)
                    · simp [go_sem, c1, c2, err4]
                · simp [go_sem, c1]
                  refine Weaker.fz 1 0 ?_ ?_ ?_
                  · simp [go_sem, c1, err4]
                  · first | (simp; done) | (simp; omega)
                  · simp [go_sem, c1, err4]
              · skip
                refine cond_k rfl (fun h => ?_) (fun h => ?_)
                · have e4 := h
                  refine region_k T_ok (by decide) fun K hK => ?_
                  simp [go_sem]
                  refine hK _ ?_; clear hK K
                  refine tr_ret ⟨.inr rfl, ?_⟩
                  simp [go_sem, insErr, e1, e2, e3, e4]
                · have e4 := h
                  refine region_to T_ok (by decide) ⟨133, [(0, .rp t.cs 0), (2, iV left), (4, .ptr 0 0 0), (80, bV (err5 x))], [(0, .rows 13 [.agg x.cs])], 27⟩ ?_ ?_
                  · by_cases c1 : x.op = 15
                    · by_cases c2 : x.pred < 1
                      · simp [go_sem, c1, c2]
                        refine Weaker.fz 1 0 ?_ ?_ ?_
                        · simp [go_sem, c1, c2, err5]
                        · first | (simp; done) | (simp; omega)
                        · simp [go_sem, c1, c2, err5]
                      · by_cases c3 : 3 < x.pred
                        · simp [go_sem, c1, c2, c3]
                          refine Weaker.fz 1 0 ?_ ?_ ?_
                          · simp [go_sem, c1, c2, c3, err5]
                          · first | (simp; done) | (simp; omega)
                          · simp [go_sem, c1, c2, c3, err5]
                        · by_cases c4 : x.succ < 1
                          · simp [go_sem, c1, c2, c3, c4]
                            refine Weaker.fz 1 0 ?_ ?_ ?_
                            · simp [go_sem, c1, c2, c3, c4, err5]
                            · first | (simp; done) | (simp; omega)
                            · simp [go_sem, c1, c2, c3, c4, err5]
                          · by_cases c5 : 3 < x.succ
                            · simp [go_sem, c1, c2, c3, c4, c5]
                              refine Weaker.fz 1 0 ?_ ?_ ?_
                              · simp [go_sem, c1, c2, c3, c4, c5, err5]
                              · first | (simp; done) | (simp; omega)
                              · simp [go_sem, c1, c2, c3, c4, c5, err5]
                            · simp [go_sem, c1, c2, c3, c4, c5]
                              refine Weaker.fz 1 0 ?_ ?_ ?_
                              · simp [go_sem, c1, c2, c3, c4, c5, err5]
                              · first | (simp; done) | (simp; omega)
                              · simp [go_sem, c1, c2, c3, c4, c5, err5]
                    · simp [go_sem, c1]
                      refine Weaker.fz 1 0 ?_ ?_ ?_
                      · simp [go_sem, c1, err5]
                      · first | (simp; done) | (simp; omega)
                      · simp [go_sem, c1, err5]
                  · skip
                    refine cond_k rfl (fun h => ?_) (fun h => ?_)
                    · have e5 := h
                      refine region_k T_ok (by decide) fun K hK => ?_
                      simp [go_sem]
                      refine hK _ ?_; clear hK K
                      refine tr_ret ⟨.inr rfl, ?_⟩
                      simp [go_sem, insErr, e1, e2, e3, e4, e5]
                    · have e5 := h
                      refine region_to T_ok (by decide) ⟨133, [(0, .rp t.cs 0), (2, iV left), (4, .ptr 0 0 0), (104, bV (err6 x))], [(0, .rows 13 [.agg x.cs])], 27⟩ ?_ ?_
                      · by_cases c1 : x.acq = true
                        · by_cases c2 : rdB x.op = true
                          · by_cases c3 : x.rel = true
                            · simp [go_sem, c1, c2, c3]
                              refine call_pf (of_pf x) ?_
                              simp [go_sem, c1, c2, c3]
                              refine call_pf (of_pf x) ?_
                              simp [go_sem, c1, c2, c3]
                              refine Weaker.fz 1 0 ?_ ?_ ?_
                              · simp [go_sem, c1, c2, c3, err6]
                              · first | (simp; done) | (simp; omega)
                              · simp [go_sem, c1, c2, c3, err6]
                            · simp [go_sem, c1, c2, c3]
                              refine call_pf (of_pf x) ?_
                              simp [go_sem, c1, c2, c3]
                              refine Weaker.fz 1 0 ?_ ?_ ?_
                              · simp [go_sem, c1, c2, c3, err6]
                              · first | (simp; done) | (simp; omega)
                              · simp [go_sem, c1, c2, c3, err6]
                          · simp [go_sem, c1, c2]
                            refine call_pf (of_pf x) ?_
                            simp [go_sem, c1, c2]
                            refine Weaker.fz 1 0 ?_ ?_ ?_
                            · simp [go_sem, c1, c2, err6]
                            · first | (simp; done) | (simp; omega)
                            · simp [go_sem, c1, c2, err6]
                        · by_cases c2 : x.rel = true
                          · simp [go_sem, c1, c2]
                            refine call_pf (of_pf x) ?_
                            simp [go_sem, c1, c2]
                            refine Weaker.fz 1 0 ?_ ?_ ?_
                            · simp [go_sem, c1, c2, err6]
                            · first | (simp; done) | (simp; omega)
                            · simp [go_sem, c1, c2, err6]
                          · simp [go_sem, c1, c2]
                            refine Weaker.fz 1 0 ?_ ?_ ?_
                            · simp [go_sem, c1, c2, err6]
                            · first | (simp; done) | (simp; omega)
                            · simp [go_sem, c1, c2, err6]
                      · skip
                        refine cond_k rfl (fun h => ?_) (fun h => ?_)
                        · have e6 := h
                          refine region_k T_ok (by decide) fun K hK => ?_
                          simp [go_sem]
                          refine hK _ ?_; clear hK K
                          refine tr_ret ⟨.inr rfl, ?_⟩
                          simp [go_sem, insErr, e1, e2, e3, e4, e5, e6]
                        · have e6 := h
                          refine region_to T_ok (by decide) ⟨133, [(0, .rp t.cs 0), (2, iV left), (4, .ptr 0 0 0), (123, bV (err7 x left))], [(0, .rows 13 [.agg x.cs])], 27⟩ ?_ ?_
                          · by_cases c1 : x.skip < 0
                            · simp [go_sem, c1]
                              refine Weaker.fz 1 0 ?_ ?_ ?_
                              · simp [go_sem, c1, err7]
                              · first | (simp; done) | (simp; omega)
                              · simp [go_sem, c1, err7]
                            · by_cases c2 : left < x.skip
                              · simp [go_sem, c1, c2]
                                refine Weaker.fz 1 0 ?_ ?_ ?_
                                · simp [go_sem, c1, c2, err7]
                                · first | (simp; done) | (simp; omega)
                                · simp [go_sem, c1, c2, err7]
                              · simp [go_sem, c1, c2]
                                refine Weaker.fz 1 0 ?_ ?_ ?_
                                · simp [go_sem, c1, c2, err7]
                                · first | (simp; done) | (simp; omega)
                                · simp [go_sem, c1, c2, err7]
                          · skip
                            refine cond_k rfl (fun h => ?_) (fun h => ?_)
                            · have e7 := h
                              refine region_k T_ok (by decide) fun K hK => ?_
                              simp [go_sem]
                              refine hK _ ?_; clear hK K
                              refine tr_ret ⟨.inr rfl, ?_⟩
                              simp [go_sem, insErr, e1, e2, e3, e4, e5, e6, e7]
                            · have e7 := h
                              refine tr_skip ?_
                              refine hK1 _ ?_; try clear hK1 K1
                              refine region_k T_ok (by decide) fun K hK => ?_
                              simp [go_sem]
                              refine hK _ ?_; clear hK K
                              refine tr_ret ⟨.inr rfl, ?_⟩
                              simp [go_sem, insErr, e1, e2, e3, e4, e5, e6, e7]

end Go.Proofs.Ytokdphmnlcmbbaa
