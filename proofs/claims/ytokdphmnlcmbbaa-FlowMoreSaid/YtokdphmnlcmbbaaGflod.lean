/- Flow: a branch, another instruction. -/
import Derived.Test.YtokdphmnlcmbbaaGfloc
set_option linter.unusedVariables false
set_option linter.unusedSimpArgs false
namespace Go.Proofs.Ytokdphmnlcmbbaa
open Go Go.Sl Go.Proofs.Try

set_option maxRecDepth 20000 in
set_option maxHeartbeats 4000000 in
theorem branch_fn (w k : Nat) (hw : w < k) (fp : V) (hfp : fp.one = true) (y : Wk) (x : Ins) (hx : InsOk x) : Sl.Fn Try.prog 37 [.ptr w 0 0, insC x] [(w, .rows 29 [.agg (wkC fp y)])] k fun r H _ => r = .tup [iV (brN y x), bV (brK y x)] ∧ H = [(w, .rows 29 [.agg (wkC fp (brW y x))])] := by
  have e0 : ¬ w = k := by omega
  have eq0 : ¬ k = w := by omega
  have e2 : ¬ w = k + 1 := by omega
  have eq2 : ¬ k + 1 = w := by omega
  refine Sl.Fn.keep (by simp) ?_
  obtain ⟨h0, h8, ha, hb, hdep, hskip⟩ := hx
  refine fn_in T_ok func37 rfl rfl ntmps37 rfl (by simp) ?_
  refine region_k T_ok (by decide) fun K hK => ?_
  simp [go_sem, insC, Ins.cs, e0, eq0, e2, eq2]
  refine hK _ ?_; clear hK K
  refine region_k T_ok (by decide) fun K hK => ?_
  simp [go_sem, insC, Ins.cs, e0, eq0, e2, eq2]
  refine call_own (arg_fn w _ (by omega) fp y x.aR x.aN ha) rfl (by simp) (by simp [go_sem, e0, eq0, e2, eq2]) fun k' hk' => ?_
  have a0 : ¬ w = k' := by omega
  have aq0 : ¬ k' = w := by omega
  have a2 : ¬ k' = k := by omega
  have aq2 : ¬ k = k' := by omega
  simp [go_sem, e0, eq0, e2, eq2, a0, aq0, a2, aq2]
  refine hK _ ?_; clear hK K
  refine region_k T_ok (by decide) fun K hK => ?_
  simp [go_sem, insC, Ins.cs, e0, eq0, e2, eq2, a0, aq0, a2, aq2]
  refine call_own (arg_fn w _ (by omega) fp y x.bR x.bN hb) rfl (by simp) (by simp [go_sem, e0, eq0, e2, eq2, a0, aq0, a2, aq2]) fun k'' hk'' => ?_
  have b0 : ¬ w = k'' := by omega
  have bq0 : ¬ k'' = w := by omega
  have b2 : ¬ k'' = k := by omega
  have bq2 : ¬ k = k'' := by omega
  have b4 : ¬ k'' = k' := by omega
  have bq4 : ¬ k' = k'' := by omega
  simp [go_sem, e0, eq0, e2, eq2, a0, aq0, a2, aq2, b0, bq0, b2, bq2, b4, bq4]
  refine hK _ ?_; clear hK K
  refine region_k T_ok (by decide) fun K hK => ?_
  simp [go_sem, insC, Ins.cs, e0, eq0, e2, eq2, a0, aq0, a2, aq2, b0, bq0, b2, bq2, b4, bq4, hfp]
  refine hK _ ?_; clear hK K
  refine seq_k fun K1 hK1 => ?_
  refine region_to T_ok (by decide) ⟨53, [(0, .ptr w 0 0), (3, .ptr k 0 0), (6, .ptr k' 0 0), (8, .ptr k'' 0 0), (41, bV (!brK y x))], [(k'', .rows 2 [.agg [bV (argW y x.bR x.bN).k, uV (argW y x.bR x.bN).v]]), (k', .rows 2 [.agg [bV (argW y x.aR x.aN).k, uV (argW y x.aR x.aN).v]]), (k, .rows 13 [insC x]), (w, .rows 29 [.agg (wkC fp (brW y x))])], k'' + 1⟩ ?_ ?_
  · by_cases c1 : (argW y x.aR x.aN).k = true
    · simp [go_sem, c1, insC, Ins.cs, e0, eq0, e2, eq2, a0, aq0, a2, aq2, b0, bq0, b2, bq2, b4, bq4]
      refine Weaker.fz 1 0 ?_ ?_ ?_
      · simp [go_sem, c1, insC, Ins.cs, e0, eq0, e2, eq2, a0, aq0, a2, aq2, b0, bq0, b2, bq2, b4, bq4, brK, brW]
      · first | (simp; done) | (simp; omega)
      · simp [go_sem, c1, insC, Ins.cs, e0, eq0, e2, eq2, a0, aq0, a2, aq2, b0, bq0, b2, bq2, b4, bq4, brK, brW]
    · simp [go_sem, c1, insC, Ins.cs, e0, eq0, e2, eq2, a0, aq0, a2, aq2, b0, bq0, b2, bq2, b4, bq4]
      refine Weaker.fz 1 0 ?_ ?_ ?_
      · simp [go_sem, c1, insC, Ins.cs, e0, eq0, e2, eq2, a0, aq0, a2, aq2, b0, bq0, b2, bq2, b4, bq4, brK, brW]
      · first | (simp; done) | (simp; omega)
      · simp [go_sem, c1, insC, Ins.cs, e0, eq0, e2, eq2, a0, aq0, a2, aq2, b0, bq0, b2, bq2, b4, bq4, brK, brW]
  · skip
    refine cond_k rfl (fun h => ?_) (fun h => ?_)
    · have hK0 : brK y x = false := by simpa using h
      clear h
      refine region_k T_ok (by decide) fun K hK => ?_
      simp [go_sem]
      refine hK _ ?_; clear hK K
      refine tr_ret ⟨.inr rfl, ?_⟩
      simp [go_sem, brN, hK0, e0, eq0, e2, eq2, a0, aq0, a2, aq2, b0, bq0, b2, bq2, b4, bq4]
    · have hK0 : brK y x = true := by simpa using h
      clear h
      refine tr_skip ?_
      refine hK1 _ ?_; try clear hK1 K1
      refine seq_k fun K2 hK2 => ?_
      refine region_k T_ok (by decide) fun K hK => ?_
      simp [go_sem, insC, Ins.cs, e0, eq0, e2, eq2, a0, aq0, a2, aq2, b0, bq0, b2, bq2, b4, bq4]
      refine hK _ ?_; clear hK K
      refine cond_k rfl (fun h => ?_) (fun h => ?_)
      · have hE : ((argW y x.aR x.aN).v = (argW y x.bR x.bN).v ↔ x.op = 16) := by simpa [int_beq] using h
        clear h
        refine region_k T_ok (by decide) fun K hK => ?_
        simp [go_sem, insC, Ins.cs, e0, eq0, e2, eq2, a0, aq0, a2, aq2, b0, bq0, b2, bq2, b4, bq4]
        refine hK _ ?_; clear hK K
        refine tr_ret ⟨.inr rfl, ?_⟩
        simp [go_sem, brN, hK0, hE, e0, eq0, e2, eq2, a0, aq0, a2, aq2, b0, bq0, b2, bq2, b4, bq4]
      · have hE : ¬ ((argW y x.aR x.aN).v = (argW y x.bR x.bN).v ↔ x.op = 16) := by simpa [int_beq] using h
        clear h
        refine tr_skip ?_
        refine hK2 _ ?_; try clear hK2 K2
        refine region_k T_ok (by decide) fun K hK => ?_
        simp [go_sem]
        refine hK _ ?_; clear hK K
        refine tr_ret ⟨.inr rfl, ?_⟩
        simp [go_sem, brN, hK0, hE, e0, eq0, e2, eq2, a0, aq0, a2, aq2, b0, bq0, b2, bq2, b4, bq4]

set_option maxRecDepth 20000 in
set_option maxHeartbeats 4000000 in
theorem plain_fn (w k : Nat) (hw : w < k) (fp : V) (hfp : fp.one = true) (y : Wk) (x : Ins) (hx : InsOk x) : Sl.Fn Try.prog 38 [.ptr w 0 0, insC x] [(w, .rows 29 [.agg (wkC fp y)])] k fun r H _ => r = .tup [] ∧ H = [(w, .rows 29 [.agg (wkC fp (plainW y x))])] := by
  have e0 : ¬ w = k := by omega
  have eq0 : ¬ k = w := by omega
  have e2 : ¬ w = k + 1 := by omega
  have eq2 : ¬ k + 1 = w := by omega
  refine Sl.Fn.keep (by simp) ?_
  obtain ⟨h0, h8, ha, hb, hdep, hskip⟩ := hx
  refine fn_in T_ok func38 rfl rfl ntmps38 rfl (by simp) ?_
  refine region_k T_ok (by decide) fun K hK => ?_
  simp [go_sem, insC, Ins.cs, e0, eq0, e2, eq2]
  refine hK _ ?_; clear hK K
  refine seq_k fun K1 hK1 => ?_
  refine region_k T_ok (by decide) fun K hK => ?_
  simp [go_sem, insC, Ins.cs, e0, eq0, e2, eq2]
  refine hK _ ?_; clear hK K
  refine cond_k rfl (fun h => ?_) (fun h => ?_)
  · have hop : x.op = 15 := by simpa using h
    clear h
    refine tr_ret ⟨.inr rfl, ?_⟩
    simp [go_sem, plainW, hop, e0, eq0, e2, eq2]
  · have n15 : ¬ x.op = 15 := by simpa using h
    clear h
    refine tr_skip ?_
    refine hK1 _ ?_; try clear hK1 K1
    refine region_k T_ok (by decide) fun K hK => ?_
    simp [go_sem, insC, Ins.cs, e0, eq0, e2, eq2]
    refine call_own (arg_fn w _ (by omega) fp y x.aR x.aN ha) rfl (by simp) (by simp [go_sem, e0, eq0, e2, eq2]) fun k' hk' => ?_
    have a0 : ¬ w = k' := by omega
    have aq0 : ¬ k' = w := by omega
    have a2 : ¬ k' = k := by omega
    have aq2 : ¬ k = k' := by omega
    simp [go_sem, e0, eq0, e2, eq2, a0, aq0, a2, aq2]
    refine hK _ ?_; clear hK K
    refine seq_k fun K2 hK2 => ?_
    refine region_k T_ok (by decide) fun K hK => ?_
    simp [go_sem, insC, Ins.cs, e0, eq0, e2, eq2, a0, aq0, a2, aq2]
    refine hK _ ?_; clear hK K
    refine cond_k rfl (fun h => ?_) (fun h => ?_)
    · have hop : x.op = 1 := by simpa using h
      clear h
      refine region_k T_ok (by decide) fun K hK => ?_
      simp [go_sem, insC, Ins.cs, e0, eq0, e2, eq2, a0, aq0, a2, aq2]
      refine call_own (set_fn w _ (by omega) fp hfp y x.rd h0 h8 (argW y x.aR x.aN) 0) rfl (by simp) (by simp [go_sem, e0, eq0, e2, eq2, a0, aq0, a2, aq2]) fun k9 hk9 => ?_
      simp [go_sem, e0, eq0, e2, eq2, a0, aq0, a2, aq2]
      refine hK _ ?_; clear hK K
      refine tr_ret ⟨.inr rfl, ?_⟩
      simp [go_sem, plainW, hop, e0, eq0, e2, eq2, a0, aq0, a2, aq2]
    · have n1 : ¬ x.op = 1 := by simpa using h
      clear h
      refine tr_skip ?_
      refine hK2 _ ?_; try clear hK2 K2
      refine region_k T_ok (by decide) fun K hK => ?_
      simp [go_sem, insC, Ins.cs, e0, eq0, e2, eq2, a0, aq0, a2, aq2]
      refine call_own (arg_fn w _ (by omega) fp y x.bR x.bN hb) rfl (by simp) (by simp [go_sem, e0, eq0, e2, eq2, a0, aq0, a2, aq2]) fun k'' hk'' => ?_
      have b0 : ¬ w = k'' := by omega
      have bq0 : ¬ k'' = w := by omega
      have b2 : ¬ k'' = k := by omega
      have bq2 : ¬ k = k'' := by omega
      have b4 : ¬ k'' = k' := by omega
      have bq4 : ¬ k' = k'' := by omega
      simp [go_sem, e0, eq0, e2, eq2, a0, aq0, a2, aq2, b0, bq0, b2, bq2, b4, bq4]
      refine hK _ ?_; clear hK K
      refine draw_e T_ok (by kernel_rfl) 20 [[], [], [1], [], [3], [3, 4], [3, 4, 5], [3, 4, 5, 6], [3, 4, 5, 6, 7], [], [9], [], [11], [], [13], [3, 4, 5, 9, 10, 11, 12, 13, 14], [3, 4, 5, 6, 7, 8, 9, 10, 11, 12, 13, 14, 15], [], [], [17, 18], [0, 1, 2, 3, 4, 5, 6, 7, 8, 9, 10, 11, 12, 13, 14, 15, 16, 17, 18, 19]] [] (by decide) (by decide) (by decide) fun K hK => ?_
      first | dsimp only [List.take, List.drop] | dsimp [List.take, List.drop]
      cases hA : (argW y x.aR x.aN).k
      · simp [go_sem, hA, insC, Ins.cs, e0, eq0, e2, eq2, a0, aq0, a2, aq2, b0, bq0, b2, bq2, b4, bq4]
        refine callD_of (reckon_pf x.op (argW y x.aR x.aN).v (argW y x.bR x.bN).v) ?_
        simp [go_sem, hA, insC, Ins.cs, e0, eq0, e2, eq2, a0, aq0, a2, aq2, b0, bq0, b2, bq2, b4, bq4]
        refine call_own (set_fn w _ (by omega) fp hfp y x.rd h0 h8 ⟨false, reck x.op (argW y x.aR x.aN).v (argW y x.bR x.bN).v⟩ (o64 (argH y x.aR x.aN) (argH y x.bR x.bN))) rfl (by simp) (by simp [go_sem, e0, eq0, e2, eq2, a0, aq0, a2, aq2, b0, bq0, b2, bq2, b4, bq4]) fun k9 hk9 => ?_
        simp [go_sem, e0, eq0, e2, eq2, a0, aq0, a2, aq2, b0, bq0, b2, bq2, b4, bq4]
        refine hK _ ?_; clear hK K
        refine ⟨.inl rfl, ?_⟩
        simp [go_sem, plainW, hA, n15, n1, e0, eq0, e2, eq2, a0, aq0, a2, aq2, b0, bq0, b2, bq2, b4, bq4]
      · simp [go_sem, hA, insC, Ins.cs, e0, eq0, e2, eq2, a0, aq0, a2, aq2, b0, bq0, b2, bq2, b4, bq4]
        refine callD_of (reckon_pf x.op (argW y x.aR x.aN).v (argW y x.bR x.bN).v) ?_
        simp [go_sem, hA, insC, Ins.cs, e0, eq0, e2, eq2, a0, aq0, a2, aq2, b0, bq0, b2, bq2, b4, bq4]
        refine call_own (set_fn w _ (by omega) fp hfp y x.rd h0 h8 ⟨(argW y x.bR x.bN).k, reck x.op (argW y x.aR x.aN).v (argW y x.bR x.bN).v⟩ (o64 (argH y x.aR x.aN) (argH y x.bR x.bN))) rfl (by simp) (by simp [go_sem, e0, eq0, e2, eq2, a0, aq0, a2, aq2, b0, bq0, b2, bq2, b4, bq4]) fun k9 hk9 => ?_
        simp [go_sem, e0, eq0, e2, eq2, a0, aq0, a2, aq2, b0, bq0, b2, bq2, b4, bq4]
        refine hK _ ?_; clear hK K
        refine ⟨.inl rfl, ?_⟩
        simp [go_sem, plainW, hA, n15, n1, e0, eq0, e2, eq2, a0, aq0, a2, aq2, b0, bq0, b2, bq2, b4, bq4]

end Go.Proofs.Ytokdphmnlcmbbaa
