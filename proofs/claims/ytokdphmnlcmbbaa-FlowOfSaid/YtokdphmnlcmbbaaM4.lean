/- Texts put together, in order: Gfloc, Gflod, Gfloe, Gflog, Gfloh, W15, Gfloj, Gflok, Gflop, W11, W20, W21, Gflor, W22, Gflos. -/
import Derived.KernelRfl
import Derived.Test.YtokdphmnlcmbbaaM3
set_option linter.unusedVariables false
set_option linter.unusedSimpArgs false
/- Flow: an instruction that has to do with memory, a branch, another one. -/
namespace Go.Proofs.Ytokdphmnlcmbbaa
open Go Go.Sl Go.Proofs.Try

set_option maxRecDepth 20000 in
set_option maxHeartbeats 16000000 in
theorem mem_fn (w k : Nat) (h12 : 12 < w) (hw : w < k) (m : Nat) (L R Wh : V) (y : Wk) (f : Fl) (hfl : FlOk m f) (x : Ins) (hx : InsOk x) (n : Nat) (hn : n < m) (hn63 : n < 9223372036854775807) (read : Vl) (works : Bool) : Sl.Fn Try.prog 36 [.ptr w 0 0, insC x, iV (n : Nat), .agg [bV read.k, uV read.v], bV works] [(w, .rows 29 [.agg (wkC (.ptr 12 0 0) y)]), (12, .rows 9 [.agg [.sl 1 0 m, .sl 3 0 m, .sl 5 0 m, .sl 7 0 m, .sl 9 0 m, .sl 11 0 m, L, R, Wh]]), (1, .rows 1 (iVs f.state)), (3, .rows 2 (vls f.write)), (5, .rows 1 (iVs f.pair)), (7, .rows 1 (uVs f.place)), (9, .rows 1 (uVs f.value)), (11, .rows 1 (uVs f.path))] k fun r H _ => r = .tup [] ∧ H = [(w, .rows 29 [.agg (wkC (.ptr 12 0 0) (memW y x n read works))]), (12, .rows 9 [.agg [.sl 1 0 m, .sl 3 0 m, .sl 5 0 m, .sl 7 0 m, .sl 9 0 m, .sl 11 0 m, L, R, Wh]]), (1, .rows 1 (iVs (memF y f x n read works).state)), (3, .rows 2 (vls (memF y f x n read works).write)), (5, .rows 1 (iVs (memF y f x n read works).pair)), (7, .rows 1 (uVs (memF y f x n read works).place)), (9, .rows 1 (uVs (memF y f x n read works).value)), (11, .rows 1 (uVs (memF y f x n read works).path))] := by
  have e0 : ¬ w = 1 := by omega
  have eq0 : ¬ 1 = w := by omega
  have e2 : ¬ w = 3 := by omega
  have eq2 : ¬ 3 = w := by omega
  have e4 : ¬ w = 5 := by omega
  have eq4 : ¬ 5 = w := by omega
  have e6 : ¬ w = 7 := by omega
  have eq6 : ¬ 7 = w := by omega
  have e8 : ¬ w = 9 := by omega
  have eq8 : ¬ 9 = w := by omega
  have e10 : ¬ w = 11 := by omega
  have eq10 : ¬ 11 = w := by omega
  have e12 : ¬ w = 12 := by omega
  have eq12 : ¬ 12 = w := by omega
  have e14 : ¬ w = k := by omega
  have eq14 : ¬ k = w := by omega
  have e16 : ¬ w = k + 1 := by omega
  have eq16 : ¬ k + 1 = w := by omega
  have e18 : ¬ w = k + 2 := by omega
  have eq18 : ¬ k + 2 = w := by omega
  have e20 : ¬ k = 0 := by omega
  have eq20 : ¬ 0 = k := by omega
  have e22 : ¬ k = 1 := by omega
  have eq22 : ¬ 1 = k := by omega
  have e24 : ¬ k = 2 := by omega
  have eq24 : ¬ 2 = k := by omega
  have e26 : ¬ k = 3 := by omega
  have eq26 : ¬ 3 = k := by omega
  have e28 : ¬ k = 4 := by omega
  have eq28 : ¬ 4 = k := by omega
  have e30 : ¬ k = 5 := by omega
  have eq30 : ¬ 5 = k := by omega
  have e32 : ¬ k = 6 := by omega
  have eq32 : ¬ 6 = k := by omega
  have e34 : ¬ k = 7 := by omega
  have eq34 : ¬ 7 = k := by omega
  have e36 : ¬ k = 8 := by omega
  have eq36 : ¬ 8 = k := by omega
  have e38 : ¬ k = 9 := by omega
  have eq38 : ¬ 9 = k := by omega
  have e40 : ¬ k = 10 := by omega
  have eq40 : ¬ 10 = k := by omega
  have e42 : ¬ k = 11 := by omega
  have eq42 : ¬ 11 = k := by omega
  have e44 : ¬ k = 12 := by omega
  have eq44 : ¬ 12 = k := by omega
  refine Sl.Fn.keep (by simp [e0, eq0, e2, eq2, e4, eq4, e6, eq6, e8, eq8, e10, eq10, e12, eq12, e14, eq14, e16, eq16, e18, eq18, e20, eq20, e22, eq22, e24, eq24, e26, eq26, e28, eq28, e30, eq30, e32, eq32, e34, eq34, e36, eq36, e38, eq38, e40, eq40, e42, eq42, e44, eq44]) ?_
  have hfl0 := memF0_ok hfl y x n
  obtain ⟨h0, h8, ha, hb, hdep, hskip⟩ := hx
  obtain ⟨l1, l2, l3, l4, l5, l6⟩ := hfl
  have m1 : n < f.state.length := by omega
  have m2 : n < f.write.length := by omega
  have m3 : n < f.pair.length := by omega
  have m4 : n < f.place.length := by omega
  have m5 : n < f.value.length := by omega
  have m6 : n < f.path.length := by omega
  have nI : (n : Int) < (m : Nat) := by omega
  have n0 : (0 : Int) ≤ (n : Nat) := by omega
  have hwn : IntKind.i64.wrap ((n : Nat) + 1) = (n : Nat) + 1 := wrap_i64 (by omega) (by omega)
  refine fn_in T_ok func36 rfl rfl ntmps36 rfl (by simp) ?_
  refine region_k T_ok (by decide) fun K hK => ?_
  simp [go_sem, insC, Ins.cs, e0, eq0, e2, eq2, e4, eq4, e6, eq6, e8, eq8, e10, eq10, e12, eq12, e14, eq14, e16, eq16, e18, eq18, e20, eq20, e22, eq22, e24, eq24, e26, eq26, e28, eq28, e30, eq30, e32, eq32, e34, eq34, e36, eq36, e38, eq38, e40, eq40, e42, eq42, e44, eq44]
  refine hK _ ?_; clear hK K
  refine region_k T_ok (by decide) fun K hK => ?_
  simp [go_sem, insC, Ins.cs, e0, eq0, e2, eq2, e4, eq4, e6, eq6, e8, eq8, e10, eq10, e12, eq12, e14, eq14, e16, eq16, e18, eq18, e20, eq20, e22, eq22, e24, eq24, e26, eq26, e28, eq28, e30, eq30, e32, eq32, e34, eq34, e36, eq36, e38, eq38, e40, eq40, e42, eq42, e44, eq44]
  refine hK _ ?_; clear hK K
  refine region_k T_ok (by decide) fun K hK => ?_
  simp [go_sem, insC, Ins.cs, e0, eq0, e2, eq2, e4, eq4, e6, eq6, e8, eq8, e10, eq10, e12, eq12, e14, eq14, e16, eq16, e18, eq18, e20, eq20, e22, eq22, e24, eq24, e26, eq26, e28, eq28, e30, eq30, e32, eq32, e34, eq34, e36, eq36, e38, eq38, e40, eq40, e42, eq42, e44, eq44, m1, m2, m3, m4, m5, m6, nI, n0]
  refine hK _ ?_; clear hK K
  refine draw_k T_ok (by kernel_rfl) 9 [[], [0], [0, 1], [0, 1, 2], [], [], [5], [5, 6], [5, 6, 7], [0, 1, 2, 3, 4, 5, 6, 7, 8], [0, 1, 2, 3, 4, 5, 6, 7, 8, 9]] [] (by decide) (by decide) (by decide) fun K hK => ?_
  first | dsimp only [List.take, List.drop] | dsimp [List.take, List.drop]
  simp [go_sem, insC, Ins.cs, e0, eq0, e2, eq2, e4, eq4, e6, eq6, e8, eq8, e10, eq10, e12, eq12, e14, eq14, e16, eq16, e18, eq18, e20, eq20, e22, eq22, e24, eq24, e26, eq26, e28, eq28, e30, eq30, e32, eq32, e34, eq34, e36, eq36, e38, eq38, e40, eq40, e42, eq42, e44, eq44, m1, m2, m3, m4, m5, m6, nI, n0]
  refine hK _ ?_; clear hK K
  refine seq_to ⟨156, [(10, .ptr 12 0 0), (6, .ptr k 0 0), (8, .ptr (k + 1) 0 0), (0, .ptr w 0 0), (2, iV (n : Nat)), (4, bV works)], [(k + 1, .rows 2 [.agg [bV read.k, uV read.v]]), (k, .rows 13 [insC x]), (w, .rows 29 [.agg (wkC (.ptr 12 0 0) y)]), (12, .rows 9 [.agg [.sl 1 0 m, .sl 3 0 m, .sl 5 0 m, .sl 7 0 m, .sl 9 0 m, .sl 11 0 m, L, R, Wh]]), (1, .rows 1 (iVs (f.state.set n 1))), (3, .rows 2 (vls f.write)), (5, .rows 1 (iVs f.pair)), (7, .rows 1 (uVs (if 0 < x.dep then f.place.set n (y.hangs (x.dep - 1).toNat) else f.place))), (9, .rows 1 (uVs f.value)), (11, .rows 1 (uVs (f.path.set n y.path)))], k + 60⟩ ?_ ?_
  · skip
    refine region_k T_ok (by decide) fun K hK => ?_
    simp [go_sem, insC, Ins.cs, e0, eq0, e2, eq2, e4, eq4, e6, eq6, e8, eq8, e10, eq10, e12, eq12, e14, eq14, e16, eq16, e18, eq18, e20, eq20, e22, eq22, e24, eq24, e26, eq26, e28, eq28, e30, eq30, e32, eq32, e34, eq34, e36, eq36, e38, eq38, e40, eq40, e42, eq42, e44, eq44]
    refine hK _ ?_; clear hK K
    refine cond_k rfl (fun h => ?_) (fun h => ?_)
    · have hd1 : 0 < x.dep := by simpa using h
      clear h
      obtain ⟨d, hd⟩ : ∃ d : Nat, x.dep = (d : Int) + 1 := ⟨(x.dep - 1).toNat, by omega⟩
      have hd8 : d < 8 := by omega
      have hd0 : (0 : Int) ≤ (d : Nat) := by omega
      have hdI : (d : Int) < 8 := by omega
      have hdp : (0 : Int) < (d : Int) + 1 := by omega
      have hwd : IntKind.i64.wrap (d : Int) = d := wrap_i64 (by omega) (by omega)
      have hd17 : 17 + d + 1 ≤ 29 := by omega
      refine draw_e T_ok (by kernel_rfl) 13 [[], [0], [0, 1], [0, 1, 2], [], [], [], [6], [6, 7], [5], [5, 9], [5, 6, 7, 8, 9, 10], [5, 6, 7, 8, 9, 10, 11], [0, 1, 2, 3, 4, 5, 6, 7, 8, 9, 10, 11, 12], [0, 1, 2, 3, 4, 5, 6, 7, 8, 9, 10, 11, 12, 13]] [] (by decide) (by decide) (by decide) fun K hK => ?_
      first | dsimp only [List.take, List.drop] | dsimp [List.take, List.drop]
      simp [go_sem, insC, Ins.cs, e0, eq0, e2, eq2, e4, eq4, e6, eq6, e8, eq8, e10, eq10, e12, eq12, e14, eq14, e16, eq16, e18, eq18, e20, eq20, e22, eq22, e24, eq24, e26, eq26, e28, eq28, e30, eq30, e32, eq32, e34, eq34, e36, eq36, e38, eq38, e40, eq40, e42, eq42, e44, eq44, m1, m2, m3, m4, m5, m6, nI, n0, hd, hdp, hwd, hd8, hd0, hdI, hd17]
      refine hK _ ?_; clear hK K
      refine Weaker.fzk 1 0 (by omega) ?_ ?_ ?_
      · simp [go_sem, insC, Ins.cs, e0, eq0, e2, eq2, e4, eq4, e6, eq6, e8, eq8, e10, eq10, e12, eq12, e14, eq14, e16, eq16, e18, eq18, e20, eq20, e22, eq22, e24, eq24, e26, eq26, e28, eq28, e30, eq30, e32, eq32, e34, eq34, e36, eq36, e38, eq38, e40, eq40, e42, eq42, e44, eq44, hd, hdp]
      · first | (simp; done) | (simp; omega)
      · simp [go_sem, insC, Ins.cs, e0, eq0, e2, eq2, e4, eq4, e6, eq6, e8, eq8, e10, eq10, e12, eq12, e14, eq14, e16, eq16, e18, eq18, e20, eq20, e22, eq22, e24, eq24, e26, eq26, e28, eq28, e30, eq30, e32, eq32, e34, eq34, e36, eq36, e38, eq38, e40, eq40, e42, eq42, e44, eq44, hd, hdp]
    · have hnd : ¬ 0 < x.dep := by simpa using h
      clear h
      refine tr_skip ?_
      refine Weaker.fzk 1 0 (by omega) ?_ ?_ ?_
      · simp [go_sem, insC, Ins.cs, e0, eq0, e2, eq2, e4, eq4, e6, eq6, e8, eq8, e10, eq10, e12, eq12, e14, eq14, e16, eq16, e18, eq18, e20, eq20, e22, eq22, e24, eq24, e26, eq26, e28, eq28, e30, eq30, e32, eq32, e34, eq34, e36, eq36, e38, eq38, e40, eq40, e42, eq42, e44, eq44, hnd]
      · first | (simp; done) | (simp; omega)
      · simp [go_sem, insC, Ins.cs, e0, eq0, e2, eq2, e4, eq4, e6, eq6, e8, eq8, e10, eq10, e12, eq12, e14, eq14, e16, eq16, e18, eq18, e20, eq20, e22, eq22, e24, eq24, e26, eq26, e28, eq28, e30, eq30, e32, eq32, e34, eq34, e36, eq36, e38, eq38, e40, eq40, e42, eq42, e44, eq44, hnd]
  · skip
    refine region_k T_ok (by decide) fun K hK => ?_
    simp [go_sem, insC, Ins.cs, e0, eq0, e2, eq2, e4, eq4, e6, eq6, e8, eq8, e10, eq10, e12, eq12, e14, eq14, e16, eq16, e18, eq18, e20, eq20, e22, eq22, e24, eq24, e26, eq26, e28, eq28, e30, eq30, e32, eq32, e34, eq34, e36, eq36, e38, eq38, e40, eq40, e42, eq42, e44, eq44]
    refine call_own (arg_fn w _ (by omega) (.ptr 12 0 0) y x.aR x.aN ha) rfl (by simp) (by simp [go_sem, e0, eq0, e2, eq2, e4, eq4, e6, eq6, e8, eq8, e10, eq10, e12, eq12, e14, eq14, e16, eq16, e18, eq18, e20, eq20, e22, eq22, e24, eq24, e26, eq26, e28, eq28, e30, eq30, e32, eq32, e34, eq34, e36, eq36, e38, eq38, e40, eq40, e42, eq42, e44, eq44]) fun k' hk' => ?_
    have a0 : ¬ w = k' := by omega
    have aq0 : ¬ k' = w := by omega
    have a2 : ¬ k' = 0 := by omega
    have aq2 : ¬ 0 = k' := by omega
    have a4 : ¬ k' = 1 := by omega
    have aq4 : ¬ 1 = k' := by omega
    have a6 : ¬ k' = 2 := by omega
    have aq6 : ¬ 2 = k' := by omega
    have a8 : ¬ k' = 3 := by omega
    have aq8 : ¬ 3 = k' := by omega
    have a10 : ¬ k' = 4 := by omega
    have aq10 : ¬ 4 = k' := by omega
    have a12 : ¬ k' = 5 := by omega
    have aq12 : ¬ 5 = k' := by omega
    have a14 : ¬ k' = 6 := by omega
    have aq14 : ¬ 6 = k' := by omega
    have a16 : ¬ k' = 7 := by omega
    have aq16 : ¬ 7 = k' := by omega
    have a18 : ¬ k' = 8 := by omega
    have aq18 : ¬ 8 = k' := by omega
    have a20 : ¬ k' = 9 := by omega
    have aq20 : ¬ 9 = k' := by omega
    have a22 : ¬ k' = 10 := by omega
    have aq22 : ¬ 10 = k' := by omega
    have a24 : ¬ k' = 11 := by omega
    have aq24 : ¬ 11 = k' := by omega
    have a26 : ¬ k' = 12 := by omega
    have aq26 : ¬ 12 = k' := by omega
    have a28 : ¬ k' = k := by omega
    have aq28 : ¬ k = k' := by omega
    have a30 : ¬ k' = k + 1 := by omega
    have aq30 : ¬ k + 1 = k' := by omega
    simp [go_sem, e0, eq0, e2, eq2, e4, eq4, e6, eq6, e8, eq8, e10, eq10, e12, eq12, e14, eq14, e16, eq16, e18, eq18, e20, eq20, e22, eq22, e24, eq24, e26, eq26, e28, eq28, e30, eq30, e32, eq32, e34, eq34, e36, eq36, e38, eq38, e40, eq40, e42, eq42, e44, eq44, a0, aq0, a2, aq2, a4, aq4, a6, aq6, a8, aq8, a10, aq10, a12, aq12, a14, aq14, a16, aq16, a18, aq18, a20, aq20, a22, aq22, a24, aq24, a26, aq26, a28, aq28, a30, aq30]
    refine hK _ ?_; clear hK K
    refine region_k T_ok (by decide) fun K hK => ?_
    simp [go_sem, insC, Ins.cs, e0, eq0, e2, eq2, e4, eq4, e6, eq6, e8, eq8, e10, eq10, e12, eq12, e14, eq14, e16, eq16, e18, eq18, e20, eq20, e22, eq22, e24, eq24, e26, eq26, e28, eq28, e30, eq30, e32, eq32, e34, eq34, e36, eq36, e38, eq38, e40, eq40, e42, eq42, e44, eq44, a0, aq0, a2, aq2, a4, aq4, a6, aq6, a8, aq8, a10, aq10, a12, aq12, a14, aq14, a16, aq16, a18, aq18, a20, aq20, a22, aq22, a24, aq24, a26, aq26, a28, aq28, a30, aq30]
    refine hK _ ?_; clear hK K
    refine tr_block ?_
    refine seq_k fun K1 hK1 => ?_
    refine region_k T_ok (by decide) fun K hK => ?_
    simp [go_sem]
    refine hK _ ?_; clear hK K
    refine cond_k rfl (fun h => ?_) (fun h => ?_)
    · have hop : x.op = 9 := by simpa using h
      clear h
      refine tr_skip ?_
      refine hK1 _ ?_; try clear hK1 K1
      refine cond_k rfl (fun h => ?_) (fun h => ?_)
      · clear h
        refine draw_k T_ok (by kernel_rfl) 6 [[], [], [1], [], [], [4], [0, 1, 2, 3, 4, 5]] [] (by decide) (by decide) (by decide) fun K hK => ?_
        first | dsimp only [List.take, List.drop] | dsimp [List.take, List.drop]
        simp [go_sem, insC, Ins.cs, e0, eq0, e2, eq2, e4, eq4, e6, eq6, e8, eq8, e10, eq10, e12, eq12, e14, eq14, e16, eq16, e18, eq18, e20, eq20, e22, eq22, e24, eq24, e26, eq26, e28, eq28, e30, eq30, e32, eq32, e34, eq34, e36, eq36, e38, eq38, e40, eq40, e42, eq42, e44, eq44, a0, aq0, a2, aq2, a4, aq4, a6, aq6, a8, aq8, a10, aq10, a12, aq12, a14, aq14, a16, aq16, a18, aq18, a20, aq20, a22, aq22, a24, aq24, a26, aq26, a28, aq28, a30, aq30, m1, m2, m3, m4, m5, m6, nI, n0]
        refine call_own (set_fn w _ (by omega) (.ptr 12 0 0) rfl y x.rd h0 h8 read (sl64 1 (n : Nat))) rfl (by simp) (by simp [go_sem, e0, eq0, e2, eq2, e4, eq4, e6, eq6, e8, eq8, e10, eq10, e12, eq12, e14, eq14, e16, eq16, e18, eq18, e20, eq20, e22, eq22, e24, eq24, e26, eq26, e28, eq28, e30, eq30, e32, eq32, e34, eq34, e36, eq36, e38, eq38, e40, eq40, e42, eq42, e44, eq44, a0, aq0, a2, aq2, a4, aq4, a6, aq6, a8, aq8, a10, aq10, a12, aq12, a14, aq14, a16, aq16, a18, aq18, a20, aq20, a22, aq22, a24, aq24, a26, aq26, a28, aq28, a30, aq30]) fun k9 hk9 => ?_
        simp [go_sem, e0, eq0, e2, eq2, e4, eq4, e6, eq6, e8, eq8, e10, eq10, e12, eq12, e14, eq14, e16, eq16, e18, eq18, e20, eq20, e22, eq22, e24, eq24, e26, eq26, e28, eq28, e30, eq30, e32, eq32, e34, eq34, e36, eq36, e38, eq38, e40, eq40, e42, eq42, e44, eq44, a0, aq0, a2, aq2, a4, aq4, a6, aq6, a8, aq8, a10, aq10, a12, aq12, a14, aq14, a16, aq16, a18, aq18, a20, aq20, a22, aq22, a24, aq24, a26, aq26, a28, aq28, a30, aq30]
        refine hK _ ?_; clear hK K
        refine region_k T_ok (by decide) fun K hK => ?_
        simp [go_sem, insC, Ins.cs, e0, eq0, e2, eq2, e4, eq4, e6, eq6, e8, eq8, e10, eq10, e12, eq12, e14, eq14, e16, eq16, e18, eq18, e20, eq20, e22, eq22, e24, eq24, e26, eq26, e28, eq28, e30, eq30, e32, eq32, e34, eq34, e36, eq36, e38, eq38, e40, eq40, e42, eq42, e44, eq44, a0, aq0, a2, aq2, a4, aq4, a6, aq6, a8, aq8, a10, aq10, a12, aq12, a14, aq14, a16, aq16, a18, aq18, a20, aq20, a22, aq22, a24, aq24, a26, aq26, a28, aq28, a30, aq30]
        refine hK _ ?_; clear hK K
        refine cond_k rfl (fun h => ?_) (fun h => ?_)
        · simp [hop] at h
        · clear h
          refine tr_skip ?_
          refine ⟨.inl rfl, ?_⟩
          first | simp [go_sem, memW, memF, memF0, hop, e0, eq0, e2, eq2, e4, eq4, e6, eq6, e8, eq8, e10, eq10, e12, eq12, e14, eq14, e16, eq16, e18, eq18, e20, eq20, e22, eq22, e24, eq24, e26, eq26, e28, eq28, e30, eq30, e32, eq32, e34, eq34, e36, eq36, e38, eq38, e40, eq40, e42, eq42, e44, eq44, a0, aq0, a2, aq2, a4, aq4, a6, aq6, a8, aq8, a10, aq10, a12, aq12, a14, aq14, a16, aq16, a18, aq18, a20, aq20, a22, aq22, a24, aq24, a26, aq26, a28, aq28, a30, aq30] | simp [go_sem, memW, memF, memF0, n9, n13, n10, n11, n12, n14, e0, eq0, e2, eq2, e4, eq4, e6, eq6, e8, eq8, e10, eq10, e12, eq12, e14, eq14, e16, eq16, e18, eq18, e20, eq20, e22, eq22, e24, eq24, e26, eq26, e28, eq28, e30, eq30, e32, eq32, e34, eq34, e36, eq36, e38, eq38, e40, eq40, e42, eq42, e44, eq44, a0, aq0, a2, aq2, a4, aq4, a6, aq6, a8, aq8, a10, aq10, a12, aq12, a14, aq14, a16, aq16, a18, aq18, a20, aq20, a22, aq22, a24, aq24, a26, aq26, a28, aq28, a30, aq30]
      · simp [hop] at h
    · have n9 : ¬ x.op = 9 := by simpa using h
      clear h
      refine region_e T_ok (by decide) fun K hK => ?_
      simp [go_sem]
      refine hK _ ?_; clear hK K
      refine hK1 _ ?_; try clear hK1 K1
      refine cond_k rfl (fun h => ?_) (fun h => ?_)
      · have hop : x.op = 13 := by simpa using h
        clear h
        refine draw_k T_ok (by kernel_rfl) 6 [[], [], [1], [], [], [4], [0, 1, 2, 3, 4, 5]] [] (by decide) (by decide) (by decide) fun K hK => ?_
        first | dsimp only [List.take, List.drop] | dsimp [List.take, List.drop]
        simp [go_sem, insC, Ins.cs, e0, eq0, e2, eq2, e4, eq4, e6, eq6, e8, eq8, e10, eq10, e12, eq12, e14, eq14, e16, eq16, e18, eq18, e20, eq20, e22, eq22, e24, eq24, e26, eq26, e28, eq28, e30, eq30, e32, eq32, e34, eq34, e36, eq36, e38, eq38, e40, eq40, e42, eq42, e44, eq44, a0, aq0, a2, aq2, a4, aq4, a6, aq6, a8, aq8, a10, aq10, a12, aq12, a14, aq14, a16, aq16, a18, aq18, a20, aq20, a22, aq22, a24, aq24, a26, aq26, a28, aq28, a30, aq30, m1, m2, m3, m4, m5, m6, nI, n0]
        refine call_own (set_fn w _ (by omega) (.ptr 12 0 0) rfl y x.rd h0 h8 read (sl64 1 (n : Nat))) rfl (by simp) (by simp [go_sem, e0, eq0, e2, eq2, e4, eq4, e6, eq6, e8, eq8, e10, eq10, e12, eq12, e14, eq14, e16, eq16, e18, eq18, e20, eq20, e22, eq22, e24, eq24, e26, eq26, e28, eq28, e30, eq30, e32, eq32, e34, eq34, e36, eq36, e38, eq38, e40, eq40, e42, eq42, e44, eq44, a0, aq0, a2, aq2, a4, aq4, a6, aq6, a8, aq8, a10, aq10, a12, aq12, a14, aq14, a16, aq16, a18, aq18, a20, aq20, a22, aq22, a24, aq24, a26, aq26, a28, aq28, a30, aq30]) fun k9 hk9 => ?_
        simp [go_sem, e0, eq0, e2, eq2, e4, eq4, e6, eq6, e8, eq8, e10, eq10, e12, eq12, e14, eq14, e16, eq16, e18, eq18, e20, eq20, e22, eq22, e24, eq24, e26, eq26, e28, eq28, e30, eq30, e32, eq32, e34, eq34, e36, eq36, e38, eq38, e40, eq40, e42, eq42, e44, eq44, a0, aq0, a2, aq2, a4, aq4, a6, aq6, a8, aq8, a10, aq10, a12, aq12, a14, aq14, a16, aq16, a18, aq18, a20, aq20, a22, aq22, a24, aq24, a26, aq26, a28, aq28, a30, aq30]
        refine hK _ ?_; clear hK K
        refine region_k T_ok (by decide) fun K hK => ?_
        simp [go_sem, insC, Ins.cs, e0, eq0, e2, eq2, e4, eq4, e6, eq6, e8, eq8, e10, eq10, e12, eq12, e14, eq14, e16, eq16, e18, eq18, e20, eq20, e22, eq22, e24, eq24, e26, eq26, e28, eq28, e30, eq30, e32, eq32, e34, eq34, e36, eq36, e38, eq38, e40, eq40, e42, eq42, e44, eq44, a0, aq0, a2, aq2, a4, aq4, a6, aq6, a8, aq8, a10, aq10, a12, aq12, a14, aq14, a16, aq16, a18, aq18, a20, aq20, a22, aq22, a24, aq24, a26, aq26, a28, aq28, a30, aq30]
        refine hK _ ?_; clear hK K
        refine cond_k rfl (fun h => ?_) (fun h => ?_)
        · clear h
          refine draw_e T_ok (by kernel_rfl) 9 [[], [], [], [2], [], [4], [0, 2, 3], [0, 2, 3, 6], [0, 2, 3, 6, 7], [0, 1, 2, 3, 4, 5, 6, 7, 8], [0, 1, 2, 3, 4, 5, 6, 7, 8, 9], [0, 1, 2, 3, 4, 5, 6, 7, 8, 9, 10]] [(1, 8), (4, 8), (5, 8)] (by decide) (by decide) (by decide) fun K hK => ?_
          first | dsimp only [List.take, List.drop] | dsimp [List.take, List.drop]
          simp [go_sem, insC, Ins.cs, e0, eq0, e2, eq2, e4, eq4, e6, eq6, e8, eq8, e10, eq10, e12, eq12, e14, eq14, e16, eq16, e18, eq18, e20, eq20, e22, eq22, e24, eq24, e26, eq26, e28, eq28, e30, eq30, e32, eq32, e34, eq34, e36, eq36, e38, eq38, e40, eq40, e42, eq42, e44, eq44, a0, aq0, a2, aq2, a4, aq4, a6, aq6, a8, aq8, a10, aq10, a12, aq12, a14, aq14, a16, aq16, a18, aq18, a20, aq20, a22, aq22, a24, aq24, a26, aq26, a28, aq28, a30, aq30, m1, m2, m3, m4, m5, m6, nI, n0, hwn]
          refine ⟨by omega, ?_⟩
          refine hK _ ?_; clear hK K
          refine ⟨.inl rfl, ?_⟩
          first | simp [go_sem, memW, memF, memF0, hop, e0, eq0, e2, eq2, e4, eq4, e6, eq6, e8, eq8, e10, eq10, e12, eq12, e14, eq14, e16, eq16, e18, eq18, e20, eq20, e22, eq22, e24, eq24, e26, eq26, e28, eq28, e30, eq30, e32, eq32, e34, eq34, e36, eq36, e38, eq38, e40, eq40, e42, eq42, e44, eq44, a0, aq0, a2, aq2, a4, aq4, a6, aq6, a8, aq8, a10, aq10, a12, aq12, a14, aq14, a16, aq16, a18, aq18, a20, aq20, a22, aq22, a24, aq24, a26, aq26, a28, aq28, a30, aq30] | simp [go_sem, memW, memF, memF0, n9, n13, n10, n11, n12, n14, e0, eq0, e2, eq2, e4, eq4, e6, eq6, e8, eq8, e10, eq10, e12, eq12, e14, eq14, e16, eq16, e18, eq18, e20, eq20, e22, eq22, e24, eq24, e26, eq26, e28, eq28, e30, eq30, e32, eq32, e34, eq34, e36, eq36, e38, eq38, e40, eq40, e42, eq42, e44, eq44, a0, aq0, a2, aq2, a4, aq4, a6, aq6, a8, aq8, a10, aq10, a12, aq12, a14, aq14, a16, aq16, a18, aq18, a20, aq20, a22, aq22, a24, aq24, a26, aq26, a28, aq28, a30, aq30]
        · simp [hop] at h
      · have n13 : ¬ x.op = 13 := by simpa using h
        clear h
        refine region_k T_ok (by decide) fun K hK => ?_
        simp [go_sem]
        refine hK _ ?_; clear hK K
        refine cond_k rfl (fun h => ?_) (fun h => ?_)
        · have hop : x.op = 10 := by simpa using h
          clear h
          refine draw_e T_ok (by kernel_rfl) 14 [[], [0], [0, 1], [0, 1, 2], [], [], [5], [5, 6], [5, 6, 7], [], [], [], [0, 1, 2, 3, 4, 5, 6, 7, 8, 10], [0, 1, 2, 3, 4, 5, 6, 7, 8, 10, 12], [0, 1, 2, 3, 4, 5, 6, 7, 8, 9, 10, 11, 12, 13], [0, 1, 2, 3, 4, 5, 6, 7, 8, 9, 10, 11, 12, 13, 14]] [(9, 13), (11, 13)] (by decide) (by decide) (by decide) fun K hK => ?_
          first | dsimp only [List.take, List.drop] | dsimp [List.take, List.drop]
          simp [go_sem, insC, Ins.cs, e0, eq0, e2, eq2, e4, eq4, e6, eq6, e8, eq8, e10, eq10, e12, eq12, e14, eq14, e16, eq16, e18, eq18, e20, eq20, e22, eq22, e24, eq24, e26, eq26, e28, eq28, e30, eq30, e32, eq32, e34, eq34, e36, eq36, e38, eq38, e40, eq40, e42, eq42, e44, eq44, a0, aq0, a2, aq2, a4, aq4, a6, aq6, a8, aq8, a10, aq10, a12, aq12, a14, aq14, a16, aq16, a18, aq18, a20, aq20, a22, aq22, a24, aq24, a26, aq26, a28, aq28, a30, aq30, m1, m2, m3, m4, m5, m6, nI, n0]
          refine hK _ ?_; clear hK K
          refine ⟨.inl rfl, ?_⟩
          first | simp [go_sem, memW, memF, memF0, hop, e0, eq0, e2, eq2, e4, eq4, e6, eq6, e8, eq8, e10, eq10, e12, eq12, e14, eq14, e16, eq16, e18, eq18, e20, eq20, e22, eq22, e24, eq24, e26, eq26, e28, eq28, e30, eq30, e32, eq32, e34, eq34, e36, eq36, e38, eq38, e40, eq40, e42, eq42, e44, eq44, a0, aq0, a2, aq2, a4, aq4, a6, aq6, a8, aq8, a10, aq10, a12, aq12, a14, aq14, a16, aq16, a18, aq18, a20, aq20, a22, aq22, a24, aq24, a26, aq26, a28, aq28, a30, aq30] | simp [go_sem, memW, memF, memF0, n9, n13, n10, n11, n12, n14, e0, eq0, e2, eq2, e4, eq4, e6, eq6, e8, eq8, e10, eq10, e12, eq12, e14, eq14, e16, eq16, e18, eq18, e20, eq20, e22, eq22, e24, eq24, e26, eq26, e28, eq28, e30, eq30, e32, eq32, e34, eq34, e36, eq36, e38, eq38, e40, eq40, e42, eq42, e44, eq44, a0, aq0, a2, aq2, a4, aq4, a6, aq6, a8, aq8, a10, aq10, a12, aq12, a14, aq14, a16, aq16, a18, aq18, a20, aq20, a22, aq22, a24, aq24, a26, aq26, a28, aq28, a30, aq30]
        · have n10 : ¬ x.op = 10 := by simpa using h
          clear h
          refine region_k T_ok (by decide) fun K hK => ?_
          simp [go_sem]
          refine hK _ ?_; clear hK K
          refine cond_k rfl (fun h => ?_) (fun h => ?_)
          · have hop : x.op = 11 := by simpa using h
            clear h
            refine draw_k T_ok (by kernel_rfl) 14 [[], [0], [0, 1], [0, 1, 2], [], [], [5], [5, 6], [5, 6, 7], [], [], [], [0, 1, 2, 3, 4, 5, 6, 7, 8, 10], [0, 1, 2, 3, 4, 5, 6, 7, 8, 10, 12], [0, 1, 2, 3, 4, 5, 6, 7, 8, 9, 10, 11, 12, 13], [0, 1, 2, 3, 4, 5, 6, 7, 8, 9, 10, 11, 12, 13, 14]] [(9, 13), (11, 13)] (by decide) (by decide) (by decide) fun K hK => ?_
            first | dsimp only [List.take, List.drop] | dsimp [List.take, List.drop]
            simp [go_sem, insC, Ins.cs, e0, eq0, e2, eq2, e4, eq4, e6, eq6, e8, eq8, e10, eq10, e12, eq12, e14, eq14, e16, eq16, e18, eq18, e20, eq20, e22, eq22, e24, eq24, e26, eq26, e28, eq28, e30, eq30, e32, eq32, e34, eq34, e36, eq36, e38, eq38, e40, eq40, e42, eq42, e44, eq44, a0, aq0, a2, aq2, a4, aq4, a6, aq6, a8, aq8, a10, aq10, a12, aq12, a14, aq14, a16, aq16, a18, aq18, a20, aq20, a22, aq22, a24, aq24, a26, aq26, a28, aq28, a30, aq30, m1, m2, m3, m4, m5, m6, nI, n0]
            refine hK _ ?_; clear hK K
            refine draw_e T_ok (by kernel_rfl) 6 [[], [], [1], [], [], [4], [0, 1, 2, 3, 4, 5]] [] (by decide) (by decide) (by decide) fun K hK => ?_
            first | dsimp only [List.take, List.drop] | dsimp [List.take, List.drop]
            simp [go_sem, insC, Ins.cs, e0, eq0, e2, eq2, e4, eq4, e6, eq6, e8, eq8, e10, eq10, e12, eq12, e14, eq14, e16, eq16, e18, eq18, e20, eq20, e22, eq22, e24, eq24, e26, eq26, e28, eq28, e30, eq30, e32, eq32, e34, eq34, e36, eq36, e38, eq38, e40, eq40, e42, eq42, e44, eq44, a0, aq0, a2, aq2, a4, aq4, a6, aq6, a8, aq8, a10, aq10, a12, aq12, a14, aq14, a16, aq16, a18, aq18, a20, aq20, a22, aq22, a24, aq24, a26, aq26, a28, aq28, a30, aq30, m1, m2, m3, m4, m5, m6, nI, n0]
            refine call_own (set_fn w _ (by omega) (.ptr 12 0 0) rfl y x.rd h0 h8 read (sl64 1 (n : Nat))) rfl (by simp) (by simp [go_sem, e0, eq0, e2, eq2, e4, eq4, e6, eq6, e8, eq8, e10, eq10, e12, eq12, e14, eq14, e16, eq16, e18, eq18, e20, eq20, e22, eq22, e24, eq24, e26, eq26, e28, eq28, e30, eq30, e32, eq32, e34, eq34, e36, eq36, e38, eq38, e40, eq40, e42, eq42, e44, eq44, a0, aq0, a2, aq2, a4, aq4, a6, aq6, a8, aq8, a10, aq10, a12, aq12, a14, aq14, a16, aq16, a18, aq18, a20, aq20, a22, aq22, a24, aq24, a26, aq26, a28, aq28, a30, aq30]) fun k9 hk9 => ?_
            simp [go_sem, e0, eq0, e2, eq2, e4, eq4, e6, eq6, e8, eq8, e10, eq10, e12, eq12, e14, eq14, e16, eq16, e18, eq18, e20, eq20, e22, eq22, e24, eq24, e26, eq26, e28, eq28, e30, eq30, e32, eq32, e34, eq34, e36, eq36, e38, eq38, e40, eq40, e42, eq42, e44, eq44, a0, aq0, a2, aq2, a4, aq4, a6, aq6, a8, aq8, a10, aq10, a12, aq12, a14, aq14, a16, aq16, a18, aq18, a20, aq20, a22, aq22, a24, aq24, a26, aq26, a28, aq28, a30, aq30]
            refine hK _ ?_; clear hK K
            refine ⟨.inl rfl, ?_⟩
            first | simp [go_sem, memW, memF, memF0, hop, e0, eq0, e2, eq2, e4, eq4, e6, eq6, e8, eq8, e10, eq10, e12, eq12, e14, eq14, e16, eq16, e18, eq18, e20, eq20, e22, eq22, e24, eq24, e26, eq26, e28, eq28, e30, eq30, e32, eq32, e34, eq34, e36, eq36, e38, eq38, e40, eq40, e42, eq42, e44, eq44, a0, aq0, a2, aq2, a4, aq4, a6, aq6, a8, aq8, a10, aq10, a12, aq12, a14, aq14, a16, aq16, a18, aq18, a20, aq20, a22, aq22, a24, aq24, a26, aq26, a28, aq28, a30, aq30] | simp [go_sem, memW, memF, memF0, n9, n13, n10, n11, n12, n14, e0, eq0, e2, eq2, e4, eq4, e6, eq6, e8, eq8, e10, eq10, e12, eq12, e14, eq14, e16, eq16, e18, eq18, e20, eq20, e22, eq22, e24, eq24, e26, eq26, e28, eq28, e30, eq30, e32, eq32, e34, eq34, e36, eq36, e38, eq38, e40, eq40, e42, eq42, e44, eq44, a0, aq0, a2, aq2, a4, aq4, a6, aq6, a8, aq8, a10, aq10, a12, aq12, a14, aq14, a16, aq16, a18, aq18, a20, aq20, a22, aq22, a24, aq24, a26, aq26, a28, aq28, a30, aq30]
          · have n11 : ¬ x.op = 11 := by simpa using h
            clear h
            refine region_k T_ok (by decide) fun K hK => ?_
            simp [go_sem]
            refine hK _ ?_; clear hK K
            refine cond_k rfl (fun h => ?_) (fun h => ?_)
            · have hop : x.op = 12 := by simpa using h
              clear h
              refine draw_k T_ok (by kernel_rfl) 17 [[], [0], [0, 1], [0, 1, 2], [], [], [5], [5, 6], [5, 6, 7], [], [], [], [10, 11], [10, 11, 12], [], [0, 1, 2, 3, 4, 5, 6, 7, 8, 10, 11, 12, 13], [0, 1, 2, 3, 4, 5, 6, 7, 8, 10, 11, 12, 13, 15], [0, 1, 2, 3, 4, 5, 6, 7, 8, 9, 10, 11, 12, 13, 14, 15, 16], [0, 1, 2, 3, 4, 5, 6, 7, 8, 9, 10, 11, 12, 13, 14, 15, 16, 17]] [(9, 16), (14, 16)] (by decide) (by decide) (by decide) fun K hK => ?_
              first | dsimp only [List.take, List.drop] | dsimp [List.take, List.drop]
              simp [go_sem, insC, Ins.cs, e0, eq0, e2, eq2, e4, eq4, e6, eq6, e8, eq8, e10, eq10, e12, eq12, e14, eq14, e16, eq16, e18, eq18, e20, eq20, e22, eq22, e24, eq24, e26, eq26, e28, eq28, e30, eq30, e32, eq32, e34, eq34, e36, eq36, e38, eq38, e40, eq40, e42, eq42, e44, eq44, a0, aq0, a2, aq2, a4, aq4, a6, aq6, a8, aq8, a10, aq10, a12, aq12, a14, aq14, a16, aq16, a18, aq18, a20, aq20, a22, aq22, a24, aq24, a26, aq26, a28, aq28, a30, aq30, m1, m2, m3, m4, m5, m6, nI, n0]
              refine callD_of (sum_pf (argW y x.aR x.aN) read) ?_
              simp [go_sem, insC, Ins.cs, e0, eq0, e2, eq2, e4, eq4, e6, eq6, e8, eq8, e10, eq10, e12, eq12, e14, eq14, e16, eq16, e18, eq18, e20, eq20, e22, eq22, e24, eq24, e26, eq26, e28, eq28, e30, eq30, e32, eq32, e34, eq34, e36, eq36, e38, eq38, e40, eq40, e42, eq42, e44, eq44, a0, aq0, a2, aq2, a4, aq4, a6, aq6, a8, aq8, a10, aq10, a12, aq12, a14, aq14, a16, aq16, a18, aq18, a20, aq20, a22, aq22, a24, aq24, a26, aq26, a28, aq28, a30, aq30, m1, m2, m3, m4, m5, m6, nI, n0]
              refine callD_of (clean_pf (vsum (argW y x.aR x.aN) read)) ?_
              simp [go_sem, insC, Ins.cs, e0, eq0, e2, eq2, e4, eq4, e6, eq6, e8, eq8, e10, eq10, e12, eq12, e14, eq14, e16, eq16, e18, eq18, e20, eq20, e22, eq22, e24, eq24, e26, eq26, e28, eq28, e30, eq30, e32, eq32, e34, eq34, e36, eq36, e38, eq38, e40, eq40, e42, eq42, e44, eq44, a0, aq0, a2, aq2, a4, aq4, a6, aq6, a8, aq8, a10, aq10, a12, aq12, a14, aq14, a16, aq16, a18, aq18, a20, aq20, a22, aq22, a24, aq24, a26, aq26, a28, aq28, a30, aq30, m1, m2, m3, m4, m5, m6, nI, n0]
              refine hK _ ?_; clear hK K
              refine draw_e T_ok (by kernel_rfl) 6 [[], [], [1], [], [], [4], [0, 1, 2, 3, 4, 5]] [] (by decide) (by decide) (by decide) fun K hK => ?_
              first | dsimp only [List.take, List.drop] | dsimp [List.take, List.drop]
              simp [go_sem, insC, Ins.cs, e0, eq0, e2, eq2, e4, eq4, e6, eq6, e8, eq8, e10, eq10, e12, eq12, e14, eq14, e16, eq16, e18, eq18, e20, eq20, e22, eq22, e24, eq24, e26, eq26, e28, eq28, e30, eq30, e32, eq32, e34, eq34, e36, eq36, e38, eq38, e40, eq40, e42, eq42, e44, eq44, a0, aq0, a2, aq2, a4, aq4, a6, aq6, a8, aq8, a10, aq10, a12, aq12, a14, aq14, a16, aq16, a18, aq18, a20, aq20, a22, aq22, a24, aq24, a26, aq26, a28, aq28, a30, aq30, m1, m2, m3, m4, m5, m6, nI, n0]
              refine call_own (set_fn w _ (by omega) (.ptr 12 0 0) rfl y x.rd h0 h8 read (sl64 1 (n : Nat))) rfl (by simp) (by simp [go_sem, e0, eq0, e2, eq2, e4, eq4, e6, eq6, e8, eq8, e10, eq10, e12, eq12, e14, eq14, e16, eq16, e18, eq18, e20, eq20, e22, eq22, e24, eq24, e26, eq26, e28, eq28, e30, eq30, e32, eq32, e34, eq34, e36, eq36, e38, eq38, e40, eq40, e42, eq42, e44, eq44, a0, aq0, a2, aq2, a4, aq4, a6, aq6, a8, aq8, a10, aq10, a12, aq12, a14, aq14, a16, aq16, a18, aq18, a20, aq20, a22, aq22, a24, aq24, a26, aq26, a28, aq28, a30, aq30]) fun k9 hk9 => ?_
              simp [go_sem, e0, eq0, e2, eq2, e4, eq4, e6, eq6, e8, eq8, e10, eq10, e12, eq12, e14, eq14, e16, eq16, e18, eq18, e20, eq20, e22, eq22, e24, eq24, e26, eq26, e28, eq28, e30, eq30, e32, eq32, e34, eq34, e36, eq36, e38, eq38, e40, eq40, e42, eq42, e44, eq44, a0, aq0, a2, aq2, a4, aq4, a6, aq6, a8, aq8, a10, aq10, a12, aq12, a14, aq14, a16, aq16, a18, aq18, a20, aq20, a22, aq22, a24, aq24, a26, aq26, a28, aq28, a30, aq30]
              refine hK _ ?_; clear hK K
              refine ⟨.inl rfl, ?_⟩
              first | simp [go_sem, memW, memF, memF0, hop, e0, eq0, e2, eq2, e4, eq4, e6, eq6, e8, eq8, e10, eq10, e12, eq12, e14, eq14, e16, eq16, e18, eq18, e20, eq20, e22, eq22, e24, eq24, e26, eq26, e28, eq28, e30, eq30, e32, eq32, e34, eq34, e36, eq36, e38, eq38, e40, eq40, e42, eq42, e44, eq44, a0, aq0, a2, aq2, a4, aq4, a6, aq6, a8, aq8, a10, aq10, a12, aq12, a14, aq14, a16, aq16, a18, aq18, a20, aq20, a22, aq22, a24, aq24, a26, aq26, a28, aq28, a30, aq30] | simp [go_sem, memW, memF, memF0, n9, n13, n10, n11, n12, n14, e0, eq0, e2, eq2, e4, eq4, e6, eq6, e8, eq8, e10, eq10, e12, eq12, e14, eq14, e16, eq16, e18, eq18, e20, eq20, e22, eq22, e24, eq24, e26, eq26, e28, eq28, e30, eq30, e32, eq32, e34, eq34, e36, eq36, e38, eq38, e40, eq40, e42, eq42, e44, eq44, a0, aq0, a2, aq2, a4, aq4, a6, aq6, a8, aq8, a10, aq10, a12, aq12, a14, aq14, a16, aq16, a18, aq18, a20, aq20, a22, aq22, a24, aq24, a26, aq26, a28, aq28, a30, aq30]
            · have n12 : ¬ x.op = 12 := by simpa using h
              clear h
              refine region_k T_ok (by decide) fun K hK => ?_
              simp [go_sem]
              refine hK _ ?_; clear hK K
              refine cond_k rfl (fun h => ?_) (fun h => ?_)
              · have hop : x.op = 14 := by simpa using h
                clear h
                refine region_e T_ok (by decide) fun K hK => ?_
                simp [go_sem, insC, Ins.cs, e0, eq0, e2, eq2, e4, eq4, e6, eq6, e8, eq8, e10, eq10, e12, eq12, e14, eq14, e16, eq16, e18, eq18, e20, eq20, e22, eq22, e24, eq24, e26, eq26, e28, eq28, e30, eq30, e32, eq32, e34, eq34, e36, eq36, e38, eq38, e40, eq40, e42, eq42, e44, eq44, a0, aq0, a2, aq2, a4, aq4, a6, aq6, a8, aq8, a10, aq10, a12, aq12, a14, aq14, a16, aq16, a18, aq18, a20, aq20, a22, aq22, a24, aq24, a26, aq26, a28, aq28, a30, aq30]
                refine call_own (cond_fn w _ h12 (by omega) m L R Wh y (memF0 y f x n) hfl0 x n hn (argW y x.aR x.aN) (argH y x.aR x.aN) works h0 h8) rfl (by simp [e0, eq0, e2, eq2, e4, eq4, e6, eq6, e8, eq8, e10, eq10, e12, eq12, e14, eq14, e16, eq16, e18, eq18, e20, eq20, e22, eq22, e24, eq24, e26, eq26, e28, eq28, e30, eq30, e32, eq32, e34, eq34, e36, eq36, e38, eq38, e40, eq40, e42, eq42, e44, eq44]) (by simp [go_sem, memF0, e0, eq0, e2, eq2, e4, eq4, e6, eq6, e8, eq8, e10, eq10, e12, eq12, e14, eq14, e16, eq16, e18, eq18, e20, eq20, e22, eq22, e24, eq24, e26, eq26, e28, eq28, e30, eq30, e32, eq32, e34, eq34, e36, eq36, e38, eq38, e40, eq40, e42, eq42, e44, eq44, a0, aq0, a2, aq2, a4, aq4, a6, aq6, a8, aq8, a10, aq10, a12, aq12, a14, aq14, a16, aq16, a18, aq18, a20, aq20, a22, aq22, a24, aq24, a26, aq26, a28, aq28, a30, aq30]) fun k9 hk9 => ?_
                simp [go_sem, e0, eq0, e2, eq2, e4, eq4, e6, eq6, e8, eq8, e10, eq10, e12, eq12, e14, eq14, e16, eq16, e18, eq18, e20, eq20, e22, eq22, e24, eq24, e26, eq26, e28, eq28, e30, eq30, e32, eq32, e34, eq34, e36, eq36, e38, eq38, e40, eq40, e42, eq42, e44, eq44, a0, aq0, a2, aq2, a4, aq4, a6, aq6, a8, aq8, a10, aq10, a12, aq12, a14, aq14, a16, aq16, a18, aq18, a20, aq20, a22, aq22, a24, aq24, a26, aq26, a28, aq28, a30, aq30]
                refine hK _ ?_; clear hK K
                refine ⟨.inl rfl, ?_⟩
                first | simp [go_sem, memW, memF, memF0, hop, e0, eq0, e2, eq2, e4, eq4, e6, eq6, e8, eq8, e10, eq10, e12, eq12, e14, eq14, e16, eq16, e18, eq18, e20, eq20, e22, eq22, e24, eq24, e26, eq26, e28, eq28, e30, eq30, e32, eq32, e34, eq34, e36, eq36, e38, eq38, e40, eq40, e42, eq42, e44, eq44, a0, aq0, a2, aq2, a4, aq4, a6, aq6, a8, aq8, a10, aq10, a12, aq12, a14, aq14, a16, aq16, a18, aq18, a20, aq20, a22, aq22, a24, aq24, a26, aq26, a28, aq28, a30, aq30] | simp [go_sem, memW, memF, memF0, n9, n13, n10, n11, n12, n14, e0, eq0, e2, eq2, e4, eq4, e6, eq6, e8, eq8, e10, eq10, e12, eq12, e14, eq14, e16, eq16, e18, eq18, e20, eq20, e22, eq22, e24, eq24, e26, eq26, e28, eq28, e30, eq30, e32, eq32, e34, eq34, e36, eq36, e38, eq38, e40, eq40, e42, eq42, e44, eq44, a0, aq0, a2, aq2, a4, aq4, a6, aq6, a8, aq8, a10, aq10, a12, aq12, a14, aq14, a16, aq16, a18, aq18, a20, aq20, a22, aq22, a24, aq24, a26, aq26, a28, aq28, a30, aq30]
              · have n14 : ¬ x.op = 14 := by simpa using h
                clear h
                refine tr_skip ?_
                refine ⟨.inl rfl, ?_⟩
                first | simp [go_sem, memW, memF, memF0, hop, e0, eq0, e2, eq2, e4, eq4, e6, eq6, e8, eq8, e10, eq10, e12, eq12, e14, eq14, e16, eq16, e18, eq18, e20, eq20, e22, eq22, e24, eq24, e26, eq26, e28, eq28, e30, eq30, e32, eq32, e34, eq34, e36, eq36, e38, eq38, e40, eq40, e42, eq42, e44, eq44, a0, aq0, a2, aq2, a4, aq4, a6, aq6, a8, aq8, a10, aq10, a12, aq12, a14, aq14, a16, aq16, a18, aq18, a20, aq20, a22, aq22, a24, aq24, a26, aq26, a28, aq28, a30, aq30] | simp [go_sem, memW, memF, memF0, n9, n13, n10, n11, n12, n14, e0, eq0, e2, eq2, e4, eq4, e6, eq6, e8, eq8, e10, eq10, e12, eq12, e14, eq14, e16, eq16, e18, eq18, e20, eq20, e22, eq22, e24, eq24, e26, eq26, e28, eq28, e30, eq30, e32, eq32, e34, eq34, e36, eq36, e38, eq38, e40, eq40, e42, eq42, e44, eq44, a0, aq0, a2, aq2, a4, aq4, a6, aq6, a8, aq8, a10, aq10, a12, aq12, a14, aq14, a16, aq16, a18, aq18, a20, aq20, a22, aq22, a24, aq24, a26, aq26, a28, aq28, a30, aq30]

end Go.Proofs.Ytokdphmnlcmbbaa
/- Flow: a branch, another instruction. -/
namespace Go.Proofs.Ytokdphmnlcmbbaa
open Go Go.Sl Go.Proofs.Try

set_option maxRecDepth 20000 in
set_option maxHeartbeats 4000000 in
theorem branch_fn (w k : Nat) (hw : w < k) (fp : V) (hfp : fp.one = true) (y : Wk) (x : Ins) (hx : InsOk x) : Sl.Fn Try.prog 37 [.ptr w 0 0, insC x] [(w, .rows 29 [.agg (wkC fp y)])] k fun r H _ => r = .tup [iV (brN y x), bV (brK y x)] ∧ H = [(w, .rows 29 [.agg (wkC fp (brW y x))])] := by
  have e0 : ¬ w = k := by omega
  have eq0 : ¬ k = w := by omega
  have e2 : ¬ w = k + 1 := by omega
  have eq2 : ¬ k + 1 = w := by omega
  refine Sl.Fn.keep (by simp) ?_
  obtain ⟨h0, h8, ha, hb, hdep, hskip⟩ := hx
  refine fn_in T_ok func37 rfl rfl ntmps37 rfl (by simp) ?_
  refine region_k T_ok (by decide) fun K hK => ?_
  simp [go_sem, insC, Ins.cs, e0, eq0, e2, eq2]
  refine hK _ ?_; clear hK K
  refine region_k T_ok (by decide) fun K hK => ?_
  simp [go_sem, insC, Ins.cs, e0, eq0, e2, eq2]
  refine call_own (arg_fn w _ (by omega) fp y x.aR x.aN ha) rfl (by simp) (by simp [go_sem, e0, eq0, e2, eq2]) fun k' hk' => ?_
  have a0 : ¬ w = k' := by omega
  have aq0 : ¬ k' = w := by omega
  have a2 : ¬ k' = k := by omega
  have aq2 : ¬ k = k' := by omega
  simp [go_sem, e0, eq0, e2, eq2, a0, aq0, a2, aq2]
  refine hK _ ?_; clear hK K
  refine region_k T_ok (by decide) fun K hK => ?_
  simp [go_sem, insC, Ins.cs, e0, eq0, e2, eq2, a0, aq0, a2, aq2]
  refine call_own (arg_fn w _ (by omega) fp y x.bR x.bN hb) rfl (by simp) (by simp [go_sem, e0, eq0, e2, eq2, a0, aq0, a2, aq2]) fun k'' hk'' => ?_
  have b0 : ¬ w = k'' := by omega
  have bq0 : ¬ k'' = w := by omega
  have b2 : ¬ k'' = k := by omega
  have bq2 : ¬ k = k'' := by omega
  have b4 : ¬ k'' = k' := by omega
  have bq4 : ¬ k' = k'' := by omega
  simp [go_sem, e0, eq0, e2, eq2, a0, aq0, a2, aq2, b0, bq0, b2, bq2, b4, bq4]
  refine hK _ ?_; clear hK K
  refine region_k T_ok (by decide) fun K hK => ?_
  simp [go_sem, insC, Ins.cs, e0, eq0, e2, eq2, a0, aq0, a2, aq2, b0, bq0, b2, bq2, b4, bq4, hfp]
  refine hK _ ?_; clear hK K
  refine seq_k fun K1 hK1 => ?_
  refine region_to T_ok (by decide) ⟨53, [(0, .ptr w 0 0), (3, .ptr k 0 0), (6, .ptr k' 0 0), (8, .ptr k'' 0 0), (41, bV (!brK y x))], [(k'', .rows 2 [.agg [bV (argW y x.bR x.bN).k, uV (argW y x.bR x.bN).v]]), (k', .rows 2 [.agg [bV (argW y x.aR x.aN).k, uV (argW y x.aR x.aN).v]]), (k, .rows 13 [insC x]), (w, .rows 29 [.agg (wkC fp (brW y x))])], k'' + 1⟩ ?_ ?_
  · by_cases c1 : (argW y x.aR x.aN).k = true
    · simp [go_sem, c1, insC, Ins.cs, e0, eq0, e2, eq2, a0, aq0, a2, aq2, b0, bq0, b2, bq2, b4, bq4]
      refine Weaker.fz 1 0 ?_ ?_ ?_
      · simp [go_sem, c1, insC, Ins.cs, e0, eq0, e2, eq2, a0, aq0, a2, aq2, b0, bq0, b2, bq2, b4, bq4, brK, brW]
      · first | (simp; done) | (simp; omega)
      · simp [go_sem, c1, insC, Ins.cs, e0, eq0, e2, eq2, a0, aq0, a2, aq2, b0, bq0, b2, bq2, b4, bq4, brK, brW]
    · simp [go_sem, c1, insC, Ins.cs, e0, eq0, e2, eq2, a0, aq0, a2, aq2, b0, bq0, b2, bq2, b4, bq4]
      refine Weaker.fz 1 0 ?_ ?_ ?_
      · simp [go_sem, c1, insC, Ins.cs, e0, eq0, e2, eq2, a0, aq0, a2, aq2, b0, bq0, b2, bq2, b4, bq4, brK, brW]
      · first | (simp; done) | (simp; omega)
      · simp [go_sem, c1, insC, Ins.cs, e0, eq0, e2, eq2, a0, aq0, a2, aq2, b0, bq0, b2, bq2, b4, bq4, brK, brW]
  · skip
    refine cond_k rfl (fun h => ?_) (fun h => ?_)
    · have hK0 : brK y x = false := by simpa using h
      clear h
      refine region_k T_ok (by decide) fun K hK => ?_
      simp [go_sem]
      refine hK _ ?_; clear hK K
      refine tr_ret ⟨.inr rfl, ?_⟩
      simp [go_sem, brN, hK0, e0, eq0, e2, eq2, a0, aq0, a2, aq2, b0, bq0, b2, bq2, b4, bq4]
    · have hK0 : brK y x = true := by simpa using h
      clear h
      refine tr_skip ?_
      refine hK1 _ ?_; try clear hK1 K1
      refine seq_k fun K2 hK2 => ?_
      refine region_k T_ok (by decide) fun K hK => ?_
      simp [go_sem, insC, Ins.cs, e0, eq0, e2, eq2, a0, aq0, a2, aq2, b0, bq0, b2, bq2, b4, bq4]
      refine hK _ ?_; clear hK K
      refine cond_k rfl (fun h => ?_) (fun h => ?_)
      · have hE : ((argW y x.aR x.aN).v = (argW y x.bR x.bN).v ↔ x.op = 16) := by simpa [int_beq] using h
        clear h
        refine region_k T_ok (by decide) fun K hK => ?_
        simp [go_sem, insC, Ins.cs, e0, eq0, e2, eq2, a0, aq0, a2, aq2, b0, bq0, b2, bq2, b4, bq4]
        refine hK _ ?_; clear hK K
        refine tr_ret ⟨.inr rfl, ?_⟩
        simp [go_sem, brN, hK0, hE, e0, eq0, e2, eq2, a0, aq0, a2, aq2, b0, bq0, b2, bq2, b4, bq4]
      · have hE : ¬ ((argW y x.aR x.aN).v = (argW y x.bR x.bN).v ↔ x.op = 16) := by simpa [int_beq] using h
        clear h
        refine tr_skip ?_
        refine hK2 _ ?_; try clear hK2 K2
        refine region_k T_ok (by decide) fun K hK => ?_
        simp [go_sem]
        refine hK _ ?_; clear hK K
        refine tr_ret ⟨.inr rfl, ?_⟩
        simp [go_sem, brN, hK0, hE, e0, eq0, e2, eq2, a0, aq0, a2, aq2, b0, bq0, b2, bq2, b4, bq4]

set_option maxRecDepth 20000 in
set_option maxHeartbeats 4000000 in
theorem plain_fn (w k : Nat) (hw : w < k) (fp : V) (hfp : fp.one = true) (y : Wk) (x : Ins) (hx : InsOk x) : Sl.Fn Try.prog 38 [.ptr w 0 0, insC x] [(w, .rows 29 [.agg (wkC fp y)])] k fun r H _ => r = .tup [] ∧ H = [(w, .rows 29 [.agg (wkC fp (plainW y x))])] := by
  have e0 : ¬ w = k := by omega
  have eq0 : ¬ k = w := by omega
  have e2 : ¬ w = k + 1 := by omega
  have eq2 : ¬ k + 1 = w := by omega
  refine Sl.Fn.keep (by simp) ?_
  obtain ⟨h0, h8, ha, hb, hdep, hskip⟩ := hx
  refine fn_in T_ok func38 rfl rfl ntmps38 rfl (by simp) ?_
  refine region_k T_ok (by decide) fun K hK => ?_
  simp [go_sem, insC, Ins.cs, e0, eq0, e2, eq2]
  refine hK _ ?_; clear hK K
  refine seq_k fun K1 hK1 => ?_
  refine region_k T_ok (by decide) fun K hK => ?_
  simp [go_sem, insC, Ins.cs, e0, eq0, e2, eq2]
  refine hK _ ?_; clear hK K
  refine cond_k rfl (fun h => ?_) (fun h => ?_)
  · have hop : x.op = 15 := by simpa using h
    clear h
    refine tr_ret ⟨.inr rfl, ?_⟩
    simp [go_sem, plainW, hop, e0, eq0, e2, eq2]
  · have n15 : ¬ x.op = 15 := by simpa using h
    clear h
    refine tr_skip ?_
    refine hK1 _ ?_; try clear hK1 K1
    refine region_k T_ok (by decide) fun K hK => ?_
    simp [go_sem, insC, Ins.cs, e0, eq0, e2, eq2]
    refine call_own (arg_fn w _ (by omega) fp y x.aR x.aN ha) rfl (by simp) (by simp [go_sem, e0, eq0, e2, eq2]) fun k' hk' => ?_
    have a0 : ¬ w = k' := by omega
    have aq0 : ¬ k' = w := by omega
    have a2 : ¬ k' = k := by omega
    have aq2 : ¬ k = k' := by omega
    simp [go_sem, e0, eq0, e2, eq2, a0, aq0, a2, aq2]
    refine hK _ ?_; clear hK K
    refine seq_k fun K2 hK2 => ?_
    refine region_k T_ok (by decide) fun K hK => ?_
    simp [go_sem, insC, Ins.cs, e0, eq0, e2, eq2, a0, aq0, a2, aq2]
    refine hK _ ?_; clear hK K
    refine cond_k rfl (fun h => ?_) (fun h => ?_)
    · have hop : x.op = 1 := by simpa using h
      clear h
      refine region_k T_ok (by decide) fun K hK => ?_
      simp [go_sem, insC, Ins.cs, e0, eq0, e2, eq2, a0, aq0, a2, aq2]
      refine call_own (set_fn w _ (by omega) fp hfp y x.rd h0 h8 (argW y x.aR x.aN) 0) rfl (by simp) (by simp [go_sem, e0, eq0, e2, eq2, a0, aq0, a2, aq2]) fun k9 hk9 => ?_
      simp [go_sem, e0, eq0, e2, eq2, a0, aq0, a2, aq2]
      refine hK _ ?_; clear hK K
      refine tr_ret ⟨.inr rfl, ?_⟩
      simp [go_sem, plainW, hop, e0, eq0, e2, eq2, a0, aq0, a2, aq2]
    · have n1 : ¬ x.op = 1 := by simpa using h
      clear h
      refine tr_skip ?_
      refine hK2 _ ?_; try clear hK2 K2
      refine region_k T_ok (by decide) fun K hK => ?_
      simp [go_sem, insC, Ins.cs, e0, eq0, e2, eq2, a0, aq0, a2, aq2]
      refine call_own (arg_fn w _ (by omega) fp y x.bR x.bN hb) rfl (by simp) (by simp [go_sem, e0, eq0, e2, eq2, a0, aq0, a2, aq2]) fun k'' hk'' => ?_
      have b0 : ¬ w = k'' := by omega
      have bq0 : ¬ k'' = w := by omega
      have b2 : ¬ k'' = k := by omega
      have bq2 : ¬ k = k'' := by omega
      have b4 : ¬ k'' = k' := by omega
      have bq4 : ¬ k' = k'' := by omega
      simp [go_sem, e0, eq0, e2, eq2, a0, aq0, a2, aq2, b0, bq0, b2, bq2, b4, bq4]
      refine hK _ ?_; clear hK K
      refine draw_e T_ok (by kernel_rfl) 20 [[], [], [1], [], [3], [3, 4], [3, 4, 5], [3, 4, 5, 6], [3, 4, 5, 6, 7], [], [9], [], [11], [], [13], [3, 4, 5, 9, 10, 11, 12, 13, 14], [3, 4, 5, 6, 7, 8, 9, 10, 11, 12, 13, 14, 15], [], [], [17, 18], [0, 1, 2, 3, 4, 5, 6, 7, 8, 9, 10, 11, 12, 13, 14, 15, 16, 17, 18, 19]] [] (by decide) (by decide) (by decide) fun K hK => ?_
      first | dsimp only [List.take, List.drop] | dsimp [List.take, List.drop]
      cases hA : (argW y x.aR x.aN).k
      · simp [go_sem, hA, insC, Ins.cs, e0, eq0, e2, eq2, a0, aq0, a2, aq2, b0, bq0, b2, bq2, b4, bq4]
        refine callD_of (reckon_pf x.op (argW y x.aR x.aN).v (argW y x.bR x.bN).v) ?_
        simp [go_sem, hA, insC, Ins.cs, e0, eq0, e2, eq2, a0, aq0, a2, aq2, b0, bq0, b2, bq2, b4, bq4]
        refine call_own (set_fn w _ (by omega) fp hfp y x.rd h0 h8 ⟨false, reck x.op (argW y x.aR x.aN).v (argW y x.bR x.bN).v⟩ (o64 (argH y x.aR x.aN) (argH y x.bR x.bN))) rfl (by simp) (by simp [go_sem, e0, eq0, e2, eq2, a0, aq0, a2, aq2, b0, bq0, b2, bq2, b4, bq4]) fun k9 hk9 => ?_
        simp [go_sem, e0, eq0, e2, eq2, a0, aq0, a2, aq2, b0, bq0, b2, bq2, b4, bq4]
        refine hK _ ?_; clear hK K
        refine ⟨.inl rfl, ?_⟩
        simp [go_sem, plainW, hA, n15, n1, e0, eq0, e2, eq2, a0, aq0, a2, aq2, b0, bq0, b2, bq2, b4, bq4]
      · simp [go_sem, hA, insC, Ins.cs, e0, eq0, e2, eq2, a0, aq0, a2, aq2, b0, bq0, b2, bq2, b4, bq4]
        refine callD_of (reckon_pf x.op (argW y x.aR x.aN).v (argW y x.bR x.bN).v) ?_
        simp [go_sem, hA, insC, Ins.cs, e0, eq0, e2, eq2, a0, aq0, a2, aq2, b0, bq0, b2, bq2, b4, bq4]
        refine call_own (set_fn w _ (by omega) fp hfp y x.rd h0 h8 ⟨(argW y x.bR x.bN).k, reck x.op (argW y x.aR x.aN).v (argW y x.bR x.bN).v⟩ (o64 (argH y x.aR x.aN) (argH y x.bR x.bN))) rfl (by simp) (by simp [go_sem, e0, eq0, e2, eq2, a0, aq0, a2, aq2, b0, bq0, b2, bq2, b4, bq4]) fun k9 hk9 => ?_
        simp [go_sem, e0, eq0, e2, eq2, a0, aq0, a2, aq2, b0, bq0, b2, bq2, b4, bq4]
        refine hK _ ?_; clear hK K
        refine ⟨.inl rfl, ?_⟩
        simp [go_sem, plainW, hA, n15, n1, e0, eq0, e2, eq2, a0, aq0, a2, aq2, b0, bq0, b2, bq2, b4, bq4]

end Go.Proofs.Ytokdphmnlcmbbaa
/- Flow: a thread. -/
namespace Go.Proofs.Ytokdphmnlcmbbaa
open Go Go.Sl Go.Proofs.Try

set_option maxRecDepth 20000 in
set_option maxHeartbeats 16000000 in
theorem thread_fn (w k : Nat) (h12 : 12 < w) (hw : w < k) (m : Nat) (L R Wh : V) (y : Wk) (f : Fl) (hfl : FlOk m f) (l : List Ins) (hl : ∀ x ∈ l, InsOk x) (hll : l.length ≤ 9223372036854775806) (n : Nat) (hn : n + memL l ≤ m) (hm : m ≤ 9223372036854775806) (reads : List Vl) (works : List Bool) (hrl : m ≤ reads.length) (hwl : m ≤ works.length) : Sl.Fn Try.prog 24 [.ptr w 0 0, .ro 13 (inss l), iV (n : Nat), .ro 2 (vls reads), .ro 1 (bVs works)] [(w, .rows 29 [.agg (wkC (.ptr 12 0 0) y)]), (12, .rows 9 [.agg [.sl 1 0 m, .sl 3 0 m, .sl 5 0 m, .sl 7 0 m, .sl 9 0 m, .sl 11 0 m, L, R, Wh]]), (1, .rows 1 (iVs f.state)), (3, .rows 2 (vls f.write)), (5, .rows 1 (iVs f.pair)), (7, .rows 1 (uVs f.place)), (9, .rows 1 (uVs f.value)), (11, .rows 1 (uVs f.path))] k fun r H _ => r = bV (runT reads works 0 l ⟨y, f, 0, n⟩).2 ∧ H = [(w, .rows 29 [.agg (wkC (.ptr 12 0 0) (runT reads works 0 l ⟨y, f, 0, n⟩).1.w)]), (12, .rows 9 [.agg [.sl 1 0 m, .sl 3 0 m, .sl 5 0 m, .sl 7 0 m, .sl 9 0 m, .sl 11 0 m, L, R, Wh]]), (1, .rows 1 (iVs (runT reads works 0 l ⟨y, f, 0, n⟩).1.f.state)), (3, .rows 2 (vls (runT reads works 0 l ⟨y, f, 0, n⟩).1.f.write)), (5, .rows 1 (iVs (runT reads works 0 l ⟨y, f, 0, n⟩).1.f.pair)), (7, .rows 1 (uVs (runT reads works 0 l ⟨y, f, 0, n⟩).1.f.place)), (9, .rows 1 (uVs (runT reads works 0 l ⟨y, f, 0, n⟩).1.f.value)), (11, .rows 1 (uVs (runT reads works 0 l ⟨y, f, 0, n⟩).1.f.path))] := by
  have e0 : ¬ w = 1 := by omega
  have eq0 : ¬ 1 = w := by omega
  have e2 : ¬ w = 3 := by omega
  have eq2 : ¬ 3 = w := by omega
  have e4 : ¬ w = 5 := by omega
  have eq4 : ¬ 5 = w := by omega
  have e6 : ¬ w = 7 := by omega
  have eq6 : ¬ 7 = w := by omega
  have e8 : ¬ w = 9 := by omega
  have eq8 : ¬ 9 = w := by omega
  have e10 : ¬ w = 11 := by omega
  have eq10 : ¬ 11 = w := by omega
  have e12 : ¬ w = 12 := by omega
  have eq12 : ¬ 12 = w := by omega
  have e14 : ¬ w = k := by omega
  have eq14 : ¬ k = w := by omega
  have e16 : ¬ w = k + 1 := by omega
  have eq16 : ¬ k + 1 = w := by omega
  have e18 : ¬ w = k + 2 := by omega
  have eq18 : ¬ k + 2 = w := by omega
  have e20 : ¬ k = 0 := by omega
  have eq20 : ¬ 0 = k := by omega
  have e22 : ¬ k = 1 := by omega
  have eq22 : ¬ 1 = k := by omega
  have e24 : ¬ k = 2 := by omega
  have eq24 : ¬ 2 = k := by omega
  have e26 : ¬ k = 3 := by omega
  have eq26 : ¬ 3 = k := by omega
  have e28 : ¬ k = 4 := by omega
  have eq28 : ¬ 4 = k := by omega
  have e30 : ¬ k = 5 := by omega
  have eq30 : ¬ 5 = k := by omega
  have e32 : ¬ k = 6 := by omega
  have eq32 : ¬ 6 = k := by omega
  have e34 : ¬ k = 7 := by omega
  have eq34 : ¬ 7 = k := by omega
  have e36 : ¬ k = 8 := by omega
  have eq36 : ¬ 8 = k := by omega
  have e38 : ¬ k = 9 := by omega
  have eq38 : ¬ 9 = k := by omega
  have e40 : ¬ k = 10 := by omega
  have eq40 : ¬ 10 = k := by omega
  have e42 : ¬ k = 11 := by omega
  have eq42 : ¬ 11 = k := by omega
  have e44 : ¬ k = 12 := by omega
  have eq44 : ¬ 12 = k := by omega
  refine Sl.Fn.keep (by simp [e0, eq0, e2, eq2, e4, eq4, e6, eq6, e8, eq8, e10, eq10, e12, eq12, e14, eq14, e16, eq16, e18, eq18, e20, eq20, e22, eq22, e24, eq24, e26, eq26, e28, eq28, e30, eq30, e32, eq32, e34, eq34, e36, eq36, e38, eq38, e40, eq40, e42, eq42, e44, eq44]) ?_
  refine fn_in T_ok func24 rfl rfl ntmps24 rfl (by simp) ?_
  refine region_k T_ok (by decide) fun K hK => ?_
  simp [go_sem]
  refine hK _ ?_; clear hK K
  refine region_k T_ok (by decide) fun K hK => ?_
  simp [go_sem]
  refine hK _ ?_; clear hK K
  refine seq_k fun K1 hK1 => ?_
  refine region_k T_ok (by decide) fun K hK => ?_
  simp [go_sem]
  refine hK _ ?_; clear hK K
  refine tr_block ?_
  refine loop_p (α := Nat × Ts × Nat) (fun a => ⟨88, [(0, .ptr w 0 0), (3, .ro 2 (vls reads)), (4, .ro 1 (bVs works)), (16, .ro 13 (inss l)), (17, iV (l.length : Nat)), (18, iV (a.1 : Nat)), (11, iV a.2.1.out), (2, iV (a.2.1.k : Nat))], [(w, .rows 29 [.agg (wkC (.ptr 12 0 0) a.2.1.w)]), (12, .rows 9 [.agg [.sl 1 0 m, .sl 3 0 m, .sl 5 0 m, .sl 7 0 m, .sl 9 0 m, .sl 11 0 m, L, R, Wh]]), (1, .rows 1 (iVs a.2.1.f.state)), (3, .rows 2 (vls a.2.1.f.write)), (5, .rows 1 (iVs a.2.1.f.pair)), (7, .rows 1 (uVs a.2.1.f.place)), (9, .rows 1 (uVs a.2.1.f.value)), (11, .rows 1 (uVs a.2.1.f.path))], a.2.2⟩) (fun a => a.1 ≤ l.length ∧ runT reads works a.1 (l.drop a.1) a.2.1 = (runT reads works 0 l ⟨y, f, 0, n⟩) ∧ FlOk m a.2.1.f ∧ a.2.1.k + memL (l.drop a.1) ≤ m ∧ a.2.1.out ≤ 9223372036854775807 ∧ w < a.2.2) (fun a => l.length - a.1) (0, ⟨y, f, 0, n⟩, k) ?_ ?_ ?_
  · exact ⟨Nat.zero_le _, by rw [List.drop_zero], hfl, by rw [List.drop_zero]; exact hn, by dsimp only; omega, hw⟩
  · refine Weaker.fz 1 0 ?_ ?_ ?_
    · simp [go_sem, e0, eq0, e2, eq2, e4, eq4, e6, eq6, e8, eq8, e10, eq10, e12, eq12, e14, eq14, e16, eq16, e18, eq18, e20, eq20, e22, eq22, e24, eq24, e26, eq26, e28, eq28, e30, eq30, e32, eq32, e34, eq34, e36, eq36, e38, eq38, e40, eq40, e42, eq42, e44, eq44]
    · first | (simp; done) | (simp; omega)
    · simp [go_sem, e0, eq0, e2, eq2, e4, eq4, e6, eq6, e8, eq8, e10, eq10, e12, eq12, e14, eq14, e16, eq16, e18, eq18, e20, eq20, e22, eq22, e24, eq24, e26, eq26, e28, eq28, e30, eq30, e32, eq32, e34, eq34, e36, eq36, e38, eq38, e40, eq40, e42, eq42, e44, eq44]
  rintro ⟨i, s, j⟩ ⟨hi, hrun, hfl, hkm, hout, hwj⟩
  dsimp only at hi hrun hfl hkm hout hwj ⊢
  refine region_k T_ok (by decide) fun K hK => ?_
  simp [go_sem]
  refine hK _ ?_; clear hK K
  refine seq_k fun K2 hK2 => ?_
  refine cond_k rfl (fun h => ?_) (fun h => ?_)
  · simp at h
    have hI := h
    clear h
    have h' : i < l.length := by omega
    obtain ⟨x, hx, hx'⟩ := getAt h'
    have hi0 : (0 : Int) ≤ (i : Nat) := by omega
    have hw1 : IntKind.i64.wrap ((i : Nat) + 1) = (i : Nat) + 1 := wrap_i64 (by omega) (by omega)
    have hok := hl x (List.mem_of_getElem? hx)
    have hD := memL_drop hx
    have hKk := stepT_k (reads := reads) (works := works) (s := s) hx
    have hO2 := stepT_out (reads := reads) (works := works) (i := i) hout hok
    have hF2 := stepT_ok (reads := reads) (works := works) (i := i) (x := x) hfl
    have e0 : ¬ w = 1 := by omega
    have eq0 : ¬ 1 = w := by omega
    have e2 : ¬ w = 3 := by omega
    have eq2 : ¬ 3 = w := by omega
    have e4 : ¬ w = 5 := by omega
    have eq4 : ¬ 5 = w := by omega
    have e6 : ¬ w = 7 := by omega
    have eq6 : ¬ 7 = w := by omega
    have e8 : ¬ w = 9 := by omega
    have eq8 : ¬ 9 = w := by omega
    have e10 : ¬ w = 11 := by omega
    have eq10 : ¬ 11 = w := by omega
    have e12 : ¬ w = 12 := by omega
    have eq12 : ¬ 12 = w := by omega
    have e14 : ¬ w = j := by omega
    have eq14 : ¬ j = w := by omega
    have e16 : ¬ w = j + 1 := by omega
    have eq16 : ¬ j + 1 = w := by omega
    have e18 : ¬ j = 0 := by omega
    have eq18 : ¬ 0 = j := by omega
    have e20 : ¬ j = 1 := by omega
    have eq20 : ¬ 1 = j := by omega
    have e22 : ¬ j = 2 := by omega
    have eq22 : ¬ 2 = j := by omega
    have e24 : ¬ j = 3 := by omega
    have eq24 : ¬ 3 = j := by omega
    have e26 : ¬ j = 4 := by omega
    have eq26 : ¬ 4 = j := by omega
    have e28 : ¬ j = 5 := by omega
    have eq28 : ¬ 5 = j := by omega
    have e30 : ¬ j = 6 := by omega
    have eq30 : ¬ 6 = j := by omega
    have e32 : ¬ j = 7 := by omega
    have eq32 : ¬ 7 = j := by omega
    have e34 : ¬ j = 8 := by omega
    have eq34 : ¬ 8 = j := by omega
    have e36 : ¬ j = 9 := by omega
    have eq36 : ¬ 9 = j := by omega
    have e38 : ¬ j = 10 := by omega
    have eq38 : ¬ 10 = j := by omega
    have e40 : ¬ j = 11 := by omega
    have eq40 : ¬ 11 = j := by omega
    have e42 : ¬ j = 12 := by omega
    have eq42 : ¬ 12 = j := by omega
    obtain ⟨l1, l2, l3, l4, l5, l6⟩ := id hfl
    refine tr_skip ?_
    refine hK2 _ ?_; try clear hK2 K2
    refine seq_k fun K3 hK3 => ?_
    refine tr_block ?_
    refine region_k T_ok (by decide) fun K hK => ?_
    simp [go_sem, insC, hI, hx, hx', hi0, h', e0, eq0, e2, eq2, e4, eq4, e6, eq6, e8, eq8, e10, eq10, e12, eq12, e14, eq14, e16, eq16, e18, eq18, e20, eq20, e22, eq22, e24, eq24, e26, eq26, e28, eq28, e30, eq30, e32, eq32, e34, eq34, e36, eq36, e38, eq38, e40, eq40, e42, eq42]
    refine hK _ ?_; clear hK K
    refine seq_k fun K4 hK4 => ?_
    refine region_k T_ok (by decide) fun K hK => ?_
    simp [go_sem]
    refine hK _ ?_; clear hK K
    refine cond_k rfl (fun h => ?_) (fun h => ?_)
    · have ho : 0 < s.out := by simpa using h
      clear h
      have hwo : IntKind.i64.wrap (s.out - 1) = s.out - 1 := wrap_i64 (by omega) (by omega)
      have ho' : ¬ s.out ≤ 0 := by omega
      refine region_k T_ok (by decide) fun K hK => ?_
      simp [go_sem, insC, e0, eq0, e2, eq2, e4, eq4, e6, eq6, e8, eq8, e10, eq10, e12, eq12, e14, eq14, e16, eq16, e18, eq18, e20, eq20, e22, eq22, e24, eq24, e26, eq26, e28, eq28, e30, eq30, e32, eq32, e34, eq34, e36, eq36, e38, eq38, e40, eq40, e42, eq42, hwo]
      refine hK _ ?_; clear hK K
      refine draw_k T_ok (by kernel_rfl) 6 [[], [0], [0, 1], [0, 1, 2], [], [4], [0, 1, 2, 3, 4, 5], [0, 1, 2, 3, 4, 5, 6], [0, 1, 2, 3, 4, 5, 6, 7], [0, 1, 2, 3, 4, 5, 6, 7, 8]] [] (by decide) (by decide) (by decide) fun K hK => ?_
      first | dsimp only [List.take, List.drop] | dsimp [List.take, List.drop]
      simp [go_sem, insC, hI, hx, hx', hi0, h', e0, eq0, e2, eq2, e4, eq4, e6, eq6, e8, eq8, e10, eq10, e12, eq12, e14, eq14, e16, eq16, e18, eq18, e20, eq20, e22, eq22, e24, eq24, e26, eq26, e28, eq28, e30, eq30, e32, eq32, e34, eq34, e36, eq36, e38, eq38, e40, eq40, e42, eq42]
      refine hK _ ?_; clear hK K
      refine seq_k fun K5 hK5 => ?_
      refine region_k T_ok (by decide) fun K hK => ?_
      simp [go_sem, insC, e0, eq0, e2, eq2, e4, eq4, e6, eq6, e8, eq8, e10, eq10, e12, eq12, e14, eq14, e16, eq16, e18, eq18, e20, eq20, e22, eq22, e24, eq24, e26, eq26, e28, eq28, e30, eq30, e32, eq32, e34, eq34, e36, eq36, e38, eq38, e40, eq40, e42, eq42]
      refine call_pf (ismem_pf x) ?_
      simp [go_sem, insC, e0, eq0, e2, eq2, e4, eq4, e6, eq6, e8, eq8, e10, eq10, e12, eq12, e14, eq14, e16, eq16, e18, eq18, e20, eq20, e22, eq22, e24, eq24, e26, eq26, e28, eq28, e30, eq30, e32, eq32, e34, eq34, e36, eq36, e38, eq38, e40, eq40, e42, eq42]
      refine hK _ ?_; clear hK K
      refine cond_k rfl (fun h => ?_) (fun h => ?_)
      · have hmI : memI x = true := h
        have hmB : memB x.op = true := h
        clear h
        rw [if_pos hmI] at hD
        have kI : (s.k : Int) < (m : Nat) := by omega
        have km : s.k < s.f.state.length := by omega
        have k0 : (0 : Int) ≤ (s.k : Nat) := by omega
        have hwk : IntKind.i64.wrap ((s.k : Nat) + 1) = (s.k : Nat) + 1 := wrap_i64 (by omega) (by omega)
        have hsb : stepB x s = true := by simp [stepB, ho, hmI, ho']
        have hrun2 := (runT_step (reads := reads) (works := works) hx hsb).symm.trans hrun
        refine region_k T_ok (by decide) fun K hK => ?_
        simp [go_sem, insC, e0, eq0, e2, eq2, e4, eq4, e6, eq6, e8, eq8, e10, eq10, e12, eq12, e14, eq14, e16, eq16, e18, eq18, e20, eq20, e22, eq22, e24, eq24, e26, eq26, e28, eq28, e30, eq30, e32, eq32, e34, eq34, e36, eq36, e38, eq38, e40, eq40, e42, eq42, kI, km, k0]
        refine hK _ ?_; clear hK K
        refine region_e T_ok (by decide) fun K hK => ?_
        simp [go_sem, insC, e0, eq0, e2, eq2, e4, eq4, e6, eq6, e8, eq8, e10, eq10, e12, eq12, e14, eq14, e16, eq16, e18, eq18, e20, eq20, e22, eq22, e24, eq24, e26, eq26, e28, eq28, e30, eq30, e32, eq32, e34, eq34, e36, eq36, e38, eq38, e40, eq40, e42, eq42, hwk]
        refine hK _ ?_; clear hK K
        refine hK5 _ ?_; try clear hK5 K5
        refine tr_exit ?_
        refine hK3 _ ?_; try clear hK3 K3
        refine region_e T_ok (by decide) fun K hK => ?_
        simp [go_sem, hw1]
        refine hK _ ?_; clear hK K
        refine ⟨(i + 1, stepT reads works i x s, j + 7), ?_, ?_, ?_⟩
        · exact ⟨by omega, hrun2, hF2, by dsimp only at hKk ⊢; omega, hO2, by dsimp only; omega⟩
        · dsimp only; omega
        · refine Weaker.fz 1 0 ?_ ?_ ?_
          · simp [go_sem, stepT, ho, hmI, e0, eq0, e2, eq2, e4, eq4, e6, eq6, e8, eq8, e10, eq10, e12, eq12, e14, eq14, e16, eq16, e18, eq18, e20, eq20, e22, eq22, e24, eq24, e26, eq26, e28, eq28, e30, eq30, e32, eq32, e34, eq34, e36, eq36, e38, eq38, e40, eq40, e42, eq42]
          · first | (simp; done) | (simp; omega)
          simp [go_sem, stepT, ho, hmI, e0, eq0, e2, eq2, e4, eq4, e6, eq6, e8, eq8, e10, eq10, e12, eq12, e14, eq14, e16, eq16, e18, eq18, e20, eq20, e22, eq22, e24, eq24, e26, eq26, e28, eq28, e30, eq30, e32, eq32, e34, eq34, e36, eq36, e38, eq38, e40, eq40, e42, eq42]
      · have hmI : memI x = false := by simpa [memI] using h
        clear h
        have hsb : stepB x s = true := by simp [stepB, ho, hmI, ho']
        have hrun2 := (runT_step (reads := reads) (works := works) hx hsb).symm.trans hrun
        refine tr_skip ?_
        refine hK5 _ ?_; try clear hK5 K5
        refine tr_exit ?_
        refine hK3 _ ?_; try clear hK3 K3
        refine region_e T_ok (by decide) fun K hK => ?_
        simp [go_sem, hw1]
        refine hK _ ?_; clear hK K
        refine ⟨(i + 1, stepT reads works i x s, j + 7), ?_, ?_, ?_⟩
        · exact ⟨by omega, hrun2, hF2, by dsimp only at hKk ⊢; omega, hO2, by dsimp only; omega⟩
        · dsimp only; omega
        · refine Weaker.fz 1 0 ?_ ?_ ?_
          · simp [go_sem, stepT, ho, hmI, e0, eq0, e2, eq2, e4, eq4, e6, eq6, e8, eq8, e10, eq10, e12, eq12, e14, eq14, e16, eq16, e18, eq18, e20, eq20, e22, eq22, e24, eq24, e26, eq26, e28, eq28, e30, eq30, e32, eq32, e34, eq34, e36, eq36, e38, eq38, e40, eq40, e42, eq42]
          · first | (simp; done) | (simp; omega)
          simp [go_sem, stepT, ho, hmI, e0, eq0, e2, eq2, e4, eq4, e6, eq6, e8, eq8, e10, eq10, e12, eq12, e14, eq14, e16, eq16, e18, eq18, e20, eq20, e22, eq22, e24, eq24, e26, eq26, e28, eq28, e30, eq30, e32, eq32, e34, eq34, e36, eq36, e38, eq38, e40, eq40, e42, eq42]
    · have ho : ¬ 0 < s.out := by simpa using h
      clear h
      have ho' : s.out ≤ 0 := by omega
      refine tr_skip ?_
      refine hK4 _ ?_; try clear hK4 K4
      refine tr_block ?_
      refine region_k T_ok (by decide) fun K hK => ?_
      simp [go_sem, insC, e0, eq0, e2, eq2, e4, eq4, e6, eq6, e8, eq8, e10, eq10, e12, eq12, e14, eq14, e16, eq16, e18, eq18, e20, eq20, e22, eq22, e24, eq24, e26, eq26, e28, eq28, e30, eq30, e32, eq32, e34, eq34, e36, eq36, e38, eq38, e40, eq40, e42, eq42]
      refine call_pf (ismem_pf x) ?_
      simp [go_sem, insC, e0, eq0, e2, eq2, e4, eq4, e6, eq6, e8, eq8, e10, eq10, e12, eq12, e14, eq14, e16, eq16, e18, eq18, e20, eq20, e22, eq22, e24, eq24, e26, eq26, e28, eq28, e30, eq30, e32, eq32, e34, eq34, e36, eq36, e38, eq38, e40, eq40, e42, eq42]
      refine hK _ ?_; clear hK K
      refine cond_k rfl (fun h => ?_) (fun h => ?_)
      · have hmI : memI x = true := h
        have hmB : memB x.op = true := h
        clear h
        rw [if_pos hmI] at hD
        have kI : (s.k : Int) < (m : Nat) := by omega
        have km : s.k < s.f.state.length := by omega
        have k0 : (0 : Int) ≤ (s.k : Nat) := by omega
        have hwk : IntKind.i64.wrap ((s.k : Nat) + 1) = (s.k : Nat) + 1 := wrap_i64 (by omega) (by omega)
        have hsb : stepB x s = true := by simp [stepB, ho, hmI]
        have hrun2 := (runT_step (reads := reads) (works := works) hx hsb).symm.trans hrun
        obtain ⟨r, hr, hr'⟩ := getAt (show s.k < reads.length by omega)
        obtain ⟨b, hb, hb'⟩ := getAt (show s.k < works.length by omega)
        have kr : (s.k : Int) < (reads.length : Nat) := by omega
        have kw : (s.k : Int) < (works.length : Nat) := by omega
        refine draw_k T_ok (by kernel_rfl) 11 [[], [], [], [], [], [3, 4], [3, 4, 5], [], [], [7, 8], [7, 8, 9], [0, 1, 2, 3, 4, 5, 6, 7, 8, 9, 10]] [] (by decide) (by decide) (by decide) fun K hK => ?_
        first | dsimp only [List.take, List.drop] | dsimp [List.take, List.drop]
        simp [go_sem, insC, e0, eq0, e2, eq2, e4, eq4, e6, eq6, e8, eq8, e10, eq10, e12, eq12, e14, eq14, e16, eq16, e18, eq18, e20, eq20, e22, eq22, e24, eq24, e26, eq26, e28, eq28, e30, eq30, e32, eq32, e34, eq34, e36, eq36, e38, eq38, e40, eq40, e42, eq42, kI, km, k0, kr, kw, hr, hb, hr', hb']
        refine call_own (mem_fn w _ h12 (by omega) m L R Wh s.w s.f hfl x hok s.k (by omega) (by omega) r b) rfl (by simp [e0, eq0, e2, eq2, e4, eq4, e6, eq6, e8, eq8, e10, eq10, e12, eq12, e14, eq14, e16, eq16, e18, eq18, e20, eq20, e22, eq22, e24, eq24, e26, eq26, e28, eq28, e30, eq30, e32, eq32, e34, eq34, e36, eq36, e38, eq38, e40, eq40, e42, eq42]) (by simp [go_sem, e0, eq0, e2, eq2, e4, eq4, e6, eq6, e8, eq8, e10, eq10, e12, eq12, e14, eq14, e16, eq16, e18, eq18, e20, eq20, e22, eq22, e24, eq24, e26, eq26, e28, eq28, e30, eq30, e32, eq32, e34, eq34, e36, eq36, e38, eq38, e40, eq40, e42, eq42]) fun k9 hk9 => ?_
        simp [go_sem, insC, e0, eq0, e2, eq2, e4, eq4, e6, eq6, e8, eq8, e10, eq10, e12, eq12, e14, eq14, e16, eq16, e18, eq18, e20, eq20, e22, eq22, e24, eq24, e26, eq26, e28, eq28, e30, eq30, e32, eq32, e34, eq34, e36, eq36, e38, eq38, e40, eq40, e42, eq42]
        refine hK _ ?_; clear hK K
        refine region_e T_ok (by decide) fun K hK => ?_
        simp [go_sem, hwk]
        refine hK _ ?_; clear hK K
        refine hK3 _ ?_; try clear hK3 K3
        refine region_e T_ok (by decide) fun K hK => ?_
        simp [go_sem, hw1]
        refine hK _ ?_; clear hK K
        refine ⟨(i + 1, stepT reads works i x s, k9), ?_, ?_, ?_⟩
        · exact ⟨by omega, hrun2, hF2, by dsimp only at hKk ⊢; omega, hO2, by dsimp only; omega⟩
        · dsimp only; omega
        · refine Weaker.fz 1 0 ?_ ?_ ?_
          · simp [go_sem, stepT, ho, hmI, hr, hr', hb, hb', e0, eq0, e2, eq2, e4, eq4, e6, eq6, e8, eq8, e10, eq10, e12, eq12, e14, eq14, e16, eq16, e18, eq18, e20, eq20, e22, eq22, e24, eq24, e26, eq26, e28, eq28, e30, eq30, e32, eq32, e34, eq34, e36, eq36, e38, eq38, e40, eq40, e42, eq42, hr, hb]
          · first | (simp; done) | (simp; omega)
          simp [go_sem, stepT, ho, hmI, hr, hr', hb, hb', e0, eq0, e2, eq2, e4, eq4, e6, eq6, e8, eq8, e10, eq10, e12, eq12, e14, eq14, e16, eq16, e18, eq18, e20, eq20, e22, eq22, e24, eq24, e26, eq26, e28, eq28, e30, eq30, e32, eq32, e34, eq34, e36, eq36, e38, eq38, e40, eq40, e42, eq42]
      · have hmI : memI x = false := by simpa [memI] using h
        clear h
        refine region_to T_ok (by decide) ⟨88, [(0, .ptr w 0 0), (3, .ro 2 (vls reads)), (4, .ro 1 (bVs works)), (16, .ro 13 (inss l)), (17, iV (l.length : Nat)), (18, iV (i : Nat)), (11, iV s.out), (2, iV (s.k : Nat)), (13, .ptr j 0 0), (69, bV (isBr x.op))], [(j, .rows 13 [insC x]), (w, .rows 29 [.agg (wkC (.ptr 12 0 0) s.w)]), (12, .rows 9 [.agg [.sl 1 0 m, .sl 3 0 m, .sl 5 0 m, .sl 7 0 m, .sl 9 0 m, .sl 11 0 m, L, R, Wh]]), (1, .rows 1 (iVs s.f.state)), (3, .rows 2 (vls s.f.write)), (5, .rows 1 (iVs s.f.pair)), (7, .rows 1 (uVs s.f.place)), (9, .rows 1 (uVs s.f.value)), (11, .rows 1 (uVs s.f.path))], j + 1⟩ ?_ ?_
        · by_cases c1 : x.op = 16
          · simp [go_sem, c1, insC, e0, eq0, e2, eq2, e4, eq4, e6, eq6, e8, eq8, e10, eq10, e12, eq12, e14, eq14, e16, eq16, e18, eq18, e20, eq20, e22, eq22, e24, eq24, e26, eq26, e28, eq28, e30, eq30, e32, eq32, e34, eq34, e36, eq36, e38, eq38, e40, eq40, e42, eq42]
            refine Weaker.fz 1 0 ?_ ?_ ?_
            · simp [go_sem, c1, insC, e0, eq0, e2, eq2, e4, eq4, e6, eq6, e8, eq8, e10, eq10, e12, eq12, e14, eq14, e16, eq16, e18, eq18, e20, eq20, e22, eq22, e24, eq24, e26, eq26, e28, eq28, e30, eq30, e32, eq32, e34, eq34, e36, eq36, e38, eq38, e40, eq40, e42, eq42, isBr, int_beq]
            · first | (simp; done) | (simp; omega)
            · simp [go_sem, c1, insC, e0, eq0, e2, eq2, e4, eq4, e6, eq6, e8, eq8, e10, eq10, e12, eq12, e14, eq14, e16, eq16, e18, eq18, e20, eq20, e22, eq22, e24, eq24, e26, eq26, e28, eq28, e30, eq30, e32, eq32, e34, eq34, e36, eq36, e38, eq38, e40, eq40, e42, eq42, isBr, int_beq]
          · simp [go_sem, c1, insC, e0, eq0, e2, eq2, e4, eq4, e6, eq6, e8, eq8, e10, eq10, e12, eq12, e14, eq14, e16, eq16, e18, eq18, e20, eq20, e22, eq22, e24, eq24, e26, eq26, e28, eq28, e30, eq30, e32, eq32, e34, eq34, e36, eq36, e38, eq38, e40, eq40, e42, eq42]
            refine Weaker.fz 1 0 ?_ ?_ ?_
            · simp [go_sem, c1, insC, e0, eq0, e2, eq2, e4, eq4, e6, eq6, e8, eq8, e10, eq10, e12, eq12, e14, eq14, e16, eq16, e18, eq18, e20, eq20, e22, eq22, e24, eq24, e26, eq26, e28, eq28, e30, eq30, e32, eq32, e34, eq34, e36, eq36, e38, eq38, e40, eq40, e42, eq42, isBr, int_beq]
            · first | (simp; done) | (simp; omega)
            · simp [go_sem, c1, insC, e0, eq0, e2, eq2, e4, eq4, e6, eq6, e8, eq8, e10, eq10, e12, eq12, e14, eq14, e16, eq16, e18, eq18, e20, eq20, e22, eq22, e24, eq24, e26, eq26, e28, eq28, e30, eq30, e32, eq32, e34, eq34, e36, eq36, e38, eq38, e40, eq40, e42, eq42, isBr, int_beq]
        · skip
          refine cond_k rfl (fun h => ?_) (fun h => ?_)
          · have hbr : isBr x.op = true := by simpa using h
            clear h
            refine region_k T_ok (by decide) fun K hK => ?_
            simp [go_sem, insC, e0, eq0, e2, eq2, e4, eq4, e6, eq6, e8, eq8, e10, eq10, e12, eq12, e14, eq14, e16, eq16, e18, eq18, e20, eq20, e22, eq22, e24, eq24, e26, eq26, e28, eq28, e30, eq30, e32, eq32, e34, eq34, e36, eq36, e38, eq38, e40, eq40, e42, eq42]
            refine call_own (branch_fn w _ (by omega) (.ptr 12 0 0) rfl s.w x hok) rfl (by simp) (by simp [go_sem, e0, eq0, e2, eq2, e4, eq4, e6, eq6, e8, eq8, e10, eq10, e12, eq12, e14, eq14, e16, eq16, e18, eq18, e20, eq20, e22, eq22, e24, eq24, e26, eq26, e28, eq28, e30, eq30, e32, eq32, e34, eq34, e36, eq36, e38, eq38, e40, eq40, e42, eq42]) fun k9 hk9 => ?_
            simp [go_sem, insC, e0, eq0, e2, eq2, e4, eq4, e6, eq6, e8, eq8, e10, eq10, e12, eq12, e14, eq14, e16, eq16, e18, eq18, e20, eq20, e22, eq22, e24, eq24, e26, eq26, e28, eq28, e30, eq30, e32, eq32, e34, eq34, e36, eq36, e38, eq38, e40, eq40, e42, eq42]
            refine hK _ ?_; clear hK K
            refine seq_k fun K6 hK6 => ?_
            refine region_k T_ok (by decide) fun K hK => ?_
            simp [go_sem, insC, e0, eq0, e2, eq2, e4, eq4, e6, eq6, e8, eq8, e10, eq10, e12, eq12, e14, eq14, e16, eq16, e18, eq18, e20, eq20, e22, eq22, e24, eq24, e26, eq26, e28, eq28, e30, eq30, e32, eq32, e34, eq34, e36, eq36, e38, eq38, e40, eq40, e42, eq42]
            refine hK _ ?_; clear hK K
            refine cond_k rfl (fun h => ?_) (fun h => ?_)
            · have hbK : brK s.w x = false := by simpa using h
              clear h
              have hsb : stepB x s = false := by simp [stepB, ho', hmI, hbr, hbK]
              have hR : (runT reads works 0 l ⟨y, f, 0, n⟩) = (stepT reads works i x s, false) := by rw [← hrun]; exact runT_stop hx hsb
              refine region_k T_ok (by decide) fun K hK => ?_
              simp [go_sem]
              refine hK _ ?_; clear hK K
              refine tr_ret ⟨.inr rfl, ?_⟩
              rw [hR]
              simp [go_sem, stepT, ho, hmI, hbr, e0, eq0, e2, eq2, e4, eq4, e6, eq6, e8, eq8, e10, eq10, e12, eq12, e14, eq14, e16, eq16, e18, eq18, e20, eq20, e22, eq22, e24, eq24, e26, eq26, e28, eq28, e30, eq30, e32, eq32, e34, eq34, e36, eq36, e38, eq38, e40, eq40, e42, eq42]
            · have hbK : brK s.w x = true := by simpa using h
              clear h
              have hsb : stepB x s = true := by simp [stepB, ho, hmI, hbr, hbK]
              have hrun2 := (runT_step (reads := reads) (works := works) hx hsb).symm.trans hrun
              refine tr_skip ?_
              refine hK6 _ ?_; try clear hK6 K6
              refine region_e T_ok (by decide) fun K hK => ?_
              simp [go_sem, insC, e0, eq0, e2, eq2, e4, eq4, e6, eq6, e8, eq8, e10, eq10, e12, eq12, e14, eq14, e16, eq16, e18, eq18, e20, eq20, e22, eq22, e24, eq24, e26, eq26, e28, eq28, e30, eq30, e32, eq32, e34, eq34, e36, eq36, e38, eq38, e40, eq40, e42, eq42]
              refine hK _ ?_; clear hK K
              refine hK3 _ ?_; try clear hK3 K3
              refine region_e T_ok (by decide) fun K hK => ?_
              simp [go_sem, hw1]
              refine hK _ ?_; clear hK K
              refine ⟨(i + 1, stepT reads works i x s, k9), ?_, ?_, ?_⟩
              · exact ⟨by omega, hrun2, hF2, by dsimp only at hKk ⊢; omega, hO2, by dsimp only; omega⟩
              · dsimp only; omega
              · refine Weaker.fz 1 0 ?_ ?_ ?_
                · simp [go_sem, stepT, ho, hmI, hbr, e0, eq0, e2, eq2, e4, eq4, e6, eq6, e8, eq8, e10, eq10, e12, eq12, e14, eq14, e16, eq16, e18, eq18, e20, eq20, e22, eq22, e24, eq24, e26, eq26, e28, eq28, e30, eq30, e32, eq32, e34, eq34, e36, eq36, e38, eq38, e40, eq40, e42, eq42]
                · first | (simp; done) | (simp; omega)
                simp [go_sem, stepT, ho, hmI, hbr, e0, eq0, e2, eq2, e4, eq4, e6, eq6, e8, eq8, e10, eq10, e12, eq12, e14, eq14, e16, eq16, e18, eq18, e20, eq20, e22, eq22, e24, eq24, e26, eq26, e28, eq28, e30, eq30, e32, eq32, e34, eq34, e36, eq36, e38, eq38, e40, eq40, e42, eq42]
          · have hbr : isBr x.op = false := by simpa using h
            clear h
            have hsb : stepB x s = true := by simp [stepB, ho, hmI, hbr]
            have hrun2 := (runT_step (reads := reads) (works := works) hx hsb).symm.trans hrun
            refine region_e T_ok (by decide) fun K hK => ?_
            simp [go_sem, insC, e0, eq0, e2, eq2, e4, eq4, e6, eq6, e8, eq8, e10, eq10, e12, eq12, e14, eq14, e16, eq16, e18, eq18, e20, eq20, e22, eq22, e24, eq24, e26, eq26, e28, eq28, e30, eq30, e32, eq32, e34, eq34, e36, eq36, e38, eq38, e40, eq40, e42, eq42]
            refine call_own (plain_fn w _ (by omega) (.ptr 12 0 0) rfl s.w x hok) rfl (by simp) (by simp [go_sem, e0, eq0, e2, eq2, e4, eq4, e6, eq6, e8, eq8, e10, eq10, e12, eq12, e14, eq14, e16, eq16, e18, eq18, e20, eq20, e22, eq22, e24, eq24, e26, eq26, e28, eq28, e30, eq30, e32, eq32, e34, eq34, e36, eq36, e38, eq38, e40, eq40, e42, eq42]) fun k9 hk9 => ?_
            simp [go_sem, insC, e0, eq0, e2, eq2, e4, eq4, e6, eq6, e8, eq8, e10, eq10, e12, eq12, e14, eq14, e16, eq16, e18, eq18, e20, eq20, e22, eq22, e24, eq24, e26, eq26, e28, eq28, e30, eq30, e32, eq32, e34, eq34, e36, eq36, e38, eq38, e40, eq40, e42, eq42]
            refine hK _ ?_; clear hK K
            refine hK3 _ ?_; try clear hK3 K3
            refine region_e T_ok (by decide) fun K hK => ?_
            simp [go_sem, hw1]
            refine hK _ ?_; clear hK K
            refine ⟨(i + 1, stepT reads works i x s, k9), ?_, ?_, ?_⟩
            · exact ⟨by omega, hrun2, hF2, by dsimp only at hKk ⊢; omega, hO2, by dsimp only; omega⟩
            · dsimp only; omega
            · refine Weaker.fz 1 0 ?_ ?_ ?_
              · simp [go_sem, stepT, ho, hmI, hbr, e0, eq0, e2, eq2, e4, eq4, e6, eq6, e8, eq8, e10, eq10, e12, eq12, e14, eq14, e16, eq16, e18, eq18, e20, eq20, e22, eq22, e24, eq24, e26, eq26, e28, eq28, e30, eq30, e32, eq32, e34, eq34, e36, eq36, e38, eq38, e40, eq40, e42, eq42]
              · first | (simp; done) | (simp; omega)
              simp [go_sem, stepT, ho, hmI, hbr, e0, eq0, e2, eq2, e4, eq4, e6, eq6, e8, eq8, e10, eq10, e12, eq12, e14, eq14, e16, eq16, e18, eq18, e20, eq20, e22, eq22, e24, eq24, e26, eq26, e28, eq28, e30, eq30, e32, eq32, e34, eq34, e36, eq36, e38, eq38, e40, eq40, e42, eq42]
  · simp at h
    obtain rfl : i = l.length := by omega
    have hR : (runT reads works 0 l ⟨y, f, 0, n⟩) = (s, true) := by rw [← hrun, List.drop_length]; rfl
    refine tr_exit ?_
    refine hK1 _ ?_; try clear hK1 K1
    refine region_k T_ok (by decide) fun K hK => ?_
    simp [go_sem]
    refine hK _ ?_; clear hK K
    refine tr_ret ⟨.inr rfl, ?_⟩
    rw [hR]
    simp [go_sem, insC, e0, eq0, e2, eq2, e4, eq4, e6, eq6, e8, eq8, e10, eq10, e12, eq12, e14, eq14, e16, eq16, e18, eq18, e20, eq20, e22, eq22, e24, eq24, e26, eq26, e28, eq28, e30, eq30, e32, eq32, e34, eq34, e36, eq36, e38, eq38, e40, eq40, e42, eq42]

end Go.Proofs.Ytokdphmnlcmbbaa
/- Flow: what threads do. -/
namespace Go.Proofs.Ytokdphmnlcmbbaa
open Go Go.Sl Go.Proofs.Try

set_option maxRecDepth 20000 in
set_option maxHeartbeats 16000000 in
theorem flow_pf (t : Tst) (ht : t.ths.length ≤ 1000) (hl : ∀ x ∈ t.ths, x.length ≤ 1000) (hok : ∀ l ∈ t.ths, ∀ x ∈ l, InsOk x) (reads : List Vl) (works : List Bool) (hrl : nOps t ≤ reads.length) (hwl : nOps t ≤ works.length) : Pf Try.prog 10 [.rp t.cs 0, .ro 2 (vls reads), .ro 1 (bVs works)] (.rp (flowOf t reads works).cs 0) := by
  refine Pf.of_fz 2 (.cons (nl_rp t) (.cons (nl_vls _) (.cons (nl_bVs _) .nil))) (nl_flow _) ?_
  have hmle : nOps t ≤ 1000 * t.ths.length := by unfold nOps; rw [← opsT_len 0]; exact opsT_le 0 _ hl
  have hopl : (opsT 0 t.ths).length = nOps t := opsT_len 0 _
  have hleft0 : leftOps t 0 = nOps t := by unfold leftOps nOps; rw [List.drop_zero]
  have hflow : runO reads works (t.ths.drop 0) ⟨f0 (nOps t), [], [], true, 0⟩ = flowOf t reads works := rfl
  generalize nOps t = m at *
  have hm6 : m ≤ 1000000 := by omega
  have hm0 : (0 : Int) ≤ (m : Nat) := by omega
  have hm8 : (8 : Int) * (m : Nat) ≤ 281474976710656 := by omega
  have hm16 : (16 : Int) * (m : Nat) ≤ 281474976710656 := by omega
  have hmx : (m : Int) ≤ 9223372036854775807 := by omega
  refine fn_in T_ok func10 rfl rfl ntmps10 rfl (by simp) ?_
  refine region_k T_ok (by decide) fun K hK => ?_
  simp [go_sem]
  refine hK _ ?_; clear hK K
  refine region_k T_ok (by decide) fun K hK => ?_
  simp [go_sem]
  refine call_pf (ops_pf t ht hl) ?_
  simp [go_sem, hopl]
  refine hK _ ?_; clear hK K
  refine draw_k T_ok (by kernel_rfl) 12 [[], [0], [], [2], [], [4], [], [6], [], [8], [], [10], [0, 1, 2, 3, 4, 5, 6, 7, 8, 9, 10, 11], [0, 1, 2, 3, 4, 5, 6, 7, 8, 9, 10, 11, 12], [0, 1, 2, 3, 4, 5, 6, 7, 8, 9, 10, 11, 12, 13]] [(1, 2), (0, 3), (1, 3), (1, 4), (3, 4), (0, 5), (1, 5), (2, 5), (3, 5), (1, 6), (3, 6), (5, 6), (0, 7), (1, 7), (2, 7), (3, 7), (4, 7), (5, 7), (1, 8), (3, 8), (5, 8), (7, 8), (0, 9), (1, 9), (2, 9), (3, 9), (4, 9), (5, 9), (6, 9), (7, 9), (1, 10), (3, 10), (5, 10), (7, 10), (9, 10), (0, 11), (1, 11), (2, 11), (3, 11), (4, 11), (5, 11), (6, 11), (7, 11), (8, 11), (9, 11)] (by decide) (by decide) (by decide) fun K hK => ?_
  first | dsimp only [List.take, List.drop] | dsimp [List.take, List.drop]
  simp [go_sem, hm0, hm8, hm16, hmx]
  refine hK _ ?_; clear hK K
  refine region_k T_ok (by decide) fun K hK => ?_
  simp [go_sem]
  refine hK _ ?_; clear hK K
  refine seq_k fun K1 hK1 => ?_
  refine region_k T_ok (by decide) fun K hK => ?_
  simp [go_sem, Tst.cs]
  refine hK _ ?_; clear hK K
  refine tr_block ?_
  refine Tr.weaken (Weaker.ghostH (sz := 9) (es := [.agg [.sl 1 0 m, .sl 3 0 m, .sl 5 0 m, .sl 7 0 m, .sl 9 0 m, .sl 11 0 m, .val (.slice none 0 0), .val (.slice none 0 0), bV true]]) 12 16 [.agg [.sl 1 0 m, .sl 3 0 m, .sl 5 0 m, .sl 7 0 m, .sl 9 0 m, .sl 11 0 m, .val (.slice none 0 0), .sl 13 0 0, bV true]] (by simp [Sl.look]) (by simp) (by simp) (by simp [V.fits, V.cells, V.one]) (by simp only [List.flatMap_cons, List.flatMap_nil, V.cells, List.append_nil]; exact .same (.same (.same (.same (.same (.same (.same (.to (.same .nil)))))))))) ?_
  simp only [Sl.put, if_true, if_false, Nat.reduceEqDiff, reduceIte]
  refine Tr.weaken (Weaker.ghostH (sz := 9) (es := [.agg [.sl 1 0 m, .sl 3 0 m, .sl 5 0 m, .sl 7 0 m, .sl 9 0 m, .sl 11 0 m, .val (.slice none 0 0), .sl 13 0 0, bV true]]) 12 1 [.agg [.sl 1 0 m, .sl 3 0 m, .sl 5 0 m, .sl 7 0 m, .sl 9 0 m, .sl 11 0 m, .sl 14 0 0, .sl 13 0 0, bV true]] (by simp [Sl.look]) (by simp) (by simp) (by simp [V.fits, V.cells, V.one]) (by simp only [List.flatMap_cons, List.flatMap_nil, V.cells, List.append_nil]; exact .same (.same (.same (.same (.same (.same (.to (.same (.same .nil)))))))))) ?_
  simp only [Sl.put, if_true, if_false, Nat.reduceEqDiff, reduceIte]
  refine loop_p (α := Nat × Os' × Nat × Nat × Nat) (fun a => ⟨125, [(0, .rp t.cs 0), (1, .ro 2 (vls reads)), (2, .ro 1 (bVs works)), (8, .ptr 12 0 0), (38, .ro 1 (thrs t.ths)), (39, iV (t.ths.length : Nat)), (9, iV (a.2.1.k : Nat)), (40, iV (a.1 : Nat))], [(12, .rows 9 [.agg [.sl 1 0 m, .sl 3 0 m, .sl 5 0 m, .sl 7 0 m, .sl 9 0 m, .sl 11 0 m, .sl a.2.2.2.1 0 a.2.1.left.length, .sl a.2.2.2.2 0 a.2.1.regs.length, bV a.2.1.whole]]), (1, .rows 1 (iVs a.2.1.f.state)), (3, .rows 2 (vls a.2.1.f.write)), (5, .rows 1 (iVs a.2.1.f.pair)), (7, .rows 1 (uVs a.2.1.f.place)), (9, .rows 1 (uVs a.2.1.f.value)), (11, .rows 1 (uVs a.2.1.f.path)), (a.2.2.2.1, .rows 1 (uVs a.2.1.left)), (a.2.2.2.2, .rows 16 (regsRows a.2.1.regs))], a.2.2.1⟩) (fun a => a.1 ≤ t.ths.length ∧ runO reads works (t.ths.drop a.1) a.2.1 = flowOf t reads works ∧ FlOk m a.2.1.f ∧ a.2.1.k + leftOps t a.1 ≤ m ∧ a.2.1.left.length = a.1 ∧ a.2.1.regs.length = a.1 ∧ 12 < a.2.2.2.1 ∧ 12 < a.2.2.2.2 ∧ a.2.2.2.1 ≠ a.2.2.2.2 ∧ a.2.2.2.1 < a.2.2.1 ∧ a.2.2.2.2 < a.2.2.1) (fun a => t.ths.length - a.1) (0, ⟨f0 m, [], [], true, 0⟩, 15, 14, 13) ?_ ?_ ?_
  · exact ⟨Nat.zero_le _, hflow, f0_ok m, by dsimp only; omega, rfl, rfl, by dsimp only; omega, by dsimp only; omega, by dsimp only; omega, by dsimp only; omega, by dsimp only; omega⟩
  · refine Weaker.fz 1 0 ?_ ?_ ?_
    · simp [go_sem, Tst.cs, f0]
    · first | (simp; done) | (simp; omega)
    · simp [go_sem, f0, iVs_zeros, uVs_zeros, vls_zeros, uVs_nil, regsRows_nil]
  rintro ⟨i, s, j, rL, rR⟩ ⟨hi, hrun, hfl, hkm, hll, hrl2, hL12, hR12, hLR, hLj, hRj⟩
  dsimp only at hi hrun hfl hkm hll hrl2 hL12 hR12 hLR hLj hRj ⊢
  refine region_k T_ok (by decide) fun K hK => ?_
  simp [go_sem]
  refine hK _ ?_; clear hK K
  refine seq_k fun K2 hK2 => ?_
  refine cond_k rfl (fun h => ?_) (fun h => ?_)
  · simp at h
    have hI := h
    clear h
    have h' : i < (t.ths).length := by omega
    obtain ⟨l, hx, hx'⟩ := getAt h'
    have hi0 : (0 : Int) ≤ (i : Nat) := by omega
    have hlm := List.mem_of_getElem? hx
    have hll3 := hl l hlm
    have hst := leftOps_step hx
    have htr : s.regs.take i = s.regs := List.take_of_length_le (by omega)
    have htl : s.left.take i = s.left := List.take_of_length_le (by omega)
    have hw : IntKind.i64.wrap ((i : Nat) + 1) = (i : Nat) + 1 := wrap_i64 (by omega) (by omega)
    have e0 : ¬ rL = 0 := by omega
    have eq0 : ¬ 0 = rL := by omega
    have e2 : ¬ rL = 1 := by omega
    have eq2 : ¬ 1 = rL := by omega
    have e4 : ¬ rL = 2 := by omega
    have eq4 : ¬ 2 = rL := by omega
    have e6 : ¬ rL = 3 := by omega
    have eq6 : ¬ 3 = rL := by omega
    have e8 : ¬ rL = 4 := by omega
    have eq8 : ¬ 4 = rL := by omega
    have e10 : ¬ rL = 5 := by omega
    have eq10 : ¬ 5 = rL := by omega
    have e12 : ¬ rL = 6 := by omega
    have eq12 : ¬ 6 = rL := by omega
    have e14 : ¬ rL = 7 := by omega
    have eq14 : ¬ 7 = rL := by omega
    have e16 : ¬ rL = 8 := by omega
    have eq16 : ¬ 8 = rL := by omega
    have e18 : ¬ rL = 9 := by omega
    have eq18 : ¬ 9 = rL := by omega
    have e20 : ¬ rL = 10 := by omega
    have eq20 : ¬ 10 = rL := by omega
    have e22 : ¬ rL = 11 := by omega
    have eq22 : ¬ 11 = rL := by omega
    have e24 : ¬ rL = 12 := by omega
    have eq24 : ¬ 12 = rL := by omega
    have e26 : ¬ rR = 0 := by omega
    have eq26 : ¬ 0 = rR := by omega
    have e28 : ¬ rR = 1 := by omega
    have eq28 : ¬ 1 = rR := by omega
    have e30 : ¬ rR = 2 := by omega
    have eq30 : ¬ 2 = rR := by omega
    have e32 : ¬ rR = 3 := by omega
    have eq32 : ¬ 3 = rR := by omega
    have e34 : ¬ rR = 4 := by omega
    have eq34 : ¬ 4 = rR := by omega
    have e36 : ¬ rR = 5 := by omega
    have eq36 : ¬ 5 = rR := by omega
    have e38 : ¬ rR = 6 := by omega
    have eq38 : ¬ 6 = rR := by omega
    have e40 : ¬ rR = 7 := by omega
    have eq40 : ¬ 7 = rR := by omega
    have e42 : ¬ rR = 8 := by omega
    have eq42 : ¬ 8 = rR := by omega
    have e44 : ¬ rR = 9 := by omega
    have eq44 : ¬ 9 = rR := by omega
    have e46 : ¬ rR = 10 := by omega
    have eq46 : ¬ 10 = rR := by omega
    have e48 : ¬ rR = 11 := by omega
    have eq48 : ¬ 11 = rR := by omega
    have e50 : ¬ rR = 12 := by omega
    have eq50 : ¬ 12 = rR := by omega
    have e52 : ¬ j = 0 := by omega
    have eq52 : ¬ 0 = j := by omega
    have e54 : ¬ j = 1 := by omega
    have eq54 : ¬ 1 = j := by omega
    have e56 : ¬ j = 2 := by omega
    have eq56 : ¬ 2 = j := by omega
    have e58 : ¬ j = 3 := by omega
    have eq58 : ¬ 3 = j := by omega
    have e60 : ¬ j = 4 := by omega
    have eq60 : ¬ 4 = j := by omega
    have e62 : ¬ j = 5 := by omega
    have eq62 : ¬ 5 = j := by omega
    have e64 : ¬ j = 6 := by omega
    have eq64 : ¬ 6 = j := by omega
    have e66 : ¬ j = 7 := by omega
    have eq66 : ¬ 7 = j := by omega
    have e68 : ¬ j = 8 := by omega
    have eq68 : ¬ 8 = j := by omega
    have e70 : ¬ j = 9 := by omega
    have eq70 : ¬ 9 = j := by omega
    have e72 : ¬ j = 10 := by omega
    have eq72 : ¬ 10 = j := by omega
    have e74 : ¬ j = 11 := by omega
    have eq74 : ¬ 11 = j := by omega
    have e76 : ¬ j = 12 := by omega
    have eq76 : ¬ 12 = j := by omega
    have e78 : ¬ rL = rR := by omega
    have eq78 : ¬ rR = rL := by omega
    have e80 : ¬ rL = j := by omega
    have eq80 : ¬ j = rL := by omega
    have e82 : ¬ rR = j := by omega
    have eq82 : ¬ j = rR := by omega
    refine tr_skip ?_
    refine hK2 _ ?_; try clear hK2 K2
    refine seq_k fun K3 hK3 => ?_
    refine tr_block ?_
    refine region_k T_ok (by decide) fun K hK => ?_
    simp [go_sem, hI, hx, hx', hi0, h', e0, eq0, e2, eq2, e4, eq4, e6, eq6, e8, eq8, e10, eq10, e12, eq12, e14, eq14, e16, eq16, e18, eq18, e20, eq20, e22, eq22, e24, eq24, e26, eq26, e28, eq28, e30, eq30, e32, eq32, e34, eq34, e36, eq36, e38, eq38, e40, eq40, e42, eq42, e44, eq44, e46, eq46, e48, eq48, e50, eq50, e52, eq52, e54, eq54, e56, eq56, e58, eq58, e60, eq60, e62, eq62, e64, eq64, e66, eq66, e68, eq68, e70, eq70, e72, eq72, e74, eq74, e76, eq76, e78, eq78, e80, eq80, e82, eq82]
    refine hK _ ?_; clear hK K
    refine region_k T_ok (by decide) fun K hK => ?_
    simp [go_sem, e0, eq0, e2, eq2, e4, eq4, e6, eq6, e8, eq8, e10, eq10, e12, eq12, e14, eq14, e16, eq16, e18, eq18, e20, eq20, e22, eq22, e24, eq24, e26, eq26, e28, eq28, e30, eq30, e32, eq32, e34, eq34, e36, eq36, e38, eq38, e40, eq40, e42, eq42, e44, eq44, e46, eq46, e48, eq48, e50, eq50, e52, eq52, e54, eq54, e56, eq56, e58, eq58, e60, eq60, e62, eq62, e64, eq64, e66, eq66, e68, eq68, e70, eq70, e72, eq72, e74, eq74, e76, eq76, e78, eq78, e80, eq80, e82, eq82]
    refine ⟨wk_one rfl, ?_⟩
    refine hK _ ?_; clear hK K
    refine seq_k fun K4 hK4 => ?_
    refine region_k T_ok (by decide) fun K hK => ?_
    simp [go_sem]
    refine hK _ ?_; clear hK K
    refine tr_block ?_
    refine loop_p (α := Nat) (fun b => ⟨125, [(0, .rp t.cs 0), (1, .ro 2 (vls reads)), (2, .ro 1 (bVs works)), (8, .ptr 12 0 0), (38, .ro 1 (thrs t.ths)), (39, iV (t.ths.length : Nat)), (9, iV (s.k : Nat)), (40, iV (i : Nat)), (11, .ro 13 (inss l)), (12, .ptr j 0 0), (47, iV (b : Nat))], [(j, .rows 29 [.agg (wkC (.ptr 12 0 0) (wkI b))]), (12, .rows 9 [.agg [.sl 1 0 m, .sl 3 0 m, .sl 5 0 m, .sl 7 0 m, .sl 9 0 m, .sl 11 0 m, .sl rL 0 s.left.length, .sl rR 0 s.regs.length, bV s.whole]]), (1, .rows 1 (iVs s.f.state)), (3, .rows 2 (vls s.f.write)), (5, .rows 1 (iVs s.f.pair)), (7, .rows 1 (uVs s.f.place)), (9, .rows 1 (uVs s.f.value)), (11, .rows 1 (uVs s.f.path)), (rL, .rows 1 (uVs s.left)), (rR, .rows 16 (regsRows s.regs))], j + 1⟩) (fun b => b ≤ 8) (fun b => 8 - b) 0 ?_ ?_ ?_
    · omega
    · refine Weaker.fz 1 0 ?_ ?_ ?_
      · simp [go_sem, e0, eq0, e2, eq2, e4, eq4, e6, eq6, e8, eq8, e10, eq10, e12, eq12, e14, eq14, e16, eq16, e18, eq18, e20, eq20, e22, eq22, e24, eq24, e26, eq26, e28, eq28, e30, eq30, e32, eq32, e34, eq34, e36, eq36, e38, eq38, e40, eq40, e42, eq42, e44, eq44, e46, eq46, e48, eq48, e50, eq50, e52, eq52, e54, eq54, e56, eq56, e58, eq58, e60, eq60, e62, eq62, e64, eq64, e66, eq66, e68, eq68, e70, eq70, e72, eq72, e74, eq74, e76, eq76, e78, eq78, e80, eq80, e82, eq82]
      · first | (simp; done) | (simp; omega)
      · simp [go_sem, e0, eq0, e2, eq2, e4, eq4, e6, eq6, e8, eq8, e10, eq10, e12, eq12, e14, eq14, e16, eq16, e18, eq18, e20, eq20, e22, eq22, e24, eq24, e26, eq26, e28, eq28, e30, eq30, e32, eq32, e34, eq34, e36, eq36, e38, eq38, e40, eq40, e42, eq42, e44, eq44, e46, eq46, e48, eq48, e50, eq50, e52, eq52, e54, eq54, e56, eq56, e58, eq58, e60, eq60, e62, eq62, e64, eq64, e66, eq66, e68, eq68, e70, eq70, e72, eq72, e74, eq74, e76, eq76, e78, eq78, e80, eq80, e82, eq82]
    rintro b hb
    skip
    refine region_k T_ok (by decide) fun K hK => ?_
    simp [go_sem]
    refine hK _ ?_; clear hK K
    refine seq_k fun K5 hK5 => ?_
    refine cond_k rfl (fun h => ?_) (fun h => ?_)
    · simp at h
      have hI2 : (b : Int) < 8 := h
      clear h
      have h'2 : b < 8 := by omega
      have hi02 : (0 : Int) ≤ (b : Nat) := by omega
      have hw2 : IntKind.i64.wrap ((b : Nat) + 1) = (b : Nat) + 1 := wrap_i64 (by omega) (by omega)
      have hb162 : b * 2 + 2 ≤ 16 := by omega
      have hb292 : 1 + b * 2 + 1 ≤ 29 := by omega
      refine tr_skip ?_
      refine hK5 _ ?_; try clear hK5 K5
      refine seq_k fun K6 hK6 => ?_
      refine tr_block ?_
      refine region_k T_ok (by decide) fun K hK => ?_
      simp [go_sem]
      refine hK _ ?_; clear hK K
      refine region_e T_ok (by decide) fun K hK => ?_
      simp [go_sem, e0, eq0, e2, eq2, e4, eq4, e6, eq6, e8, eq8, e10, eq10, e12, eq12, e14, eq14, e16, eq16, e18, eq18, e20, eq20, e22, eq22, e24, eq24, e26, eq26, e28, eq28, e30, eq30, e32, eq32, e34, eq34, e36, eq36, e38, eq38, e40, eq40, e42, eq42, e44, eq44, e46, eq46, e48, eq48, e50, eq50, e52, eq52, e54, eq54, e56, eq56, e58, eq58, e60, eq60, e62, eq62, e64, eq64, e66, eq66, e68, eq68, e70, eq70, e72, eq72, e74, eq74, e76, eq76, e78, eq78, e80, eq80, e82, eq82, hI2, h'2, hi02, hb162, hb292]
      refine hK _ ?_; clear hK K
      refine hK6 _ ?_; try clear hK6 K6
      refine region_e T_ok (by decide) fun K hK => ?_
      simp [go_sem, hw2]
      refine hK _ ?_; clear hK K
      refine ⟨b + 1, ?_, ?_, ?_⟩
      · omega
      · omega
      · refine Weaker.fz 1 0 ?_ ?_ ?_
        · simp [go_sem, e0, eq0, e2, eq2, e4, eq4, e6, eq6, e8, eq8, e10, eq10, e12, eq12, e14, eq14, e16, eq16, e18, eq18, e20, eq20, e22, eq22, e24, eq24, e26, eq26, e28, eq28, e30, eq30, e32, eq32, e34, eq34, e36, eq36, e38, eq38, e40, eq40, e42, eq42, e44, eq44, e46, eq46, e48, eq48, e50, eq50, e52, eq52, e54, eq54, e56, eq56, e58, eq58, e60, eq60, e62, eq62, e64, eq64, e66, eq66, e68, eq68, e70, eq70, e72, eq72, e74, eq74, e76, eq76, e78, eq78, e80, eq80, e82, eq82]
        · first | (simp; done) | (simp; omega)
        simp [go_sem, wkI_step, e0, eq0, e2, eq2, e4, eq4, e6, eq6, e8, eq8, e10, eq10, e12, eq12, e14, eq14, e16, eq16, e18, eq18, e20, eq20, e22, eq22, e24, eq24, e26, eq26, e28, eq28, e30, eq30, e32, eq32, e34, eq34, e36, eq36, e38, eq38, e40, eq40, e42, eq42, e44, eq44, e46, eq46, e48, eq48, e50, eq50, e52, eq52, e54, eq54, e56, eq56, e58, eq58, e60, eq60, e62, eq62, e64, eq64, e66, eq66, e68, eq68, e70, eq70, e72, eq72, e74, eq74, e76, eq76, e78, eq78, e80, eq80, e82, eq82]
    · simp at h
      obtain rfl : b = 8 := by omega
      refine tr_exit ?_
      refine hK4 _ ?_; try clear hK4 K4
      refine seq_ex (fun k9 => ⟨125, [(0, .rp t.cs 0), (1, .ro 2 (vls reads)), (2, .ro 1 (bVs works)), (8, .ptr 12 0 0), (38, .ro 1 (thrs t.ths)), (39, iV (t.ths.length : Nat)), (9, iV (s.k : Nat)), (40, iV (i : Nat)), (11, .ro 13 (inss l)), (12, .ptr j 0 0)], [(j, .rows 29 [.agg (wkC (.ptr 12 0 0) (runT reads works 0 l ⟨w0, s.f, 0, s.k⟩).1.w)]), (12, .rows 9 [.agg [.sl 1 0 m, .sl 3 0 m, .sl 5 0 m, .sl 7 0 m, .sl 9 0 m, .sl 11 0 m, .sl rL 0 s.left.length, .sl rR 0 s.regs.length, bV (s.whole && (runT reads works 0 l ⟨w0, s.f, 0, s.k⟩).2)]]), (1, .rows 1 (iVs (runT reads works 0 l ⟨w0, s.f, 0, s.k⟩).1.f.state)), (3, .rows 2 (vls (runT reads works 0 l ⟨w0, s.f, 0, s.k⟩).1.f.write)), (5, .rows 1 (iVs (runT reads works 0 l ⟨w0, s.f, 0, s.k⟩).1.f.pair)), (7, .rows 1 (uVs (runT reads works 0 l ⟨w0, s.f, 0, s.k⟩).1.f.place)), (9, .rows 1 (uVs (runT reads works 0 l ⟨w0, s.f, 0, s.k⟩).1.f.value)), (11, .rows 1 (uVs (runT reads works 0 l ⟨w0, s.f, 0, s.k⟩).1.f.path)), (rL, .rows 1 (uVs s.left)), (rR, .rows 16 (regsRows s.regs))], k9⟩) (fun k9 => j + 1 ≤ k9) ?_ ?_
      · skip
        refine region_k T_ok (by decide) fun K hK => ?_
        simp [go_sem, e0, eq0, e2, eq2, e4, eq4, e6, eq6, e8, eq8, e10, eq10, e12, eq12, e14, eq14, e16, eq16, e18, eq18, e20, eq20, e22, eq22, e24, eq24, e26, eq26, e28, eq28, e30, eq30, e32, eq32, e34, eq34, e36, eq36, e38, eq38, e40, eq40, e42, eq42, e44, eq44, e46, eq46, e48, eq48, e50, eq50, e52, eq52, e54, eq54, e56, eq56, e58, eq58, e60, eq60, e62, eq62, e64, eq64, e66, eq66, e68, eq68, e70, eq70, e72, eq72, e74, eq74, e76, eq76, e78, eq78, e80, eq80, e82, eq82, wkI_8]
        refine call_own (thread_fn j _ (by omega) (by omega) m (.sl rL 0 s.left.length) (.sl rR 0 s.regs.length) (bV s.whole) w0 s.f hfl l (hok l hlm) (by omega) s.k (by omega) (by omega) reads works hrl hwl) rfl (by simp [e0, eq0, e2, eq2, e4, eq4, e6, eq6, e8, eq8, e10, eq10, e12, eq12, e14, eq14, e16, eq16, e18, eq18, e20, eq20, e22, eq22, e24, eq24, e26, eq26, e28, eq28, e30, eq30, e32, eq32, e34, eq34, e36, eq36, e38, eq38, e40, eq40, e42, eq42, e44, eq44, e46, eq46, e48, eq48, e50, eq50, e52, eq52, e54, eq54, e56, eq56, e58, eq58, e60, eq60, e62, eq62, e64, eq64, e66, eq66, e68, eq68, e70, eq70, e72, eq72, e74, eq74, e76, eq76, e78, eq78, e80, eq80, e82, eq82]) (by simp [go_sem, wkI_8, e0, eq0, e2, eq2, e4, eq4, e6, eq6, e8, eq8, e10, eq10, e12, eq12, e14, eq14, e16, eq16, e18, eq18, e20, eq20, e22, eq22, e24, eq24, e26, eq26, e28, eq28, e30, eq30, e32, eq32, e34, eq34, e36, eq36, e38, eq38, e40, eq40, e42, eq42, e44, eq44, e46, eq46, e48, eq48, e50, eq50, e52, eq52, e54, eq54, e56, eq56, e58, eq58, e60, eq60, e62, eq62, e64, eq64, e66, eq66, e68, eq68, e70, eq70, e72, eq72, e74, eq74, e76, eq76, e78, eq78, e80, eq80, e82, eq82]) fun k9 hk9 => ?_
        have a0 : ¬ k9 = 0 := by omega
        have aq0 : ¬ 0 = k9 := by omega
        have a2 : ¬ k9 = 1 := by omega
        have aq2 : ¬ 1 = k9 := by omega
        have a4 : ¬ k9 = 2 := by omega
        have aq4 : ¬ 2 = k9 := by omega
        have a6 : ¬ k9 = 3 := by omega
        have aq6 : ¬ 3 = k9 := by omega
        have a8 : ¬ k9 = 4 := by omega
        have aq8 : ¬ 4 = k9 := by omega
        have a10 : ¬ k9 = 5 := by omega
        have aq10 : ¬ 5 = k9 := by omega
        have a12 : ¬ k9 = 6 := by omega
        have aq12 : ¬ 6 = k9 := by omega
        have a14 : ¬ k9 = 7 := by omega
        have aq14 : ¬ 7 = k9 := by omega
        have a16 : ¬ k9 = 8 := by omega
        have aq16 : ¬ 8 = k9 := by omega
        have a18 : ¬ k9 = 9 := by omega
        have aq18 : ¬ 9 = k9 := by omega
        have a20 : ¬ k9 = 10 := by omega
        have aq20 : ¬ 10 = k9 := by omega
        have a22 : ¬ k9 = 11 := by omega
        have aq22 : ¬ 11 = k9 := by omega
        have a24 : ¬ k9 = 12 := by omega
        have aq24 : ¬ 12 = k9 := by omega
        have a26 : ¬ rL = k9 + 0 := by omega
        have aq26 : ¬ k9 + 0 = rL := by omega
        have a28 : ¬ rL = k9 + 9 := by omega
        have aq28 : ¬ k9 + 9 = rL := by omega
        have a30 : ¬ rL = k9 + 10 := by omega
        have aq30 : ¬ k9 + 10 = rL := by omega
        have a32 : ¬ rL = k9 + 20 := by omega
        have aq32 : ¬ k9 + 20 = rL := by omega
        have a34 : ¬ rL = k9 + 21 := by omega
        have aq34 : ¬ k9 + 21 = rL := by omega
        have a36 : ¬ rR = k9 + 0 := by omega
        have aq36 : ¬ k9 + 0 = rR := by omega
        have a38 : ¬ rR = k9 + 9 := by omega
        have aq38 : ¬ k9 + 9 = rR := by omega
        have a40 : ¬ rR = k9 + 10 := by omega
        have aq40 : ¬ k9 + 10 = rR := by omega
        have a42 : ¬ rR = k9 + 20 := by omega
        have aq42 : ¬ k9 + 20 = rR := by omega
        have a44 : ¬ rR = k9 + 21 := by omega
        have aq44 : ¬ k9 + 21 = rR := by omega
        have a46 : ¬ j = k9 + 0 := by omega
        have aq46 : ¬ k9 + 0 = j := by omega
        have a48 : ¬ j = k9 + 9 := by omega
        have aq48 : ¬ k9 + 9 = j := by omega
        have a50 : ¬ j = k9 + 10 := by omega
        have aq50 : ¬ k9 + 10 = j := by omega
        have a52 : ¬ j = k9 + 20 := by omega
        have aq52 : ¬ k9 + 20 = j := by omega
        have a54 : ¬ j = k9 + 21 := by omega
        have aq54 : ¬ k9 + 21 = j := by omega
        simp [go_sem, e0, eq0, e2, eq2, e4, eq4, e6, eq6, e8, eq8, e10, eq10, e12, eq12, e14, eq14, e16, eq16, e18, eq18, e20, eq20, e22, eq22, e24, eq24, e26, eq26, e28, eq28, e30, eq30, e32, eq32, e34, eq34, e36, eq36, e38, eq38, e40, eq40, e42, eq42, e44, eq44, e46, eq46, e48, eq48, e50, eq50, e52, eq52, e54, eq54, e56, eq56, e58, eq58, e60, eq60, e62, eq62, e64, eq64, e66, eq66, e68, eq68, e70, eq70, e72, eq72, e74, eq74, e76, eq76, e78, eq78, e80, eq80, e82, eq82]
        refine hK _ ?_; clear hK K
        refine cond_k rfl (fun h => ?_) (fun h => ?_)
        · have hR2 : (runT reads works 0 l ⟨w0, s.f, 0, s.k⟩).2 = false := by simpa using h
          clear h
          refine region_e T_ok (by decide) fun K hK => ?_
          simp [go_sem, e0, eq0, e2, eq2, e4, eq4, e6, eq6, e8, eq8, e10, eq10, e12, eq12, e14, eq14, e16, eq16, e18, eq18, e20, eq20, e22, eq22, e24, eq24, e26, eq26, e28, eq28, e30, eq30, e32, eq32, e34, eq34, e36, eq36, e38, eq38, e40, eq40, e42, eq42, e44, eq44, e46, eq46, e48, eq48, e50, eq50, e52, eq52, e54, eq54, e56, eq56, e58, eq58, e60, eq60, e62, eq62, e64, eq64, e66, eq66, e68, eq68, e70, eq70, e72, eq72, e74, eq74, e76, eq76, e78, eq78, e80, eq80, e82, eq82, a0, aq0, a2, aq2, a4, aq4, a6, aq6, a8, aq8, a10, aq10, a12, aq12, a14, aq14, a16, aq16, a18, aq18, a20, aq20, a22, aq22, a24, aq24, a26, aq26, a28, aq28, a30, aq30, a32, aq32, a34, aq34, a36, aq36, a38, aq38, a40, aq40, a42, aq42, a44, aq44, a46, aq46, a48, aq48, a50, aq50, a52, aq52, a54, aq54]
          refine hK _ ?_; clear hK K
          refine ⟨k9, by omega, ?_⟩
          refine Weaker.fzk 1 0 (by omega) ?_ ?_ ?_
          · simp [go_sem, e0, eq0, e2, eq2, e4, eq4, e6, eq6, e8, eq8, e10, eq10, e12, eq12, e14, eq14, e16, eq16, e18, eq18, e20, eq20, e22, eq22, e24, eq24, e26, eq26, e28, eq28, e30, eq30, e32, eq32, e34, eq34, e36, eq36, e38, eq38, e40, eq40, e42, eq42, e44, eq44, e46, eq46, e48, eq48, e50, eq50, e52, eq52, e54, eq54, e56, eq56, e58, eq58, e60, eq60, e62, eq62, e64, eq64, e66, eq66, e68, eq68, e70, eq70, e72, eq72, e74, eq74, e76, eq76, e78, eq78, e80, eq80, e82, eq82, a0, aq0, a2, aq2, a4, aq4, a6, aq6, a8, aq8, a10, aq10, a12, aq12, a14, aq14, a16, aq16, a18, aq18, a20, aq20, a22, aq22, a24, aq24, a26, aq26, a28, aq28, a30, aq30, a32, aq32, a34, aq34, a36, aq36, a38, aq38, a40, aq40, a42, aq42, a44, aq44, a46, aq46, a48, aq48, a50, aq50, a52, aq52, a54, aq54, hR2]
          · first | (simp; done) | (simp; omega)
          · simp [go_sem, e0, eq0, e2, eq2, e4, eq4, e6, eq6, e8, eq8, e10, eq10, e12, eq12, e14, eq14, e16, eq16, e18, eq18, e20, eq20, e22, eq22, e24, eq24, e26, eq26, e28, eq28, e30, eq30, e32, eq32, e34, eq34, e36, eq36, e38, eq38, e40, eq40, e42, eq42, e44, eq44, e46, eq46, e48, eq48, e50, eq50, e52, eq52, e54, eq54, e56, eq56, e58, eq58, e60, eq60, e62, eq62, e64, eq64, e66, eq66, e68, eq68, e70, eq70, e72, eq72, e74, eq74, e76, eq76, e78, eq78, e80, eq80, e82, eq82, a0, aq0, a2, aq2, a4, aq4, a6, aq6, a8, aq8, a10, aq10, a12, aq12, a14, aq14, a16, aq16, a18, aq18, a20, aq20, a22, aq22, a24, aq24, a26, aq26, a28, aq28, a30, aq30, a32, aq32, a34, aq34, a36, aq36, a38, aq38, a40, aq40, a42, aq42, a44, aq44, a46, aq46, a48, aq48, a50, aq50, a52, aq52, a54, aq54, hR2]
        · have hR2 : (runT reads works 0 l ⟨w0, s.f, 0, s.k⟩).2 = true := by simpa using h
          clear h
          refine tr_skip ?_
          refine ⟨k9, by omega, ?_⟩
          refine Weaker.fzk 1 0 (by omega) ?_ ?_ ?_
          · simp [go_sem, e0, eq0, e2, eq2, e4, eq4, e6, eq6, e8, eq8, e10, eq10, e12, eq12, e14, eq14, e16, eq16, e18, eq18, e20, eq20, e22, eq22, e24, eq24, e26, eq26, e28, eq28, e30, eq30, e32, eq32, e34, eq34, e36, eq36, e38, eq38, e40, eq40, e42, eq42, e44, eq44, e46, eq46, e48, eq48, e50, eq50, e52, eq52, e54, eq54, e56, eq56, e58, eq58, e60, eq60, e62, eq62, e64, eq64, e66, eq66, e68, eq68, e70, eq70, e72, eq72, e74, eq74, e76, eq76, e78, eq78, e80, eq80, e82, eq82, a0, aq0, a2, aq2, a4, aq4, a6, aq6, a8, aq8, a10, aq10, a12, aq12, a14, aq14, a16, aq16, a18, aq18, a20, aq20, a22, aq22, a24, aq24, a26, aq26, a28, aq28, a30, aq30, a32, aq32, a34, aq34, a36, aq36, a38, aq38, a40, aq40, a42, aq42, a44, aq44, a46, aq46, a48, aq48, a50, aq50, a52, aq52, a54, aq54, hR2]
          · first | (simp; done) | (simp; omega)
          · simp [go_sem, e0, eq0, e2, eq2, e4, eq4, e6, eq6, e8, eq8, e10, eq10, e12, eq12, e14, eq14, e16, eq16, e18, eq18, e20, eq20, e22, eq22, e24, eq24, e26, eq26, e28, eq28, e30, eq30, e32, eq32, e34, eq34, e36, eq36, e38, eq38, e40, eq40, e42, eq42, e44, eq44, e46, eq46, e48, eq48, e50, eq50, e52, eq52, e54, eq54, e56, eq56, e58, eq58, e60, eq60, e62, eq62, e64, eq64, e66, eq66, e68, eq68, e70, eq70, e72, eq72, e74, eq74, e76, eq76, e78, eq78, e80, eq80, e82, eq82, a0, aq0, a2, aq2, a4, aq4, a6, aq6, a8, aq8, a10, aq10, a12, aq12, a14, aq14, a16, aq16, a18, aq18, a20, aq20, a22, aq22, a24, aq24, a26, aq26, a28, aq28, a30, aq30, a32, aq32, a34, aq34, a36, aq36, a38, aq38, a40, aq40, a42, aq42, a44, aq44, a46, aq46, a48, aq48, a50, aq50, a52, aq52, a54, aq54, hR2]
      · intro k9 hk9
        have a0 : ¬ k9 = 0 := by omega
        have aq0 : ¬ 0 = k9 := by omega
        have a2 : ¬ k9 = 1 := by omega
        have aq2 : ¬ 1 = k9 := by omega
        have a4 : ¬ k9 = 2 := by omega
        have aq4 : ¬ 2 = k9 := by omega
        have a6 : ¬ k9 = 3 := by omega
        have aq6 : ¬ 3 = k9 := by omega
        have a8 : ¬ k9 = 4 := by omega
        have aq8 : ¬ 4 = k9 := by omega
        have a10 : ¬ k9 = 5 := by omega
        have aq10 : ¬ 5 = k9 := by omega
        have a12 : ¬ k9 = 6 := by omega
        have aq12 : ¬ 6 = k9 := by omega
        have a14 : ¬ k9 = 7 := by omega
        have aq14 : ¬ 7 = k9 := by omega
        have a16 : ¬ k9 = 8 := by omega
        have aq16 : ¬ 8 = k9 := by omega
        have a18 : ¬ k9 = 9 := by omega
        have aq18 : ¬ 9 = k9 := by omega
        have a20 : ¬ k9 = 10 := by omega
        have aq20 : ¬ 10 = k9 := by omega
        have a22 : ¬ k9 = 11 := by omega
        have aq22 : ¬ 11 = k9 := by omega
        have a24 : ¬ k9 = 12 := by omega
        have aq24 : ¬ 12 = k9 := by omega
        have a26 : ¬ rL = k9 + 0 := by omega
        have aq26 : ¬ k9 + 0 = rL := by omega
        have a28 : ¬ rL = k9 + 9 := by omega
        have aq28 : ¬ k9 + 9 = rL := by omega
        have a30 : ¬ rL = k9 + 10 := by omega
        have aq30 : ¬ k9 + 10 = rL := by omega
        have a32 : ¬ rL = k9 + 20 := by omega
        have aq32 : ¬ k9 + 20 = rL := by omega
        have a34 : ¬ rL = k9 + 21 := by omega
        have aq34 : ¬ k9 + 21 = rL := by omega
        have a36 : ¬ rR = k9 + 0 := by omega
        have aq36 : ¬ k9 + 0 = rR := by omega
        have a38 : ¬ rR = k9 + 9 := by omega
        have aq38 : ¬ k9 + 9 = rR := by omega
        have a40 : ¬ rR = k9 + 10 := by omega
        have aq40 : ¬ k9 + 10 = rR := by omega
        have a42 : ¬ rR = k9 + 20 := by omega
        have aq42 : ¬ k9 + 20 = rR := by omega
        have a44 : ¬ rR = k9 + 21 := by omega
        have aq44 : ¬ k9 + 21 = rR := by omega
        have a46 : ¬ j = k9 + 0 := by omega
        have aq46 : ¬ k9 + 0 = j := by omega
        have a48 : ¬ j = k9 + 9 := by omega
        have aq48 : ¬ k9 + 9 = j := by omega
        have a50 : ¬ j = k9 + 10 := by omega
        have aq50 : ¬ k9 + 10 = j := by omega
        have a52 : ¬ j = k9 + 20 := by omega
        have aq52 : ¬ k9 + 20 = j := by omega
        have a54 : ¬ j = k9 + 21 := by omega
        have aq54 : ¬ k9 + 21 = j := by omega
        refine draw_k T_ok (by kernel_rfl) 11 [[], [], [1], [1, 2], [1, 2, 3], [], [5], [5, 6], [5, 6, 7], [5, 6, 7, 8], [1, 2, 3, 4, 5, 6, 7, 8, 9], [0, 1, 2, 3, 4, 5, 6, 7, 8, 9, 10], [0, 1, 2, 3, 4, 5, 6, 7, 8, 9, 10, 11], [0, 1, 2, 3, 4, 5, 6, 7, 8, 9, 10, 11, 12]] [(0, 9), (1, 9), (2, 9), (3, 9), (4, 9), (0, 10)] (by decide) (by decide) (by decide) fun K hK => ?_
        first | dsimp only [List.take, List.drop] | dsimp [List.take, List.drop]
        simp [go_sem, e0, eq0, e2, eq2, e4, eq4, e6, eq6, e8, eq8, e10, eq10, e12, eq12, e14, eq14, e16, eq16, e18, eq18, e20, eq20, e22, eq22, e24, eq24, e26, eq26, e28, eq28, e30, eq30, e32, eq32, e34, eq34, e36, eq36, e38, eq38, e40, eq40, e42, eq42, e44, eq44, e46, eq46, e48, eq48, e50, eq50, e52, eq52, e54, eq54, e56, eq56, e58, eq58, e60, eq60, e62, eq62, e64, eq64, e66, eq66, e68, eq68, e70, eq70, e72, eq72, e74, eq74, e76, eq76, e78, eq78, e80, eq80, e82, eq82, a0, aq0, a2, aq2, a4, aq4, a6, aq6, a8, aq8, a10, aq10, a12, aq12, a14, aq14, a16, aq16, a18, aq18, a20, aq20, a22, aq22, a24, aq24, a26, aq26, a28, aq28, a30, aq30, a32, aq32, a34, aq34, a36, aq36, a38, aq38, a40, aq40, a42, aq42, a44, aq44, a46, aq46, a48, aq48, a50, aq50, a52, aq52, a54, aq54, hll, hrl2, htr]
        refine ⟨regs_one _, by omega, ?_⟩
        refine hK _ ?_; clear hK K
        refine draw_k T_ok (by kernel_rfl) 11 [[], [], [1], [1, 2], [1, 2, 3], [], [5], [5, 6], [5, 6, 7], [5, 6, 7, 8], [1, 2, 3, 4, 5, 6, 7, 8, 9], [0, 1, 2, 3, 4, 5, 6, 7, 8, 9, 10], [0, 1, 2, 3, 4, 5, 6, 7, 8, 9, 10, 11], [0, 1, 2, 3, 4, 5, 6, 7, 8, 9, 10, 11, 12]] [(0, 9), (1, 9), (2, 9), (3, 9), (4, 9), (0, 10)] (by decide) (by decide) (by decide) fun K hK => ?_
        first | dsimp only [List.take, List.drop] | dsimp [List.take, List.drop]
        simp [go_sem, e0, eq0, e2, eq2, e4, eq4, e6, eq6, e8, eq8, e10, eq10, e12, eq12, e14, eq14, e16, eq16, e18, eq18, e20, eq20, e22, eq22, e24, eq24, e26, eq26, e28, eq28, e30, eq30, e32, eq32, e34, eq34, e36, eq36, e38, eq38, e40, eq40, e42, eq42, e44, eq44, e46, eq46, e48, eq48, e50, eq50, e52, eq52, e54, eq54, e56, eq56, e58, eq58, e60, eq60, e62, eq62, e64, eq64, e66, eq66, e68, eq68, e70, eq70, e72, eq72, e74, eq74, e76, eq76, e78, eq78, e80, eq80, e82, eq82, a0, aq0, a2, aq2, a4, aq4, a6, aq6, a8, aq8, a10, aq10, a12, aq12, a14, aq14, a16, aq16, a18, aq18, a20, aq20, a22, aq22, a24, aq24, a26, aq26, a28, aq28, a30, aq30, a32, aq32, a34, aq34, a36, aq36, a38, aq38, a40, aq40, a42, aq42, a44, aq44, a46, aq46, a48, aq48, a50, aq50, a52, aq52, a54, aq54, hll, hrl2, htl]
        refine ⟨by omega, ?_⟩
        refine hK _ ?_; clear hK K
        refine seq_k fun K7 hK7 => ?_
        refine region_k T_ok (by decide) fun K hK => ?_
        simp [go_sem, e0, eq0, e2, eq2, e4, eq4, e6, eq6, e8, eq8, e10, eq10, e12, eq12, e14, eq14, e16, eq16, e18, eq18, e20, eq20, e22, eq22, e24, eq24, e26, eq26, e28, eq28, e30, eq30, e32, eq32, e34, eq34, e36, eq36, e38, eq38, e40, eq40, e42, eq42, e44, eq44, e46, eq46, e48, eq48, e50, eq50, e52, eq52, e54, eq54, e56, eq56, e58, eq58, e60, eq60, e62, eq62, e64, eq64, e66, eq66, e68, eq68, e70, eq70, e72, eq72, e74, eq74, e76, eq76, e78, eq78, e80, eq80, e82, eq82, a0, aq0, a2, aq2, a4, aq4, a6, aq6, a8, aq8, a10, aq10, a12, aq12, a14, aq14, a16, aq16, a18, aq18, a20, aq20, a22, aq22, a24, aq24, a26, aq26, a28, aq28, a30, aq30, a32, aq32, a34, aq34, a36, aq36, a38, aq38, a40, aq40, a42, aq42, a44, aq44, a46, aq46, a48, aq48, a50, aq50, a52, aq52, a54, aq54]
        refine hK _ ?_; clear hK K
        refine tr_block ?_
        refine loop_p (α := Nat × Nat) (fun b => ⟨125, [(0, .rp t.cs 0), (1, .ro 2 (vls reads)), (2, .ro 1 (bVs works)), (8, .ptr 12 0 0), (38, .ro 1 (thrs t.ths)), (39, iV (t.ths.length : Nat)), (9, iV (s.k : Nat)), (40, iV (i : Nat)), (11, .ro 13 (inss l)), (96, .agg (regsC (runT reads works 0 l ⟨w0, s.f, 0, s.k⟩).1.w.regs)), (97, iV (b.1 : Nat))], [(12, .rows 9 [.agg [.sl 1 0 m, .sl 3 0 m, .sl 5 0 m, .sl 7 0 m, .sl 9 0 m, .sl 11 0 m, .sl (k9 + 21) 0 (s.left.length + 1), .sl (k9 + 10) 0 (s.regs.length + 1), bV (whP s.whole (runT reads works 0 l ⟨w0, s.f, 0, s.k⟩).2 (runT reads works 0 l ⟨w0, s.f, 0, s.k⟩).1.w.regs b.1)]]), (1, .rows 1 (iVs (runT reads works 0 l ⟨w0, s.f, 0, s.k⟩).1.f.state)), (3, .rows 2 (vls (runT reads works 0 l ⟨w0, s.f, 0, s.k⟩).1.f.write)), (5, .rows 1 (iVs (runT reads works 0 l ⟨w0, s.f, 0, s.k⟩).1.f.pair)), (7, .rows 1 (uVs (runT reads works 0 l ⟨w0, s.f, 0, s.k⟩).1.f.place)), (9, .rows 1 (uVs (runT reads works 0 l ⟨w0, s.f, 0, s.k⟩).1.f.value)), (11, .rows 1 (uVs (runT reads works 0 l ⟨w0, s.f, 0, s.k⟩).1.f.path)), ((k9 + 21), .rows 1 (uVs (s.left ++ [(runT reads works 0 l ⟨w0, s.f, 0, s.k⟩).1.w.left]))), ((k9 + 10), .rows 16 (regsRows (s.regs ++ [(runT reads works 0 l ⟨w0, s.f, 0, s.k⟩).1.w.regs])))], b.2⟩) (fun b => b.1 ≤ 8 ∧ k9 + 22 ≤ b.2) (fun b => 8 - b.1) (0, k9 + 22) ?_ ?_ ?_
        · dsimp only; omega
        · refine Weaker.fz 1 0 ?_ ?_ ?_
          · simp [go_sem, e0, eq0, e2, eq2, e4, eq4, e6, eq6, e8, eq8, e10, eq10, e12, eq12, e14, eq14, e16, eq16, e18, eq18, e20, eq20, e22, eq22, e24, eq24, e26, eq26, e28, eq28, e30, eq30, e32, eq32, e34, eq34, e36, eq36, e38, eq38, e40, eq40, e42, eq42, e44, eq44, e46, eq46, e48, eq48, e50, eq50, e52, eq52, e54, eq54, e56, eq56, e58, eq58, e60, eq60, e62, eq62, e64, eq64, e66, eq66, e68, eq68, e70, eq70, e72, eq72, e74, eq74, e76, eq76, e78, eq78, e80, eq80, e82, eq82, a0, aq0, a2, aq2, a4, aq4, a6, aq6, a8, aq8, a10, aq10, a12, aq12, a14, aq14, a16, aq16, a18, aq18, a20, aq20, a22, aq22, a24, aq24, a26, aq26, a28, aq28, a30, aq30, a32, aq32, a34, aq34, a36, aq36, a38, aq38, a40, aq40, a42, aq42, a44, aq44, a46, aq46, a48, aq48, a50, aq50, a52, aq52, a54, aq54]
          · first | (simp; done) | (simp; omega)
          · intro p hp; simp only [List.mem_cons, List.not_mem_nil, or_false] at hp; rcases hp with rfl|rfl|rfl|rfl|rfl|rfl|rfl|rfl|rfl <;> simp [go_sem, whP_zero, regsRows_append, uVs_append, hll, hrl2, e0, eq0, e2, eq2, e4, eq4, e6, eq6, e8, eq8, e10, eq10, e12, eq12, e14, eq14, e16, eq16, e18, eq18, e20, eq20, e22, eq22, e24, eq24, e26, eq26, e28, eq28, e30, eq30, e32, eq32, e34, eq34, e36, eq36, e38, eq38, e40, eq40, e42, eq42, e44, eq44, e46, eq46, e48, eq48, e50, eq50, e52, eq52, e54, eq54, e56, eq56, e58, eq58, e60, eq60, e62, eq62, e64, eq64, e66, eq66, e68, eq68, e70, eq70, e72, eq72, e74, eq74, e76, eq76, e78, eq78, e80, eq80, e82, eq82, a0, aq0, a2, aq2, a4, aq4, a6, aq6, a8, aq8, a10, aq10, a12, aq12, a14, aq14, a16, aq16, a18, aq18, a20, aq20, a22, aq22, a24, aq24, a26, aq26, a28, aq28, a30, aq30, a32, aq32, a34, aq34, a36, aq36, a38, aq38, a40, aq40, a42, aq42, a44, aq44, a46, aq46, a48, aq48, a50, aq50, a52, aq52, a54, aq54]
        rintro ⟨b, c⟩ ⟨hb, hc⟩
        dsimp only at hb hc ⊢
        refine region_k T_ok (by decide) fun K hK => ?_
        simp [go_sem]
        refine hK _ ?_; clear hK K
        refine seq_k fun K8 hK8 => ?_
        refine cond_k rfl (fun h => ?_) (fun h => ?_)
        · simp at h
          have hI4 : (b : Int) < 8 := h
          clear h
          have h'4 : b < 8 := by omega
          have hi04 : (0 : Int) ≤ (b : Nat) := by omega
          have hw4 : IntKind.i64.wrap ((b : Nat) + 1) = (b : Nat) + 1 := wrap_i64 (by omega) (by omega)
          have hb164 : b * 2 + 2 ≤ 16 := by omega
          have hb294 : 1 + b * 2 + 1 ≤ 29 := by omega
          have b0 : ¬ c = 0 := by omega
          have bq0 : ¬ 0 = c := by omega
          have b2 : ¬ c = 1 := by omega
          have bq2 : ¬ 1 = c := by omega
          have b4 : ¬ c = 2 := by omega
          have bq4 : ¬ 2 = c := by omega
          have b6 : ¬ c = 3 := by omega
          have bq6 : ¬ 3 = c := by omega
          have b8 : ¬ c = 4 := by omega
          have bq8 : ¬ 4 = c := by omega
          have b10 : ¬ c = 5 := by omega
          have bq10 : ¬ 5 = c := by omega
          have b12 : ¬ c = 6 := by omega
          have bq12 : ¬ 6 = c := by omega
          have b14 : ¬ c = 7 := by omega
          have bq14 : ¬ 7 = c := by omega
          have b16 : ¬ c = 8 := by omega
          have bq16 : ¬ 8 = c := by omega
          have b18 : ¬ c = 9 := by omega
          have bq18 : ¬ 9 = c := by omega
          have b20 : ¬ c = 10 := by omega
          have bq20 : ¬ 10 = c := by omega
          have b22 : ¬ c = 11 := by omega
          have bq22 : ¬ 11 = c := by omega
          have b24 : ¬ c = 12 := by omega
          have bq24 : ¬ 12 = c := by omega
          have b26 : ¬ c = j := by omega
          have bq26 : ¬ j = c := by omega
          have b28 : ¬ c = k9 + 10 := by omega
          have bq28 : ¬ k9 + 10 = c := by omega
          have b30 : ¬ c = k9 + 21 := by omega
          have bq30 : ¬ k9 + 21 = c := by omega
          refine tr_skip ?_
          refine hK8 _ ?_; try clear hK8 K8
          refine seq_k fun K9 hK9 => ?_
          refine tr_block ?_
          refine region_k T_ok (by decide) fun K hK => ?_
          simp [go_sem, hI4, h'4, hi04, hb164, hb294, e0, eq0, e2, eq2, e4, eq4, e6, eq6, e8, eq8, e10, eq10, e12, eq12, e14, eq14, e16, eq16, e18, eq18, e20, eq20, e22, eq22, e24, eq24, e26, eq26, e28, eq28, e30, eq30, e32, eq32, e34, eq34, e36, eq36, e38, eq38, e40, eq40, e42, eq42, e44, eq44, e46, eq46, e48, eq48, e50, eq50, e52, eq52, e54, eq54, e56, eq56, e58, eq58, e60, eq60, e62, eq62, e64, eq64, e66, eq66, e68, eq68, e70, eq70, e72, eq72, e74, eq74, e76, eq76, e78, eq78, e80, eq80, e82, eq82, a0, aq0, a2, aq2, a4, aq4, a6, aq6, a8, aq8, a10, aq10, a12, aq12, a14, aq14, a16, aq16, a18, aq18, a20, aq20, a22, aq22, a24, aq24, a26, aq26, a28, aq28, a30, aq30, a32, aq32, a34, aq34, a36, aq36, a38, aq38, a40, aq40, a42, aq42, a44, aq44, a46, aq46, a48, aq48, a50, aq50, a52, aq52, a54, aq54, b0, bq0, b2, bq2, b4, bq4, b6, bq6, b8, bq8, b10, bq10, b12, bq12, b14, bq14, b16, bq16, b18, bq18, b20, bq20, b22, bq22, b24, bq24, b26, bq26, b28, bq28, b30, bq30]
          refine hK _ ?_; clear hK K
          refine region_e T_ok (by decide) fun K hK => ?_
          cases hW : (whP s.whole (runT reads works 0 l ⟨w0, s.f, 0, s.k⟩).2 (runT reads works 0 l ⟨w0, s.f, 0, s.k⟩).1.w.regs b)
          · simp [go_sem, hW, e0, eq0, e2, eq2, e4, eq4, e6, eq6, e8, eq8, e10, eq10, e12, eq12, e14, eq14, e16, eq16, e18, eq18, e20, eq20, e22, eq22, e24, eq24, e26, eq26, e28, eq28, e30, eq30, e32, eq32, e34, eq34, e36, eq36, e38, eq38, e40, eq40, e42, eq42, e44, eq44, e46, eq46, e48, eq48, e50, eq50, e52, eq52, e54, eq54, e56, eq56, e58, eq58, e60, eq60, e62, eq62, e64, eq64, e66, eq66, e68, eq68, e70, eq70, e72, eq72, e74, eq74, e76, eq76, e78, eq78, e80, eq80, e82, eq82, a0, aq0, a2, aq2, a4, aq4, a6, aq6, a8, aq8, a10, aq10, a12, aq12, a14, aq14, a16, aq16, a18, aq18, a20, aq20, a22, aq22, a24, aq24, a26, aq26, a28, aq28, a30, aq30, a32, aq32, a34, aq34, a36, aq36, a38, aq38, a40, aq40, a42, aq42, a44, aq44, a46, aq46, a48, aq48, a50, aq50, a52, aq52, a54, aq54, b0, bq0, b2, bq2, b4, bq4, b6, bq6, b8, bq8, b10, bq10, b12, bq12, b14, bq14, b16, bq16, b18, bq18, b20, bq20, b22, bq22, b24, bq24, b26, bq26, b28, bq28, b30, bq30]
            refine hK _ ?_; clear hK K
            refine hK9 _ ?_; try clear hK9 K9
            refine region_e T_ok (by decide) fun K hK => ?_
            simp [go_sem, hw4]
            refine hK _ ?_; clear hK K
            refine ⟨(b + 1, c + 1), ?_, ?_, ?_⟩
            · dsimp only; omega
            · dsimp only; omega
            · refine Weaker.fz 1 0 ?_ ?_ ?_
              · simp [go_sem, e0, eq0, e2, eq2, e4, eq4, e6, eq6, e8, eq8, e10, eq10, e12, eq12, e14, eq14, e16, eq16, e18, eq18, e20, eq20, e22, eq22, e24, eq24, e26, eq26, e28, eq28, e30, eq30, e32, eq32, e34, eq34, e36, eq36, e38, eq38, e40, eq40, e42, eq42, e44, eq44, e46, eq46, e48, eq48, e50, eq50, e52, eq52, e54, eq54, e56, eq56, e58, eq58, e60, eq60, e62, eq62, e64, eq64, e66, eq66, e68, eq68, e70, eq70, e72, eq72, e74, eq74, e76, eq76, e78, eq78, e80, eq80, e82, eq82, a0, aq0, a2, aq2, a4, aq4, a6, aq6, a8, aq8, a10, aq10, a12, aq12, a14, aq14, a16, aq16, a18, aq18, a20, aq20, a22, aq22, a24, aq24, a26, aq26, a28, aq28, a30, aq30, a32, aq32, a34, aq34, a36, aq36, a38, aq38, a40, aq40, a42, aq42, a44, aq44, a46, aq46, a48, aq48, a50, aq50, a52, aq52, a54, aq54, b0, bq0, b2, bq2, b4, bq4, b6, bq6, b8, bq8, b10, bq10, b12, bq12, b14, bq14, b16, bq16, b18, bq18, b20, bq20, b22, bq22, b24, bq24, b26, bq26, b28, bq28, b30, bq30]
              · first | (simp; done) | (simp; omega)
              simp [go_sem, whP_step, hW, e0, eq0, e2, eq2, e4, eq4, e6, eq6, e8, eq8, e10, eq10, e12, eq12, e14, eq14, e16, eq16, e18, eq18, e20, eq20, e22, eq22, e24, eq24, e26, eq26, e28, eq28, e30, eq30, e32, eq32, e34, eq34, e36, eq36, e38, eq38, e40, eq40, e42, eq42, e44, eq44, e46, eq46, e48, eq48, e50, eq50, e52, eq52, e54, eq54, e56, eq56, e58, eq58, e60, eq60, e62, eq62, e64, eq64, e66, eq66, e68, eq68, e70, eq70, e72, eq72, e74, eq74, e76, eq76, e78, eq78, e80, eq80, e82, eq82, a0, aq0, a2, aq2, a4, aq4, a6, aq6, a8, aq8, a10, aq10, a12, aq12, a14, aq14, a16, aq16, a18, aq18, a20, aq20, a22, aq22, a24, aq24, a26, aq26, a28, aq28, a30, aq30, a32, aq32, a34, aq34, a36, aq36, a38, aq38, a40, aq40, a42, aq42, a44, aq44, a46, aq46, a48, aq48, a50, aq50, a52, aq52, a54, aq54, b0, bq0, b2, bq2, b4, bq4, b6, bq6, b8, bq8, b10, bq10, b12, bq12, b14, bq14, b16, bq16, b18, bq18, b20, bq20, b22, bq22, b24, bq24, b26, bq26, b28, bq28, b30, bq30]
          · simp [go_sem, hW, e0, eq0, e2, eq2, e4, eq4, e6, eq6, e8, eq8, e10, eq10, e12, eq12, e14, eq14, e16, eq16, e18, eq18, e20, eq20, e22, eq22, e24, eq24, e26, eq26, e28, eq28, e30, eq30, e32, eq32, e34, eq34, e36, eq36, e38, eq38, e40, eq40, e42, eq42, e44, eq44, e46, eq46, e48, eq48, e50, eq50, e52, eq52, e54, eq54, e56, eq56, e58, eq58, e60, eq60, e62, eq62, e64, eq64, e66, eq66, e68, eq68, e70, eq70, e72, eq72, e74, eq74, e76, eq76, e78, eq78, e80, eq80, e82, eq82, a0, aq0, a2, aq2, a4, aq4, a6, aq6, a8, aq8, a10, aq10, a12, aq12, a14, aq14, a16, aq16, a18, aq18, a20, aq20, a22, aq22, a24, aq24, a26, aq26, a28, aq28, a30, aq30, a32, aq32, a34, aq34, a36, aq36, a38, aq38, a40, aq40, a42, aq42, a44, aq44, a46, aq46, a48, aq48, a50, aq50, a52, aq52, a54, aq54, b0, bq0, b2, bq2, b4, bq4, b6, bq6, b8, bq8, b10, bq10, b12, bq12, b14, bq14, b16, bq16, b18, bq18, b20, bq20, b22, bq22, b24, bq24, b26, bq26, b28, bq28, b30, bq30]
            refine hK _ ?_; clear hK K
            refine hK9 _ ?_; try clear hK9 K9
            refine region_e T_ok (by decide) fun K hK => ?_
            simp [go_sem, hw4]
            refine hK _ ?_; clear hK K
            refine ⟨(b + 1, c + 1), ?_, ?_, ?_⟩
            · dsimp only; omega
            · dsimp only; omega
            · refine Weaker.fz 1 0 ?_ ?_ ?_
              · simp [go_sem, e0, eq0, e2, eq2, e4, eq4, e6, eq6, e8, eq8, e10, eq10, e12, eq12, e14, eq14, e16, eq16, e18, eq18, e20, eq20, e22, eq22, e24, eq24, e26, eq26, e28, eq28, e30, eq30, e32, eq32, e34, eq34, e36, eq36, e38, eq38, e40, eq40, e42, eq42, e44, eq44, e46, eq46, e48, eq48, e50, eq50, e52, eq52, e54, eq54, e56, eq56, e58, eq58, e60, eq60, e62, eq62, e64, eq64, e66, eq66, e68, eq68, e70, eq70, e72, eq72, e74, eq74, e76, eq76, e78, eq78, e80, eq80, e82, eq82, a0, aq0, a2, aq2, a4, aq4, a6, aq6, a8, aq8, a10, aq10, a12, aq12, a14, aq14, a16, aq16, a18, aq18, a20, aq20, a22, aq22, a24, aq24, a26, aq26, a28, aq28, a30, aq30, a32, aq32, a34, aq34, a36, aq36, a38, aq38, a40, aq40, a42, aq42, a44, aq44, a46, aq46, a48, aq48, a50, aq50, a52, aq52, a54, aq54, b0, bq0, b2, bq2, b4, bq4, b6, bq6, b8, bq8, b10, bq10, b12, bq12, b14, bq14, b16, bq16, b18, bq18, b20, bq20, b22, bq22, b24, bq24, b26, bq26, b28, bq28, b30, bq30]
              · first | (simp; done) | (simp; omega)
              simp [go_sem, whP_step, hW, e0, eq0, e2, eq2, e4, eq4, e6, eq6, e8, eq8, e10, eq10, e12, eq12, e14, eq14, e16, eq16, e18, eq18, e20, eq20, e22, eq22, e24, eq24, e26, eq26, e28, eq28, e30, eq30, e32, eq32, e34, eq34, e36, eq36, e38, eq38, e40, eq40, e42, eq42, e44, eq44, e46, eq46, e48, eq48, e50, eq50, e52, eq52, e54, eq54, e56, eq56, e58, eq58, e60, eq60, e62, eq62, e64, eq64, e66, eq66, e68, eq68, e70, eq70, e72, eq72, e74, eq74, e76, eq76, e78, eq78, e80, eq80, e82, eq82, a0, aq0, a2, aq2, a4, aq4, a6, aq6, a8, aq8, a10, aq10, a12, aq12, a14, aq14, a16, aq16, a18, aq18, a20, aq20, a22, aq22, a24, aq24, a26, aq26, a28, aq28, a30, aq30, a32, aq32, a34, aq34, a36, aq36, a38, aq38, a40, aq40, a42, aq42, a44, aq44, a46, aq46, a48, aq48, a50, aq50, a52, aq52, a54, aq54, b0, bq0, b2, bq2, b4, bq4, b6, bq6, b8, bq8, b10, bq10, b12, bq12, b14, bq14, b16, bq16, b18, bq18, b20, bq20, b22, bq22, b24, bq24, b26, bq26, b28, bq28, b30, bq30]
        · simp at h
          obtain rfl : b = 8 := by omega
          refine tr_exit ?_
          refine hK7 _ ?_; try clear hK7 K7
          refine region_k T_ok (by decide) fun K hK => ?_
          simp [go_sem]
          refine hK _ ?_; clear hK K
          refine tr_block ?_
          refine loop_p (α := Nat × Nat) (fun b => ⟨125, [(0, .rp t.cs 0), (1, .ro 2 (vls reads)), (2, .ro 1 (bVs works)), (8, .ptr 12 0 0), (38, .ro 1 (thrs t.ths)), (39, iV (t.ths.length : Nat)), (112, .ro 13 (inss l)), (113, iV (l.length : Nat)), (114, iV (b.1 : Nat)), (9, iV (kP s.k l b.1 : Nat)), (40, iV (i : Nat))], [(12, .rows 9 [.agg [.sl 1 0 m, .sl 3 0 m, .sl 5 0 m, .sl 7 0 m, .sl 9 0 m, .sl 11 0 m, .sl (k9 + 21) 0 (s.left.length + 1), .sl (k9 + 10) 0 (s.regs.length + 1), bV (whP s.whole (runT reads works 0 l ⟨w0, s.f, 0, s.k⟩).2 (runT reads works 0 l ⟨w0, s.f, 0, s.k⟩).1.w.regs 8)]]), (1, .rows 1 (iVs (runT reads works 0 l ⟨w0, s.f, 0, s.k⟩).1.f.state)), (3, .rows 2 (vls (runT reads works 0 l ⟨w0, s.f, 0, s.k⟩).1.f.write)), (5, .rows 1 (iVs (runT reads works 0 l ⟨w0, s.f, 0, s.k⟩).1.f.pair)), (7, .rows 1 (uVs (runT reads works 0 l ⟨w0, s.f, 0, s.k⟩).1.f.place)), (9, .rows 1 (uVs (runT reads works 0 l ⟨w0, s.f, 0, s.k⟩).1.f.value)), (11, .rows 1 (uVs (runT reads works 0 l ⟨w0, s.f, 0, s.k⟩).1.f.path)), ((k9 + 21), .rows 1 (uVs (s.left ++ [(runT reads works 0 l ⟨w0, s.f, 0, s.k⟩).1.w.left]))), ((k9 + 10), .rows 16 (regsRows (s.regs ++ [(runT reads works 0 l ⟨w0, s.f, 0, s.k⟩).1.w.regs])))], b.2⟩) (fun b => b.1 ≤ l.length ∧ k9 + 22 ≤ b.2) (fun b => l.length - b.1) (0, c) ?_ ?_ ?_
          · dsimp only; omega
          · refine Weaker.fz 1 0 ?_ ?_ ?_
            · simp [go_sem, kP_zero, e0, eq0, e2, eq2, e4, eq4, e6, eq6, e8, eq8, e10, eq10, e12, eq12, e14, eq14, e16, eq16, e18, eq18, e20, eq20, e22, eq22, e24, eq24, e26, eq26, e28, eq28, e30, eq30, e32, eq32, e34, eq34, e36, eq36, e38, eq38, e40, eq40, e42, eq42, e44, eq44, e46, eq46, e48, eq48, e50, eq50, e52, eq52, e54, eq54, e56, eq56, e58, eq58, e60, eq60, e62, eq62, e64, eq64, e66, eq66, e68, eq68, e70, eq70, e72, eq72, e74, eq74, e76, eq76, e78, eq78, e80, eq80, e82, eq82, a0, aq0, a2, aq2, a4, aq4, a6, aq6, a8, aq8, a10, aq10, a12, aq12, a14, aq14, a16, aq16, a18, aq18, a20, aq20, a22, aq22, a24, aq24, a26, aq26, a28, aq28, a30, aq30, a32, aq32, a34, aq34, a36, aq36, a38, aq38, a40, aq40, a42, aq42, a44, aq44, a46, aq46, a48, aq48, a50, aq50, a52, aq52, a54, aq54]
            · first | (simp; done) | (simp; omega)
            · simp [go_sem, e0, eq0, e2, eq2, e4, eq4, e6, eq6, e8, eq8, e10, eq10, e12, eq12, e14, eq14, e16, eq16, e18, eq18, e20, eq20, e22, eq22, e24, eq24, e26, eq26, e28, eq28, e30, eq30, e32, eq32, e34, eq34, e36, eq36, e38, eq38, e40, eq40, e42, eq42, e44, eq44, e46, eq46, e48, eq48, e50, eq50, e52, eq52, e54, eq54, e56, eq56, e58, eq58, e60, eq60, e62, eq62, e64, eq64, e66, eq66, e68, eq68, e70, eq70, e72, eq72, e74, eq74, e76, eq76, e78, eq78, e80, eq80, e82, eq82, a0, aq0, a2, aq2, a4, aq4, a6, aq6, a8, aq8, a10, aq10, a12, aq12, a14, aq14, a16, aq16, a18, aq18, a20, aq20, a22, aq22, a24, aq24, a26, aq26, a28, aq28, a30, aq30, a32, aq32, a34, aq34, a36, aq36, a38, aq38, a40, aq40, a42, aq42, a44, aq44, a46, aq46, a48, aq48, a50, aq50, a52, aq52, a54, aq54]
          rintro ⟨b, c6⟩ ⟨hb6, hc6⟩
          dsimp only at hb6 hc6 ⊢
          refine region_k T_ok (by decide) fun K hK => ?_
          simp [go_sem]
          refine hK _ ?_; clear hK K
          refine seq_k fun K10 hK10 => ?_
          refine cond_k rfl (fun h => ?_) (fun h => ?_)
          · simp at h
            have hI6 := h
            clear h
            have h'6 : b < (l).length := by omega
            obtain ⟨x, hx6, hx'6⟩ := getAt h'6
            have hi06 : (0 : Int) ≤ (b : Nat) := by omega
            have hw6 : IntKind.i64.wrap ((b : Nat) + 1) = (b : Nat) + 1 := wrap_i64 (by omega) (by omega)
            have d0 : ¬ c6 = 0 := by omega
            have dq0 : ¬ 0 = c6 := by omega
            have d2 : ¬ c6 = 1 := by omega
            have dq2 : ¬ 1 = c6 := by omega
            have d4 : ¬ c6 = 2 := by omega
            have dq4 : ¬ 2 = c6 := by omega
            have d6 : ¬ c6 = 3 := by omega
            have dq6 : ¬ 3 = c6 := by omega
            have d8 : ¬ c6 = 4 := by omega
            have dq8 : ¬ 4 = c6 := by omega
            have d10 : ¬ c6 = 5 := by omega
            have dq10 : ¬ 5 = c6 := by omega
            have d12 : ¬ c6 = 6 := by omega
            have dq12 : ¬ 6 = c6 := by omega
            have d14 : ¬ c6 = 7 := by omega
            have dq14 : ¬ 7 = c6 := by omega
            have d16 : ¬ c6 = 8 := by omega
            have dq16 : ¬ 8 = c6 := by omega
            have d18 : ¬ c6 = 9 := by omega
            have dq18 : ¬ 9 = c6 := by omega
            have d20 : ¬ c6 = 10 := by omega
            have dq20 : ¬ 10 = c6 := by omega
            have d22 : ¬ c6 = 11 := by omega
            have dq22 : ¬ 11 = c6 := by omega
            have d24 : ¬ c6 = 12 := by omega
            have dq24 : ¬ 12 = c6 := by omega
            have d26 : ¬ c6 = k9 + 10 := by omega
            have dq26 : ¬ k9 + 10 = c6 := by omega
            have d28 : ¬ c6 = k9 + 21 := by omega
            have dq28 : ¬ k9 + 21 = c6 := by omega
            refine tr_skip ?_
            refine hK10 _ ?_; try clear hK10 K10
            refine seq_k fun K11 hK11 => ?_
            refine tr_block ?_
            refine region_k T_ok (by decide) fun K hK => ?_
            simp [go_sem, hI6, hx6, hx'6, hi06, h'6, insC, e0, eq0, e2, eq2, e4, eq4, e6, eq6, e8, eq8, e10, eq10, e12, eq12, e14, eq14, e16, eq16, e18, eq18, e20, eq20, e22, eq22, e24, eq24, e26, eq26, e28, eq28, e30, eq30, e32, eq32, e34, eq34, e36, eq36, e38, eq38, e40, eq40, e42, eq42, e44, eq44, e46, eq46, e48, eq48, e50, eq50, e52, eq52, e54, eq54, e56, eq56, e58, eq58, e60, eq60, e62, eq62, e64, eq64, e66, eq66, e68, eq68, e70, eq70, e72, eq72, e74, eq74, e76, eq76, e78, eq78, e80, eq80, e82, eq82, a0, aq0, a2, aq2, a4, aq4, a6, aq6, a8, aq8, a10, aq10, a12, aq12, a14, aq14, a16, aq16, a18, aq18, a20, aq20, a22, aq22, a24, aq24, a26, aq26, a28, aq28, a30, aq30, a32, aq32, a34, aq34, a36, aq36, a38, aq38, a40, aq40, a42, aq42, a44, aq44, a46, aq46, a48, aq48, a50, aq50, a52, aq52, a54, aq54, d0, dq0, d2, dq2, d4, dq4, d6, dq6, d8, dq8, d10, dq10, d12, dq12, d14, dq14, d16, dq16, d18, dq18, d20, dq20, d22, dq22, d24, dq24, d26, dq26, d28, dq28]
            refine hK _ ?_; clear hK K
            refine region_k T_ok (by decide) fun K hK => ?_
            simp [go_sem, insC, e0, eq0, e2, eq2, e4, eq4, e6, eq6, e8, eq8, e10, eq10, e12, eq12, e14, eq14, e16, eq16, e18, eq18, e20, eq20, e22, eq22, e24, eq24, e26, eq26, e28, eq28, e30, eq30, e32, eq32, e34, eq34, e36, eq36, e38, eq38, e40, eq40, e42, eq42, e44, eq44, e46, eq46, e48, eq48, e50, eq50, e52, eq52, e54, eq54, e56, eq56, e58, eq58, e60, eq60, e62, eq62, e64, eq64, e66, eq66, e68, eq68, e70, eq70, e72, eq72, e74, eq74, e76, eq76, e78, eq78, e80, eq80, e82, eq82, a0, aq0, a2, aq2, a4, aq4, a6, aq6, a8, aq8, a10, aq10, a12, aq12, a14, aq14, a16, aq16, a18, aq18, a20, aq20, a22, aq22, a24, aq24, a26, aq26, a28, aq28, a30, aq30, a32, aq32, a34, aq34, a36, aq36, a38, aq38, a40, aq40, a42, aq42, a44, aq44, a46, aq46, a48, aq48, a50, aq50, a52, aq52, a54, aq54, d0, dq0, d2, dq2, d4, dq4, d6, dq6, d8, dq8, d10, dq10, d12, dq12, d14, dq14, d16, dq16, d18, dq18, d20, dq20, d22, dq22, d24, dq24, d26, dq26, d28, dq28]
            refine call_pf (ismem_pf x) ?_
            simp [go_sem]
            refine hK _ ?_; clear hK K
            refine cond_k rfl (fun h => ?_) (fun h => ?_)
            · have hm : memI x = true := h
              clear h
              have hkl := kP_le s.k l b
              have hwk : IntKind.i64.wrap ((kP s.k l b : Nat) + 1) = (kP s.k l b : Nat) + 1 := wrap_i64 (by omega) (by omega)
              refine region_e T_ok (by decide) fun K hK => ?_
              simp [go_sem, hwk]
              refine hK _ ?_; clear hK K
              refine hK11 _ ?_; try clear hK11 K11
              refine region_e T_ok (by decide) fun K hK => ?_
              simp [go_sem, hw6]
              refine hK _ ?_; clear hK K
              refine ⟨(b + 1, c6 + 1), ?_, ?_, ?_⟩
              · dsimp only; omega
              · dsimp only; omega
              · refine Weaker.fz 1 0 ?_ ?_ ?_
                · simp [go_sem, kP_yes hx6 hm, e0, eq0, e2, eq2, e4, eq4, e6, eq6, e8, eq8, e10, eq10, e12, eq12, e14, eq14, e16, eq16, e18, eq18, e20, eq20, e22, eq22, e24, eq24, e26, eq26, e28, eq28, e30, eq30, e32, eq32, e34, eq34, e36, eq36, e38, eq38, e40, eq40, e42, eq42, e44, eq44, e46, eq46, e48, eq48, e50, eq50, e52, eq52, e54, eq54, e56, eq56, e58, eq58, e60, eq60, e62, eq62, e64, eq64, e66, eq66, e68, eq68, e70, eq70, e72, eq72, e74, eq74, e76, eq76, e78, eq78, e80, eq80, e82, eq82, a0, aq0, a2, aq2, a4, aq4, a6, aq6, a8, aq8, a10, aq10, a12, aq12, a14, aq14, a16, aq16, a18, aq18, a20, aq20, a22, aq22, a24, aq24, a26, aq26, a28, aq28, a30, aq30, a32, aq32, a34, aq34, a36, aq36, a38, aq38, a40, aq40, a42, aq42, a44, aq44, a46, aq46, a48, aq48, a50, aq50, a52, aq52, a54, aq54, d0, dq0, d2, dq2, d4, dq4, d6, dq6, d8, dq8, d10, dq10, d12, dq12, d14, dq14, d16, dq16, d18, dq18, d20, dq20, d22, dq22, d24, dq24, d26, dq26, d28, dq28]
                · first | (simp; done) | (simp; omega)
                simp [go_sem, e0, eq0, e2, eq2, e4, eq4, e6, eq6, e8, eq8, e10, eq10, e12, eq12, e14, eq14, e16, eq16, e18, eq18, e20, eq20, e22, eq22, e24, eq24, e26, eq26, e28, eq28, e30, eq30, e32, eq32, e34, eq34, e36, eq36, e38, eq38, e40, eq40, e42, eq42, e44, eq44, e46, eq46, e48, eq48, e50, eq50, e52, eq52, e54, eq54, e56, eq56, e58, eq58, e60, eq60, e62, eq62, e64, eq64, e66, eq66, e68, eq68, e70, eq70, e72, eq72, e74, eq74, e76, eq76, e78, eq78, e80, eq80, e82, eq82, a0, aq0, a2, aq2, a4, aq4, a6, aq6, a8, aq8, a10, aq10, a12, aq12, a14, aq14, a16, aq16, a18, aq18, a20, aq20, a22, aq22, a24, aq24, a26, aq26, a28, aq28, a30, aq30, a32, aq32, a34, aq34, a36, aq36, a38, aq38, a40, aq40, a42, aq42, a44, aq44, a46, aq46, a48, aq48, a50, aq50, a52, aq52, a54, aq54, d0, dq0, d2, dq2, d4, dq4, d6, dq6, d8, dq8, d10, dq10, d12, dq12, d14, dq14, d16, dq16, d18, dq18, d20, dq20, d22, dq22, d24, dq24, d26, dq26, d28, dq28]
            · have hm : memI x = false := by simpa [memI] using h
              clear h
              refine tr_skip ?_
              refine hK11 _ ?_; try clear hK11 K11
              refine region_e T_ok (by decide) fun K hK => ?_
              simp [go_sem, hw6]
              refine hK _ ?_; clear hK K
              refine ⟨(b + 1, c6 + 1), ?_, ?_, ?_⟩
              · dsimp only; omega
              · dsimp only; omega
              · refine Weaker.fz 1 0 ?_ ?_ ?_
                · simp [go_sem, kP_no hx6 hm, e0, eq0, e2, eq2, e4, eq4, e6, eq6, e8, eq8, e10, eq10, e12, eq12, e14, eq14, e16, eq16, e18, eq18, e20, eq20, e22, eq22, e24, eq24, e26, eq26, e28, eq28, e30, eq30, e32, eq32, e34, eq34, e36, eq36, e38, eq38, e40, eq40, e42, eq42, e44, eq44, e46, eq46, e48, eq48, e50, eq50, e52, eq52, e54, eq54, e56, eq56, e58, eq58, e60, eq60, e62, eq62, e64, eq64, e66, eq66, e68, eq68, e70, eq70, e72, eq72, e74, eq74, e76, eq76, e78, eq78, e80, eq80, e82, eq82, a0, aq0, a2, aq2, a4, aq4, a6, aq6, a8, aq8, a10, aq10, a12, aq12, a14, aq14, a16, aq16, a18, aq18, a20, aq20, a22, aq22, a24, aq24, a26, aq26, a28, aq28, a30, aq30, a32, aq32, a34, aq34, a36, aq36, a38, aq38, a40, aq40, a42, aq42, a44, aq44, a46, aq46, a48, aq48, a50, aq50, a52, aq52, a54, aq54, d0, dq0, d2, dq2, d4, dq4, d6, dq6, d8, dq8, d10, dq10, d12, dq12, d14, dq14, d16, dq16, d18, dq18, d20, dq20, d22, dq22, d24, dq24, d26, dq26, d28, dq28]
                · first | (simp; done) | (simp; omega)
                simp [go_sem, e0, eq0, e2, eq2, e4, eq4, e6, eq6, e8, eq8, e10, eq10, e12, eq12, e14, eq14, e16, eq16, e18, eq18, e20, eq20, e22, eq22, e24, eq24, e26, eq26, e28, eq28, e30, eq30, e32, eq32, e34, eq34, e36, eq36, e38, eq38, e40, eq40, e42, eq42, e44, eq44, e46, eq46, e48, eq48, e50, eq50, e52, eq52, e54, eq54, e56, eq56, e58, eq58, e60, eq60, e62, eq62, e64, eq64, e66, eq66, e68, eq68, e70, eq70, e72, eq72, e74, eq74, e76, eq76, e78, eq78, e80, eq80, e82, eq82, a0, aq0, a2, aq2, a4, aq4, a6, aq6, a8, aq8, a10, aq10, a12, aq12, a14, aq14, a16, aq16, a18, aq18, a20, aq20, a22, aq22, a24, aq24, a26, aq26, a28, aq28, a30, aq30, a32, aq32, a34, aq34, a36, aq36, a38, aq38, a40, aq40, a42, aq42, a44, aq44, a46, aq46, a48, aq48, a50, aq50, a52, aq52, a54, aq54, d0, dq0, d2, dq2, d4, dq4, d6, dq6, d8, dq8, d10, dq10, d12, dq12, d14, dq14, d16, dq16, d18, dq18, d20, dq20, d22, dq22, d24, dq24, d26, dq26, d28, dq28]
          · simp at h
            obtain rfl : b = l.length := by omega
            refine tr_exit ?_
            refine hK3 _ ?_; try clear hK3 K3
            refine region_e T_ok (by decide) fun K hK => ?_
            simp [go_sem, hw]
            refine hK _ ?_; clear hK K
            refine ⟨(i + 1, stepO reads works l s, c6, k9 + 21, k9 + 10), ?_, ?_, ?_⟩
            · exact ⟨by omega, (runO_step hx).symm.trans hrun, stepO_ok hfl, by show s.k + memL l + leftOps t (i + 1) ≤ m; omega, by show (s.left ++ [_]).length = _; simp [hll], by show (s.regs ++ [_]).length = _; simp [hrl2], by dsimp only; omega, by dsimp only; omega, by dsimp only; omega, by dsimp only; omega, by dsimp only; omega⟩
            · dsimp only; omega
            · refine Weaker.fz 1 0 ?_ ?_ ?_
              · simp [go_sem, stepO, kP_all, e0, eq0, e2, eq2, e4, eq4, e6, eq6, e8, eq8, e10, eq10, e12, eq12, e14, eq14, e16, eq16, e18, eq18, e20, eq20, e22, eq22, e24, eq24, e26, eq26, e28, eq28, e30, eq30, e32, eq32, e34, eq34, e36, eq36, e38, eq38, e40, eq40, e42, eq42, e44, eq44, e46, eq46, e48, eq48, e50, eq50, e52, eq52, e54, eq54, e56, eq56, e58, eq58, e60, eq60, e62, eq62, e64, eq64, e66, eq66, e68, eq68, e70, eq70, e72, eq72, e74, eq74, e76, eq76, e78, eq78, e80, eq80, e82, eq82]
              · first | (simp; done) | (simp; omega)
              simp [go_sem, stepO, whP_8, e0, eq0, e2, eq2, e4, eq4, e6, eq6, e8, eq8, e10, eq10, e12, eq12, e14, eq14, e16, eq16, e18, eq18, e20, eq20, e22, eq22, e24, eq24, e26, eq26, e28, eq28, e30, eq30, e32, eq32, e34, eq34, e36, eq36, e38, eq38, e40, eq40, e42, eq42, e44, eq44, e46, eq46, e48, eq48, e50, eq50, e52, eq52, e54, eq54, e56, eq56, e58, eq58, e60, eq60, e62, eq62, e64, eq64, e66, eq66, e68, eq68, e70, eq70, e72, eq72, e74, eq74, e76, eq76, e78, eq78, e80, eq80, e82, eq82, a0, aq0, a2, aq2, a4, aq4, a6, aq6, a8, aq8, a10, aq10, a12, aq12, a14, aq14, a16, aq16, a18, aq18, a20, aq20, a22, aq22, a24, aq24, a26, aq26, a28, aq28, a30, aq30, a32, aq32, a34, aq34, a36, aq36, a38, aq38, a40, aq40, a42, aq42, a44, aq44, a46, aq46, a48, aq48, a50, aq50, a52, aq52, a54, aq54]
  · simp at h
    obtain rfl : i = t.ths.length := by omega
    rw [List.drop_length] at hrun
    replace hrun : s = flowOf t reads works := hrun
    obtain ⟨l1, l2, l3, l4, l5, l6⟩ := id hfl
    have e0 : ¬ rL = 0 := by omega
    have eq0 : ¬ 0 = rL := by omega
    have e2 : ¬ rL = 1 := by omega
    have eq2 : ¬ 1 = rL := by omega
    have e4 : ¬ rL = 2 := by omega
    have eq4 : ¬ 2 = rL := by omega
    have e6 : ¬ rL = 3 := by omega
    have eq6 : ¬ 3 = rL := by omega
    have e8 : ¬ rL = 4 := by omega
    have eq8 : ¬ 4 = rL := by omega
    have e10 : ¬ rL = 5 := by omega
    have eq10 : ¬ 5 = rL := by omega
    have e12 : ¬ rL = 6 := by omega
    have eq12 : ¬ 6 = rL := by omega
    have e14 : ¬ rL = 7 := by omega
    have eq14 : ¬ 7 = rL := by omega
    have e16 : ¬ rL = 8 := by omega
    have eq16 : ¬ 8 = rL := by omega
    have e18 : ¬ rL = 9 := by omega
    have eq18 : ¬ 9 = rL := by omega
    have e20 : ¬ rL = 10 := by omega
    have eq20 : ¬ 10 = rL := by omega
    have e22 : ¬ rL = 11 := by omega
    have eq22 : ¬ 11 = rL := by omega
    have e24 : ¬ rL = 12 := by omega
    have eq24 : ¬ 12 = rL := by omega
    have e26 : ¬ rR = 0 := by omega
    have eq26 : ¬ 0 = rR := by omega
    have e28 : ¬ rR = 1 := by omega
    have eq28 : ¬ 1 = rR := by omega
    have e30 : ¬ rR = 2 := by omega
    have eq30 : ¬ 2 = rR := by omega
    have e32 : ¬ rR = 3 := by omega
    have eq32 : ¬ 3 = rR := by omega
    have e34 : ¬ rR = 4 := by omega
    have eq34 : ¬ 4 = rR := by omega
    have e36 : ¬ rR = 5 := by omega
    have eq36 : ¬ 5 = rR := by omega
    have e38 : ¬ rR = 6 := by omega
    have eq38 : ¬ 6 = rR := by omega
    have e40 : ¬ rR = 7 := by omega
    have eq40 : ¬ 7 = rR := by omega
    have e42 : ¬ rR = 8 := by omega
    have eq42 : ¬ 8 = rR := by omega
    have e44 : ¬ rR = 9 := by omega
    have eq44 : ¬ 9 = rR := by omega
    have e46 : ¬ rR = 10 := by omega
    have eq46 : ¬ 10 = rR := by omega
    have e48 : ¬ rR = 11 := by omega
    have eq48 : ¬ 11 = rR := by omega
    have e50 : ¬ rR = 12 := by omega
    have eq50 : ¬ 12 = rR := by omega
    have e52 : ¬ j = 0 := by omega
    have eq52 : ¬ 0 = j := by omega
    have e54 : ¬ j = 1 := by omega
    have eq54 : ¬ 1 = j := by omega
    have e56 : ¬ j = 2 := by omega
    have eq56 : ¬ 2 = j := by omega
    have e58 : ¬ j = 3 := by omega
    have eq58 : ¬ 3 = j := by omega
    have e60 : ¬ j = 4 := by omega
    have eq60 : ¬ 4 = j := by omega
    have e62 : ¬ j = 5 := by omega
    have eq62 : ¬ 5 = j := by omega
    have e64 : ¬ j = 6 := by omega
    have eq64 : ¬ 6 = j := by omega
    have e66 : ¬ j = 7 := by omega
    have eq66 : ¬ 7 = j := by omega
    have e68 : ¬ j = 8 := by omega
    have eq68 : ¬ 8 = j := by omega
    have e70 : ¬ j = 9 := by omega
    have eq70 : ¬ 9 = j := by omega
    have e72 : ¬ j = 10 := by omega
    have eq72 : ¬ 10 = j := by omega
    have e74 : ¬ j = 11 := by omega
    have eq74 : ¬ 11 = j := by omega
    have e76 : ¬ j = 12 := by omega
    have eq76 : ¬ 12 = j := by omega
    have e78 : ¬ rL = rR := by omega
    have eq78 : ¬ rR = rL := by omega
    have e80 : ¬ rL = j := by omega
    have eq80 : ¬ j = rL := by omega
    have e82 : ¬ rR = j := by omega
    have eq82 : ¬ j = rR := by omega
    refine tr_exit ?_
    refine hK1 _ ?_; try clear hK1 K1
    refine region_k T_ok (by decide) fun K hK => ?_
    simp [go_sem]
    refine hK _ ?_; clear hK K
    refine tr_ret ⟨.inr rfl, ?_⟩
    have t1 : s.f.state.take m = s.f.state := List.take_of_length_le (by omega)
    have t2 : s.f.write.take m = s.f.write := List.take_of_length_le (by omega)
    have t3 : s.f.pair.take m = s.f.pair := List.take_of_length_le (by omega)
    have t4 : s.f.place.take m = s.f.place := List.take_of_length_le (by omega)
    have t5 : s.f.value.take m = s.f.value := List.take_of_length_le (by omega)
    have t6 : s.f.path.take m = s.f.path := List.take_of_length_le (by omega)
    simp [go_sem, ← hrun, Os'.cs, t1, t2, t3, t4, t5, t6, l1, l2, l3, l4, l5, l6, e0, eq0, e2, eq2, e4, eq4, e6, eq6, e8, eq8, e10, eq10, e12, eq12, e14, eq14, e16, eq16, e18, eq18, e20, eq20, e22, eq22, e24, eq24, e26, eq26, e28, eq28, e30, eq30, e32, eq32, e34, eq34, e36, eq36, e38, eq38, e40, eq40, e42, eq42, e44, eq44, e46, eq46, e48, eq48, e50, eq50, e52, eq52, e54, eq54, e56, eq56, e58, eq58, e60, eq60, e62, eq62, e64, eq64, e66, eq66, e68, eq68, e70, eq70, e72, eq72, e74, eq74, e76, eq76, e78, eq78, e80, eq80, e82, eq82]

end Go.Proofs.Ytokdphmnlcmbbaa
/- Flow: the walk of the law's awake, and of FlowStraight. -/
namespace Go.Proofs.Ytokdphmnlcmbbaa
open Go Go.Sl Go.Proofs.Try

def tA : Tst := { locs := [⟨⟨#[120]⟩, 0⟩, ⟨⟨#[121]⟩, 0⟩], ths := [[{ zI with op := 9 }, { zI with op := 16, aR := true, bN := 1, skip := 1 }, { zI with op := 10, loc := 1, aR := true }]], asks := [] }
theorem tA_len : ∀ x ∈ tA.ths, x.length ≤ 1000 := fun x hx => by simp [tA] at hx; subst hx; decide
theorem tA_ok : ∀ l ∈ tA.ths, ∀ x ∈ l, InsOk x := fun l hl x hx => by
  simp [tA] at hl; subst hl
  simp at hx
  rcases hx with rfl | rfl | rfl <;> exact ⟨by decide, by decide, by decide, by decide, by decide, by decide⟩
theorem see_asks (a b : List V) : SeenAs (.rp [.ro 2 a, .ro 1 b, .val (.slice none 0 0)] 0) (.rp [.ro 2 a, .ro 1 b, .ro 3 []] 0) :=
  seen_rp (.cons (SeenAs.refl _) (.cons (SeenAs.refl _) (.cons (seen_nil 3) .nil))) rfl
def fA : Os' := flowOf tA [⟨true, 2⟩, ⟨false, 0⟩] [false, false]
def fB : Os' := flowOf tA [⟨false, 0⟩, ⟨false, 0⟩] [false, false]
theorem flow_A : Pf Try.prog 10 [.rp tA.cs 0, .ro 2 (vls [⟨true, 2⟩, ⟨false, 0⟩]), .ro 1 (bVs [false, false])] (.rp fA.cs 0) := flow_pf tA (by decide) tA_len tA_ok _ _ (by decide) (by decide)
theorem flow_B : Pf Try.prog 10 [.rp tA.cs 0, .ro 2 (vls [⟨false, 0⟩, ⟨false, 0⟩]), .ro 1 (bVs [false, false])] (.rp fB.cs 0) := flow_pf tA (by decide) tA_len tA_ok _ _ (by decide) (by decide)
theorem fA_state : fA.f.state = [1, 1] := by decide +kernel
theorem fA_write : fA.f.write = [⟨false, 0⟩, ⟨true, 2⟩] := by decide +kernel
theorem fA_value : fA.f.value = [0, 1] := by decide +kernel
theorem fA_path : fA.f.path = [0, 1] := by decide +kernel
theorem fA_whole : fA.whole = true := by decide +kernel
theorem fB_state : fB.f.state = [1, 0] := by decide +kernel
theorem fB_whole : fB.whole = false := by decide +kernel
theorem exA : ∃ s : Os', Pf Try.prog 10 [.rp tA.cs 0, .ro 2 (vls [⟨true, 2⟩, ⟨false, 0⟩]), .ro 1 (bVs [false, false])] (.rp s.cs 0) ∧ s.f.state = [1, 1] ∧ s.f.write = [⟨false, 0⟩, ⟨true, 2⟩] ∧ s.f.value = [0, 1] ∧ s.f.path = [0, 1] ∧ s.whole = true := ⟨fA, flow_A, fA_state, fA_write, fA_value, fA_path, fA_whole⟩
theorem exB : ∃ s : Os', Pf Try.prog 10 [.rp tA.cs 0, .ro 2 (vls [⟨false, 0⟩, ⟨false, 0⟩]), .ro 1 (bVs [false, false])] (.rp s.cs 0) ∧ s.f.state = [1, 0] ∧ s.whole = false := ⟨fB, flow_B, fB_state, fB_whole⟩

set_option maxRecDepth 100000 in
set_option maxHeartbeats 8000000 in
theorem awake13  : Pf Try.prog 7 [] (bV true) := by
  obtain ⟨fA, flow_A, fA_state, fA_write, fA_value, fA_path, fA_whole⟩ := exA
  obtain ⟨fB, flow_B, fB_state, fB_whole⟩ := exB
  refine Pf.of_fn .nil (.val _) ?_
  refine fn_in T_ok func7 rfl rfl ntmps7 rfl (by simp) ?_
  refine region_k T_ok (by decide) fun K hK => ?_
  simp [go_sem]
  refine hK _ ?_; clear hK K
  refine region_k T_ok (by decide) fun K hK => ?_
  simp [go_sem]
  refine hK _ ?_; clear hK K
  refine Tr.weaken (Weaker.fz (H' := []) (t' := [(1, .rp [.ro 2 (inis tA.locs), .ro 1 (thrs tA.ths), .val (.slice none 0 0)] 0)]) 3 0 ?_ ?_ ?_) ?_
  · simp [go_sem, tA, inis, iniC, Ini.cs, thrs, inss, insC, Ins.cs, zI]
  · simp
  · simp
  refine Tr.weaken (Weaker.seen (t' := [(1, .rp tA.cs 0)]) (seen_all (.cons (see_asks _ _) .nil))) ?_
  refine region_k T_ok (by decide) fun K hK => ?_
  simp [go_sem]
  refine call_fz [] [.rp tA.cs 0, .ro 2 (vls [⟨true, 2⟩, ⟨false, 0⟩]), .ro 1 (bVs [false, false])] 1 0 flow_A (by simp [go_sem, vls, vlC, bVs]) (by simp) (by simp) ?_
  simp [go_sem]
  refine hK _ ?_; clear hK K
  refine draw_k T_ok (by kernel_rfl) 2 [[], [], [0, 1], [0, 1, 2]] [(0, 1)] (by decide) (by decide) (by decide) fun K hK => ?_
  first | dsimp only [List.take, List.drop] | dsimp [List.take, List.drop]
  simp [go_sem]
  refine call_fz [] [.rp tA.cs 0, .ro 2 (vls [⟨false, 0⟩, ⟨false, 0⟩]), .ro 1 (bVs [false, false])] 1 0 flow_B (by simp [go_sem, vls, vlC, bVs]) (by simp) (by simp) ?_
  simp [go_sem]
  refine hK _ ?_; clear hK K
  refine seq_k fun K1 hK1 => ?_
  refine region_k T_ok (by decide) fun K hK => ?_
  simp [go_sem, Os'.cs, fA_state, fA_write, fA_value, fA_path, fA_whole, fB_state, fB_whole, iVs, vls, vlC, uVs]
  refine hK _ ?_; clear hK K
  refine cond_k rfl (fun h => ?_) (fun h => ?_)
  · simp at h
  · clear h
    refine tr_skip ?_
    refine hK1 _ ?_; try clear hK1 K1
    refine reg_start ?_
    refine reg_cut T_ok 26 [(2, .rp fA.cs 0), (3, .rp fB.cs 0), (71, bV true)] [] (8) (by decide) ?_ ?_
    · dsimp only [List.take, List.drop]
      simp [go_sem, Os'.cs, fA_state, fA_write, fA_value, fA_path, fA_whole, fB_state, fB_whole, iVs, vls, vlC, uVs]
      refine Weaker.fz 1 0 ?_ ?_ ?_
      · simp [go_sem]
      · first | (simp; done) | (simp; omega)
      · simp [go_sem]
    refine reg_cut T_ok 15 [(2, .rp fA.cs 0), (3, .rp fB.cs 0), (86, bV true)] [] (8) (by decide) ?_ ?_
    · dsimp only [List.take, List.drop]
      simp [go_sem, Os'.cs, fA_state, fA_write, fA_value, fA_path, fA_whole, fB_state, fB_whole, iVs, vls, vlC, uVs]
      refine Weaker.fz 1 0 ?_ ?_ ?_
      · simp [go_sem]
      · first | (simp; done) | (simp; omega)
      · simp [go_sem]
    refine reg_end T_ok (by decide) fun K hK => ?_
    dsimp only [List.take, List.drop]
    simp [go_sem, Os'.cs, fA_state, fA_write, fA_value, fA_path, fA_whole, fB_state, fB_whole, iVs, vls, vlC, uVs]
    refine hK _ ?_; clear hK K
    refine tr_ret ⟨.inr rfl, ?_⟩
    simp [go_sem]

end Go.Proofs.Ytokdphmnlcmbbaa
/- Numbers, bit by bit. -/
namespace Go.Proofs.Ytokdphmnlcmbbaa
open Go Go.Sl

def bit (v i : Nat) : Nat := (v.testBit i).toNat
theorem bit_le (v i : Nat) : bit v i ≤ 1 := by unfold bit; cases v.testBit i <;> decide
theorem shr_zero (v : Nat) : shr v 0 = v := rfl
theorem shr_mod (v i : Nat) : shr v i % 2 = bit v i := by
  unfold shr bit
  rw [Nat.testBit_eq_decide_div_mod_eq, Nat.shiftRight_eq_div_pow]
  rcases Nat.mod_two_eq_zero_or_one (v / 2 ^ i) with h | h <;> simp [h]
theorem shr_div (v i : Nat) : shr v i / 2 = shr v (i + 1) := by
  unfold shr
  rw [Nat.shiftRight_eq_div_pow, Nat.shiftRight_eq_div_pow, Nat.div_div_eq_div_mul, Nat.pow_succ]
theorem shr_le (v i : Nat) : shr v i ≤ v := by unfold shr; rw [Nat.shiftRight_eq_div_pow]; exact Nat.div_le_self _ _
theorem tmod_nat (m n : Nat) : ((m : Nat) : Int).tmod ((n : Nat) : Int) = ((m % n : Nat) : Int) := rfl
theorem tdiv_nat (m n : Nat) : ((m : Nat) : Int).tdiv ((n : Nat) : Int) = ((m / n : Nat) : Int) := rfl
theorem tmod_2 (m : Nat) : ((m : Nat) : Int).tmod 2 = ((m % 2 : Nat) : Int) := tmod_nat m 2
theorem tdiv_2 (m : Nat) : ((m : Nat) : Int).tdiv 2 = ((m / 2 : Nat) : Int) := tdiv_nat m 2
theorem tmod_64 (m : Nat) : ((m : Nat) : Int).tmod 64 = ((m % 64 : Nat) : Int) := tmod_nat m 64

/-- a row of numbers, by place -/
def tabP (n : Nat) (f : Nat → Nat) : List Nat := (List.range n).map f
def tabN (f : Nat → Nat) : List Nat := tabP 64 f
theorem tabP_zero (f : Nat → Nat) : tabP 0 f = [] := rfl
theorem tabP_step (n : Nat) (f : Nat → Nat) : tabP (n + 1) f = tabP n f ++ [f n] := by simp [tabP, List.range_succ]
@[go_sem] theorem tabP_len (n : Nat) (f : Nat → Nat) : (tabP n f).length = n := by simp [tabP]
@[go_sem] theorem tabN_len (f : Nat → Nat) : (tabN f).length = 64 := tabP_len 64 f
theorem tabP_at {n : Nat} {f : Nat → Nat} {i : Nat} (h : i < n) : (tabP n f)[i]? = some (f i) := by simp [tabP, List.getElem?_map, List.getElem?_range h]
theorem tabN_at {f : Nat → Nat} {i : Nat} (h : i < 64) : (tabN f)[i]? = some (f i) := tabP_at h
@[go_sem] theorem tabN_get (f : Nat → Nat) (i : Nat) (h : i < (tabN f).length) : (tabN f)[i] = f i := by simp [tabN, tabP]
@[go_sem] theorem natV_get (l : List Nat) (i : Nat) (h : i < (natV l).length) : (natV l)[i] = iV (l[i]'(by simpa [natV] using h) : Nat) := by simp [natV]
theorem tabN_set (f : Nat → Nat) (k x : Nat) : (tabN f).set k x = tabN fun q => if q = k then x else f q := by
  apply List.ext_getElem?
  intro i
  by_cases h : i < 64
  · rw [tabN_at h, List.getElem?_set]
    by_cases e : k = i
    · subst e
      rw [if_pos rfl, if_pos (by rw [tabN_len]; exact h), if_pos rfl]
    · rw [if_neg e, tabN_at h, if_neg (Ne.symm e)]
  · rw [List.getElem?_eq_none (by rw [List.length_set, tabN_len]; omega), List.getElem?_eq_none (by rw [tabN_len]; omega)]
theorem tabN_ext {f g : Nat → Nat} (h : ∀ q, q < 64 → f q = g q) : tabN f = tabN g := List.map_congr_left fun q hq => h q (List.mem_range.1 hq)
@[go_sem] theorem natV_set (l : List Nat) (i n : Nat) : (natV l).set i (iV (n : Nat)) = natV (l.set i n) := (List.map_set ..).symm
theorem natV_app (l : List Nat) (n : Nat) : natV l ++ [iV (n : Nat)] = natV (l ++ [n]) := by simp [natV]
theorem nl_nat (l : List Nat) : NL (.ro 1 (natV l)) := .ro fun v hv => by obtain ⟨a, _, rfl⟩ := List.mem_map.1 hv; exact .cons (.val _) .nil
theorem natV_zeros (n : Nat) : List.replicate n (iV 0) = natV (tabP n fun _ => 0) := by
  induction n with
  | zero => rfl
  | succ n ih => rw [tabP_step, List.replicate_succ', ih]; simp [natV]
theorem natV_zeros64 : [iV 0] ++ List.replicate 63 (iV 0) = natV (tabN fun _ => 0) := natV_zeros 64

/-- the number of bits -/
def valN : List Nat → Nat
  | [] => 0
  | b :: l => b + 2 * valN l
theorem valN_lt : ∀ (l : List Nat), (∀ b ∈ l, b ≤ 1) → valN l < 2 ^ l.length
  | [], _ => by simp [valN]
  | b :: l, h => by
    have h1 := valN_lt l fun x hx => h x (by simp [hx])
    have h2 := h b (by simp)
    simp only [valN, List.length_cons, Nat.pow_succ]
    omega
theorem valN_testBit : ∀ (l : List Nat) (i : Nat), (∀ b ∈ l, b ≤ 1) → (valN l).testBit i = decide (l.getD i 0 = 1)
  | [], i, _ => by simp [valN]
  | b :: l, i, h => by
    have h2 := h b (by simp)
    cases i with
    | zero =>
      have : valN (b :: l) % 2 = b := by simp only [valN]; omega
      simp [Nat.testBit_zero, this]
    | succ i =>
      rw [Nat.testBit_succ]
      have : valN (b :: l) / 2 = valN l := by simp only [valN]; omega
      rw [this, valN_testBit l i fun x hx => h x (by simp [hx])]
      simp
theorem valN_tab {f : Nat → Nat} (hf : ∀ q, f q ≤ 1) : valN (tabN f) < 18446744073709551616 := by
  have := valN_lt (tabN f) fun b hb => by obtain ⟨q, _, rfl⟩ := List.mem_map.1 hb; exact hf q
  rw [tabN_len] at this; exact this
theorem valN_tabBit {f : Nat → Nat} (hf : ∀ q, f q ≤ 1) (i : Nat) : (valN (tabN f)).testBit i = (decide (i < 64) && decide (f i = 1)) := by
  rw [valN_testBit _ _ fun b hb => by obtain ⟨q, _, rfl⟩ := List.mem_map.1 hb; exact hf q]
  by_cases h : i < 64
  · simp [List.getD, tabN_at h, h]
  · simp [List.getD, h, List.getElem?_eq_none (show (tabN f).length ≤ i by rw [tabN_len]; omega)]
theorem valN_eq {f : Nat → Nat} (hf : ∀ q, f q ≤ 1) {m : Nat} (h : ∀ i, i < 64 → decide (f i = 1) = m.testBit i) (hm : m < 18446744073709551616) : valN (tabN f) = m := by
  apply Nat.eq_of_testBit_eq
  intro i
  rw [valN_tabBit hf]
  by_cases hi : i < 64
  · simp [hi, h i hi]
  · rw [Nat.testBit_lt_two_pow (show m < 2 ^ i from Nat.lt_of_lt_of_le (show m < 2 ^ 64 from hm) (Nat.pow_le_pow_right (by omega) (by omega)))]
    simp [hi]
theorem valN_drop {l : List Nat} {i x : Nat} (h : l[i]? = some x) : valN (l.drop i) = x + 2 * valN (l.drop (i + 1)) := by rw [drop_cons h, valN]
theorem bit_one (v i : Nat) : decide (bit v i = 1) = v.testBit i := by unfold bit; cases v.testBit i <;> simp

/-! ## numbers of 64 bits -/

theorem wrap_nat (n : Nat) (h : n < 18446744073709551616) : IntKind.u64.wrap ((n : Nat) : Int) = n := w64 n h
theorem x64_nat {a b : Nat} (ha : a < 18446744073709551616) (hb : b < 18446744073709551616) : x64 (a : Int) b = ((a ^^^ b : Nat) : Int) := by
  unfold x64
  rw [xor64 ha hb, wrap_nat _ (Nat.xor_lt_two_pow (n := 64) ha hb)]
theorem n64_nat {a b : Nat} (ha : a < 18446744073709551616) (hb : b < 18446744073709551616) : n64 (a : Int) b = ((a &&& b : Nat) : Int) := by
  unfold n64
  rw [and64 ha hb, wrap_nat _ (Nat.lt_of_le_of_lt Nat.and_le_left ha)]
theorem o64_nat {a b : Nat} (ha : a < 18446744073709551616) (hb : b < 18446744073709551616) : o64 (a : Int) b = ((a ||| b : Nat) : Int) := by
  unfold o64
  rw [or64 ha hb, wrap_nat _ (Nat.or_lt_two_pow (n := 64) ha hb)]
theorem sl64_nat {a n : Nat} (hn : n < 64) : sl64 (a : Int) n = (((a <<< n) % 18446744073709551616 : Nat) : Int) := by
  unfold sl64
  rw [show min ((n : Int)).toNat 64 = n by simp; omega, Nat.shiftLeft_eq]
  have e : (a : Int) * 2 ^ n = ((a * 2 ^ n : Nat) : Int) := by simp
  rw [e]
  simp only [IntKind.wrap, IntKind.bits, IntKind.signed, Bool.false_eq_true, if_false]
  show ((a * 2 ^ n : Nat) : Int) % ((2 ^ 64 : Nat) : Int) = _
  rw [← Int.natCast_emod]
theorem sr64_nat {a n : Nat} (hn : n < 64) : sr64 (a : Int) n = ((a >>> n : Nat) : Int) := by
  unfold sr64
  rw [show min ((n : Int)).toNat 64 = n by simp; omega, Nat.shiftRight_eq_div_pow, show ((2 : Int) ^ n) = ((2 ^ n : Nat) : Int) by simp, Int.fdiv_eq_ediv_of_nonneg _ (Int.natCast_nonneg _)]
  simp
theorem and63 (b : Nat) : b &&& 63 = b % 64 := Nat.and_two_pow_sub_one_eq_mod b 6
theorem n64_63 {b : Nat} (hb : b < 18446744073709551616) : n64 (b : Int) 63 = ((b % 64 : Nat) : Int) := by
  rw [← and63]; exact n64_nat (b := 63) hb (by omega)

/-! ## what the document's answer reckons -/

theorem valN_drop_lt {l : List Nat} (h : ∀ b ∈ l, b ≤ 1) (hl : l.length ≤ 64) (i : Nat) : valN (l.drop i) < 18446744073709551616 := by
  have h1 := valN_lt (l.drop i) fun b hb => h b (List.mem_of_mem_drop hb)
  have h2 : 2 ^ (l.drop i).length ≤ 2 ^ 64 := Nat.pow_le_pow_right (by omega) (by rw [List.length_drop]; omega)
  exact Nat.lt_of_lt_of_le h1 h2
def mvP (v : Nat) (n : Int) (i : Nat) (q : Nat) : Nat := if 0 ≤ (q : Int) - n ∧ (q : Int) - n < i then bit v ((q : Int) - n).toNat else 0
theorem mvP_le (v : Nat) (n : Int) (i q : Nat) : mvP v n i q ≤ 1 := by unfold mvP; split; exact bit_le _ _; omega
theorem mvP_zero (v : Nat) (n : Int) : mvP v n 0 = fun _ => 0 := by funext q; unfold mvP; rw [if_neg (by omega)]
theorem mvP_yes {v : Nat} {n : Int} {i m : Nat} (hm : (i : Int) + n = m) : (fun q => if q = m then bit v i else mvP v n i q) = mvP v n (i + 1) := by
  funext q
  unfold mvP
  by_cases h : q = m
  · subst h
    rw [if_pos rfl, if_pos (by omega), show ((q : Int) - n).toNat = i by omega]
  · rw [if_neg h]
    by_cases h2 : 0 ≤ (q : Int) - n ∧ (q : Int) - n < i
    · rw [if_pos h2, if_pos (by omega)]
    · rw [if_neg h2, if_neg (by omega)]
theorem mvP_no {v : Nat} {n : Int} {i : Nat} (h : ¬ (0 ≤ (i : Int) + n ∧ (i : Int) + n < 64)) : tabN (mvP v n (i + 1)) = tabN (mvP v n i) := tabN_ext fun q hq => by
  unfold mvP
  by_cases h2 : 0 ≤ (q : Int) - n ∧ (q : Int) - n < i
  · rw [if_pos h2, if_pos (by omega)]
  · rw [if_neg h2, if_neg (by omega)]
theorem valN_left {v m : Nat} (hm : m < 64) : valN (tabN (mvP v m 64)) = (v <<< m) % 18446744073709551616 := by
  refine valN_eq (fun q => mvP_le _ _ _ q) (fun i hi => ?_) (Nat.mod_lt _ (by omega))
  rw [show (18446744073709551616 : Nat) = 2 ^ 64 from rfl, Nat.testBit_mod_two_pow, Nat.testBit_shiftLeft]
  unfold mvP
  by_cases h : m ≤ i
  · rw [if_pos (by omega), bit_one, show ((i : Int) - (m : Nat)).toNat = i - m by omega]
    simp [hi, h]
  · rw [if_neg (by omega)]
    simp [h]
theorem valN_right {v m : Nat} (hv : v < 18446744073709551616) (hm : m < 64) : valN (tabN (mvP v (-(m : Nat)) 64)) = v >>> m := by
  refine valN_eq (fun q => mvP_le _ _ _ q) (fun i hi => ?_) (Nat.lt_of_le_of_lt (Nat.shiftRight_le _ _) hv)
  rw [Nat.testBit_shiftRight]
  unfold mvP
  by_cases h : i + m < 64
  · rw [if_pos (by omega), bit_one, show ((i : Int) - -(m : Nat)).toNat = m + i by omega]
  · rw [if_neg (by omega), Nat.testBit_lt_two_pow (show v < 2 ^ (m + i) from Nat.lt_of_lt_of_le (show v < 2 ^ 64 from hv) (Nat.pow_le_pow_right (by omega) (by omega)))]
    simp

def c4 (op : Int) (s : Nat) : Nat := if op = 4 then s % 2 else s
def c5 (op : Int) (s : Nat) : Nat := if op = 5 then s / 2 else s
def c6 (op : Int) (s : Nat) : Nat := if op = 6 then (if 1 < s then 1 else s) else s
theorem c4_le {op : Int} {s : Nat} (h : s ≤ 2) : c4 op s ≤ 2 := by unfold c4; split <;> omega
theorem c5_le {op : Int} {s : Nat} (h : s ≤ 2) : c5 op s ≤ 2 := by unfold c5; split <;> omega
def rkB (op : Int) (a b q : Nat) : Nat := c6 op (c5 op (c4 op (bit a q + bit b q)))
theorem bit2 (v q : Nat) : bit v q = 0 ∧ v.testBit q = false ∨ bit v q = 1 ∧ v.testBit q = true := by unfold bit; cases v.testBit q <;> simp
theorem rk4 {a b : Nat} (ha : a < 18446744073709551616) (hb : b < 18446744073709551616) : valN (tabN (rkB 4 a b)) = a ^^^ b := by
  refine valN_eq (fun q => ?_) (fun i hi => ?_) (Nat.xor_lt_two_pow (n := 64) ha hb)
  · rcases bit2 a q with h | h <;> rcases bit2 b q with h' | h' <;> simp [rkB, c4, c5, c6, h.1, h'.1]
  · rw [Nat.testBit_xor]
    rcases bit2 a i with h | h <;> rcases bit2 b i with h' | h' <;> simp [rkB, c4, c5, c6, h.1, h'.1, h.2, h'.2]
theorem rk5 {a b : Nat} (ha : a < 18446744073709551616) (hb : b < 18446744073709551616) : valN (tabN (rkB 5 a b)) = a &&& b := by
  refine valN_eq (fun q => ?_) (fun i hi => ?_) (Nat.lt_of_le_of_lt Nat.and_le_left ha)
  · rcases bit2 a q with h | h <;> rcases bit2 b q with h' | h' <;> simp [rkB, c4, c5, c6, h.1, h'.1]
  · rw [Nat.testBit_and]
    rcases bit2 a i with h | h <;> rcases bit2 b i with h' | h' <;> simp [rkB, c4, c5, c6, h.1, h'.1, h.2, h'.2]
theorem rk6 {a b : Nat} (ha : a < 18446744073709551616) (hb : b < 18446744073709551616) : valN (tabN (rkB 6 a b)) = a ||| b := by
  refine valN_eq (fun q => ?_) (fun i hi => ?_) (Nat.or_lt_two_pow (n := 64) ha hb)
  · rcases bit2 a q with h | h <;> rcases bit2 b q with h' | h' <;> simp [rkB, c4, c5, c6, h.1, h'.1]
  · rw [Nat.testBit_or]
    rcases bit2 a i with h | h <;> rcases bit2 b i with h' | h' <;> simp [rkB, c4, c5, c6, h.1, h'.1, h.2, h'.2]
theorem reck_7 {a b : Nat} (hb : b < 18446744073709551616) : reck 7 a b = ((valN (tabN (mvP a (b % 64 : Nat) 64)) : Nat) : Int) := by
  have hm : b % 64 < 64 := Nat.mod_lt _ (by omega)
  rw [valN_left hm, ← sl64_nat hm, ← n64_63 hb]
  simp [reck]
theorem reck_8 {a b : Nat} (ha : a < 18446744073709551616) (hb : b < 18446744073709551616) : reck 8 a b = ((valN (tabN (mvP a (-(b % 64 : Nat)) 64)) : Nat) : Int) := by
  have hm : b % 64 < 64 := Nat.mod_lt _ (by omega)
  rw [valN_right ha hm, ← sr64_nat hm, ← n64_63 hb]
  simp [reck]
theorem reck_456 {op : Int} {a b : Nat} (ha : a < 18446744073709551616) (hb : b < 18446744073709551616) (h : op = 4 ∨ op = 5 ∨ op = 6) : reck op a b = ((valN (tabN (rkB op a b)) : Nat) : Int) := by
  rcases h with rfl | rfl | rfl
  · rw [rk4 ha hb, ← x64_nat ha hb]; simp [reck]
  · rw [rk5 ha hb, ← n64_nat ha hb]; simp [reck]
  · rw [rk6 ha hb, ← o64_nat ha hb]; simp [reck]
end Go.Proofs.Ytokdphmnlcmbbaa
/- Numbers, bit by bit: the walks of the document's answer. -/
namespace Go.Proofs.Ytokdphmnlcmbbaa
open Go Go.Sl Go.Proofs.Try

theorem bits_pf (v : Nat) (hv : v < 18446744073709551616) : Pf Try.prog 21 [uV (v : Nat)] (.ro 1 (natV (tabN (bit v)))) := by
  refine Pf.of_fz 1 (.cons (.val _) .nil) (nl_nat _) ?_
  refine fn_in T_ok func21 rfl rfl ntmps21 rfl (by simp) ?_
  refine region_k T_ok (by decide) fun K hK => ?_
  simp [go_sem]
  refine hK _ ?_; clear hK K
  refine region_k T_ok (by decide) fun K hK => ?_
  simp [go_sem]
  refine hK _ ?_; clear hK K
  refine seq_k fun K1 hK1 => ?_
  refine region_k T_ok (by decide) fun K hK => ?_
  simp [go_sem]
  refine hK _ ?_; clear hK K
  refine tr_block ?_
  refine loop_p (α := Nat × Nat × Nat) (fun a => ⟨19, [(3, .sl a.2.1 0 a.1), (0, uV (shr v a.1 : Nat)), (4, iV (a.1 : Nat))], [(a.2.1, .rows 1 (natV (tabP a.1 (bit v))))], a.2.1 + a.2.2 + 1⟩) (fun a => a.1 ≤ 64) (fun a => 64 - a.1) (0, 0, 0) ?_ ?_ ?_
  · dsimp only; omega
  · refine Weaker.fz 1 0 ?_ ?_ ?_
    · simp [go_sem, shr_zero]
    · first | (simp; done) | (simp; omega)
    · simp [go_sem, tabP_zero, natV]
  rintro ⟨i, r, c⟩ hi
  dsimp only at hi ⊢
  refine seq_k fun K2 hK2 => ?_
  refine region_k T_ok (by decide) fun K hK => ?_
  simp [go_sem]
  refine hK _ ?_; clear hK K
  refine cond_k rfl (fun h => ?_) (fun h => ?_)
  · simp at h
    have hI : (i : Int) < 64 := h
    clear h
    have h' : i < 64 := by omega
    have hi0 : (0 : Int) ≤ (i : Nat) := by omega
    have hw : IntKind.i64.wrap ((i : Nat) + 1) = (i : Nat) + 1 := wrap_i64 (by omega) (by omega)
    have hs := shr_le v i
    have hs2 := shr_le v (i + 1)
    have hbl := bit_le v i
    have hwb : IntKind.i64.wrap ((bit v i : Nat) : Int) = (bit v i : Nat) := wrap_i64 (by omega) (by omega)
    have hws : IntKind.u64.wrap ((shr v (i + 1) : Nat) : Int) = (shr v (i + 1) : Nat) := wrap_u64 (by omega) (by omega)
    have hm : ((shr v i : Nat) : Int).tmod 2 = (bit v i : Nat) := by rw [tmod_2, shr_mod]
    have hd : ((shr v i : Nat) : Int).tdiv 2 = (shr v (i + 1) : Nat) := by rw [tdiv_2, shr_div]
    refine tr_skip ?_
    refine hK2 _ ?_; try clear hK2 K2
    refine seq_k fun K3 hK3 => ?_
    refine tr_block ?_
    refine region_k T_ok (by decide) fun K hK => ?_
    simp [go_sem, hm, hwb]
    refine ⟨by omega, ?_⟩
    refine hK _ ?_; clear hK K
    refine region_e T_ok (by decide) fun K hK => ?_
    simp [go_sem, hd, hws]
    refine hK _ ?_; clear hK K
    refine hK3 _ ?_; try clear hK3 K3
    refine region_e T_ok (by decide) fun K hK => ?_
    simp [go_sem, hw]
    refine hK _ ?_; clear hK K
    refine ⟨(i + 1, r + c + 2, 0), ?_, ?_, ?_⟩
    · dsimp only; omega
    · dsimp only; omega
    · refine Weaker.fz 1 0 ?_ ?_ ?_
      · simp [go_sem]
      · first | (simp; done) | (simp; omega)
      simp [go_sem, tabP_step, natV_app, List.take_of_length_le]
  · simp at h
    obtain rfl : i = 64 := by omega
    refine tr_exit ?_
    refine hK1 _ ?_; try clear hK1 K1
    refine region_k T_ok (by decide) fun K hK => ?_
    simp [go_sem]
    refine hK _ ?_; clear hK K
    refine tr_ret ⟨.inr rfl, ?_⟩
    simp [go_sem, List.take_of_length_le, tabN]

theorem value_pf (l : List Nat) (hl : l.length ≤ 64) (hb : ∀ b ∈ l, b ≤ 1) : Pf Try.prog 23 [.ro 1 (natV l)] (uV (valN l : Nat)) := by
  refine Pf.of_fn (.cons (nl_nat _) .nil) (.val _) ?_
  have hw0 : IntKind.i64.wrap ((l.length : Nat) - 1 : Int) = (l.length : Nat) - 1 := wrap_i64 (by omega) (by omega)
  refine fn_in T_ok func23 rfl rfl ntmps23 rfl (by simp) ?_
  refine region_k T_ok (by decide) fun K hK => ?_
  simp [go_sem]
  refine hK _ ?_; clear hK K
  refine region_k T_ok (by decide) fun K hK => ?_
  simp [go_sem]
  refine hK _ ?_; clear hK K
  refine seq_k fun K1 hK1 => ?_
  refine region_k T_ok (by decide) fun K hK => ?_
  simp [go_sem, hw0]
  refine hK _ ?_; clear hK K
  refine tr_block ?_
  refine loop_p (α := Nat) (fun a => ⟨21, [(0, .ro 1 (natV l)), (3, uV (valN (l.drop a) : Nat)), (4, iV ((a : Nat) - 1 : Int))], [], 0⟩) (fun a => a ≤ l.length) (fun a => a) l.length ?_ ?_ ?_
  · omega
  · refine Weaker.fz 1 0 ?_ ?_ ?_
    · simp [go_sem, valN]
    · first | (simp; done) | (simp; omega)
    · simp
  rintro a ha
  skip
  refine seq_k fun K2 hK2 => ?_
  refine region_k T_ok (by decide) fun K hK => ?_
  simp [go_sem]
  refine hK _ ?_; clear hK K
  refine cond_k rfl (fun h => ?_) (fun h => ?_)
  · simp at h
    obtain ⟨i, rfl⟩ : ∃ i, a = i + 1 := ⟨a - 1, by omega⟩
    obtain ⟨x, hx, hx'⟩ := getAt (show i < l.length by omega)
    have hV := valN_drop hx
    have hlt := valN_drop_lt hb hl i
    have hxb := hb x (List.mem_of_getElem? hx)
    have hi0 : (0 : Int) ≤ (i : Nat) := by omega
    have hiI : (i : Int) < (l.length : Nat) := by omega
    have hsub : (((i + 1 : Nat) : Int) - 1) = (i : Nat) := by omega
    have hw1 : IntKind.u64.wrap (2 * ((valN (l.drop (i + 1)) : Nat) : Int)) = ((2 * valN (l.drop (i + 1)) : Nat) : Int) := by rw [wrap_u64 (by omega) (by omega)]; omega
    have hw2 : IntKind.u64.wrap ((x : Nat) : Int) = (x : Nat) := wrap_u64 (by omega) (by omega)
    have hE : IntKind.u64.wrap (((2 * valN (l.drop (i + 1)) : Nat) : Int) + (x : Nat)) = ((x + 2 * valN (l.drop (i + 1)) : Nat) : Int) := by rw [wrap_u64 (by omega) (by omega)]; omega
    have hw3 : IntKind.i64.wrap ((i : Nat) - 1 : Int) = (i : Nat) - 1 := wrap_i64 (by omega) (by omega)
    rw [hsub]
    generalize hvv : valN (l.drop (i + 1)) = vv at *
    generalize h2v : 2 * vv = v2 at *
    refine tr_skip ?_
    refine hK2 _ ?_; try clear hK2 K2
    refine seq_k fun K3 hK3 => ?_
    refine tr_block ?_
    refine region_e T_ok (by decide) fun K hK => ?_
    simp [go_sem, hw1, hw2, hE, hx, hx', hi0, hiI]
    refine hK _ ?_; clear hK K
    refine hK3 _ ?_; try clear hK3 K3
    refine region_e T_ok (by decide) fun K hK => ?_
    simp [go_sem, hw3]
    refine hK _ ?_; clear hK K
    refine ⟨i, ?_, ?_, ?_⟩
    · omega
    · omega
    · refine Weaker.fz 1 0 ?_ ?_ ?_
      · simp [go_sem, hV, hE]
      · first | (simp; done) | (simp; omega)
      simp
  · simp at h
    obtain rfl : a = 0 := by omega
    rw [List.drop_zero]
    refine tr_exit ?_
    refine hK1 _ ?_; try clear hK1 K1
    refine region_k T_ok (by decide) fun K hK => ?_
    simp [go_sem]
    refine hK _ ?_; clear hK K
    refine tr_ret ⟨.inr rfl, ?_⟩
    simp [go_sem]

end Go.Proofs.Ytokdphmnlcmbbaa
/- Numbers, bit by bit: the walks of the document's answer, Move and Reckon; the walk of FlowReckons. -/
namespace Go.Proofs.Ytokdphmnlcmbbaa
open Go Go.Sl Go.Proofs.Try

theorem tab_le {f : Nat → Nat} (hf : ∀ q, f q ≤ 1) : ∀ b ∈ tabN f, b ≤ 1 := fun b hb => by obtain ⟨q, _, rfl⟩ := List.mem_map.1 hb; exact hf q
theorem c4_yes {op : Int} {s : Nat} (h : op = 4) : c4 op s = s % 2 := if_pos h
theorem c4_no {op : Int} {s : Nat} (h : ¬ op = 4) : c4 op s = s := if_neg h
theorem c5_yes {op : Int} {s : Nat} (h : op = 5) : c5 op s = s / 2 := if_pos h
theorem c5_no {op : Int} {s : Nat} (h : ¬ op = 5) : c5 op s = s := if_neg h
theorem c6_yes {op : Int} {s : Nat} (h : op = 6) (h1 : 1 < s) : c6 op s = 1 := by unfold c6; rw [if_pos h, if_pos h1]
theorem c6_yes0 {op : Int} {s : Nat} (h : op = 6) (h1 : ¬ 1 < s) : c6 op s = s := by unfold c6; rw [if_pos h, if_neg h1]
theorem c6_no {op : Int} {s : Nat} (h : ¬ op = 6) : c6 op s = s := if_neg h
theorem nl_lit : natV (tabN fun _ => 0) = List.replicate 64 (iV 0) := rfl
theorem tabN_eq (f : Nat → Nat) : tabP 64 f = tabN f := rfl
theorem rkB_le {op : Int} {a b : Nat} (h : op = 4 ∨ op = 5 ∨ op = 6) (q : Nat) : rkB op a b q ≤ 1 := by
  rcases h with rfl | rfl | rfl <;> rcases bit2 a q with h | h <;> rcases bit2 b q with h' | h' <;> simp [rkB, c4, c5, c6, h.1, h'.1]

set_option maxRecDepth 20000 in
theorem move_pf (v : Nat) (hv : v < 18446744073709551616) (n : Int) (hn : -64 < n) (hn2 : n < 64) : Pf Try.prog 22 [uV (v : Nat), iV n] (uV (valN (tabN (mvP v n 64)) : Nat)) := by
  refine Pf.of_fn (.cons (.val _) (.cons (.val _) .nil)) (.val _) ?_
  refine fn_in T_ok func22 rfl rfl ntmps22 rfl (by simp) ?_
  refine region_k T_ok (by decide) fun K hK => ?_
  simp [go_sem]
  refine hK _ ?_; clear hK K
  refine region_k T_ok (by decide) fun K hK => ?_
  simp [go_sem]
  refine call_pf (bits_pf v hv) ?_
  simp [go_sem]
  refine hK _ ?_; clear hK K
  refine region_k T_ok (by decide) fun K hK => ?_
  simp [go_sem]
  refine hK _ ?_; clear hK K
  refine seq_k fun K1 hK1 => ?_
  refine region_k T_ok (by decide) fun K hK => ?_
  simp [go_sem]
  refine hK _ ?_; clear hK K
  refine tr_block ?_
  refine loop_p (α := Nat) (fun a => ⟨38, [(1, iV n), (5, .ro 1 (natV (tabN (bit v)))), (6, .sl 0 0 64), (11, .ro 1 (natV (tabN (bit v)))), (12, iV 64), (13, iV (a : Nat))], [(0, .rows 1 (natV (tabN (mvP v n a))))], 1⟩) (fun a => a ≤ 64) (fun a => 64 - a) 0 ?_ ?_ ?_
  · omega
  · refine Weaker.fz 1 0 ?_ ?_ ?_
    · simp [go_sem]
    · first | (simp; done) | (simp; omega)
    · simp [go_sem, mvP_zero, nl_lit]
  rintro i hi
  skip
  refine region_k T_ok (by decide) fun K hK => ?_
  simp [go_sem]
  refine hK _ ?_; clear hK K
  refine seq_k fun K2 hK2 => ?_
  refine cond_k rfl (fun h => ?_) (fun h => ?_)
  · simp at h
    have hI : (i : Int) < 64 := h
    clear h
    have h' : i < 64 := by omega
    have hi0 : (0 : Int) ≤ (i : Nat) := by omega
    have hw : IntKind.i64.wrap ((i : Nat) + 1) = (i : Nat) + 1 := wrap_i64 (by omega) (by omega)
    have hwn : IntKind.i64.wrap ((i : Nat) + n) = (i : Nat) + n := wrap_i64 (by omega) (by omega)
    have hat := tabN_at (f := bit v) h'
    refine tr_skip ?_
    refine hK2 _ ?_; try clear hK2 K2
    refine seq_k fun K3 hK3 => ?_
    refine tr_block ?_
    refine region_k T_ok (by decide) fun K hK => ?_
    simp [go_sem]
    refine hK _ ?_; clear hK K
    refine region_to T_ok (by decide) ⟨38, [(1, iV n), (5, .ro 1 (natV (tabN (bit v)))), (6, .sl 0 0 64), (11, .ro 1 (natV (tabN (bit v)))), (12, iV 64), (13, iV (i : Nat)), (7, iV (i : Nat)), (25, bV (decide (0 ≤ (i : Int) + n ∧ (i : Int) + n < 64)))], [(0, .rows 1 (natV (tabN (mvP v n i))))], 1⟩ ?_ ?_
    · by_cases c1 : 0 ≤ (i : Int) + n
      · simp [go_sem, c1, hwn]
        refine Weaker.fz 1 0 ?_ ?_ ?_
        · simp [go_sem, c1, int_beq]
        · first | (simp; done) | (simp; omega)
        · simp [go_sem, c1, int_beq]
      · simp [go_sem, c1, hwn]
        refine Weaker.fz 1 0 ?_ ?_ ?_
        · simp [go_sem, c1, int_beq]
        · first | (simp; done) | (simp; omega)
        · simp [go_sem, c1, int_beq]
    · skip
      refine cond_k rfl (fun h => ?_) (fun h => ?_)
      · simp at h
        obtain ⟨m, hm⟩ := Int.eq_ofNat_of_zero_le h.1
        have hm64 : m < 64 := by omega
        have hmI : (m : Int) < 64 := by omega
        have hm0 : (0 : Int) ≤ (m : Nat) := by omega
        have hwm : IntKind.i64.wrap ((m : Nat) : Int) = (m : Nat) := wrap_i64 (by omega) (by omega)
        refine region_e T_ok (by decide) fun K hK => ?_
        simp [go_sem, hwn, hwm, hm, hm64, hmI, hm0, hI, hi0, h', hat]
        refine hK _ ?_; clear hK K
        refine hK3 _ ?_; try clear hK3 K3
        refine region_e T_ok (by decide) fun K hK => ?_
        simp [go_sem, hw]
        refine hK _ ?_; clear hK K
        refine ⟨i + 1, ?_, ?_, ?_⟩
        · omega
        · omega
        · refine Weaker.fz 1 0 ?_ ?_ ?_
          · simp [go_sem]
          · first | (simp; done) | (simp; omega)
          simp [go_sem, tabN_set, mvP_yes hm]
      · have hnm : ¬ (0 ≤ (i : Int) + n ∧ (i : Int) + n < 64) := by simpa using h
        refine tr_skip ?_
        refine hK3 _ ?_; try clear hK3 K3
        refine region_e T_ok (by decide) fun K hK => ?_
        simp [go_sem, hw]
        refine hK _ ?_; clear hK K
        refine ⟨i + 1, ?_, ?_, ?_⟩
        · omega
        · omega
        · refine Weaker.fz 1 0 ?_ ?_ ?_
          · simp [go_sem]
          · first | (simp; done) | (simp; omega)
          simp [go_sem, mvP_no hnm]
  · simp at h
    obtain rfl : i = 64 := by omega
    refine tr_exit ?_
    refine hK1 _ ?_; try clear hK1 K1
    refine region_k T_ok (by decide) fun K hK => ?_
    simp [go_sem]
    refine call_fz [] [.ro 1 (natV (tabN (mvP v n 64)))] 1 0 (value_pf _ (Nat.le_of_eq (tabN_len _)) (tab_le (mvP_le v n 64))) (by simp [go_sem, List.take_of_length_le]) (by simp) (by simp) ?_
    simp [go_sem]
    refine hK _ ?_; clear hK K
    refine tr_ret ⟨.inr rfl, ?_⟩
    simp [go_sem]

set_option maxRecDepth 20000 in
theorem refReckon_pf (op : Int) (a b : Nat) (ha : a < 18446744073709551616) (hb : b < 18446744073709551616) (h2 : 2 ≤ op) (h8 : op ≤ 8) : Pf Try.prog 9 [iV op, uV (a : Nat), uV (b : Nat)] (uV (reck op a b)) := by
  refine Pf.of_fn (.cons (.val _) (.cons (.val _) (.cons (.val _) .nil))) (.val _) ?_
  refine fn_in T_ok func9 rfl rfl ntmps9 rfl (by simp) ?_
  refine region_k T_ok (by decide) fun K hK => ?_
  simp [go_sem]
  refine hK _ ?_; clear hK K
  refine region_k T_ok (by decide) fun K hK => ?_
  simp [go_sem]
  refine call_pf (bits_pf a ha) ?_
  simp [go_sem]
  refine call_pf (bits_pf b hb) ?_
  simp [go_sem]
  refine hK _ ?_; clear hK K
  refine region_k T_ok (by decide) fun K hK => ?_
  simp [go_sem]
  refine hK _ ?_; clear hK K
  refine seq_k fun K1 hK1 => ?_
  refine region_k T_ok (by decide) fun K hK => ?_
  simp [go_sem]
  refine hK _ ?_; clear hK K
  refine tr_block ?_
  refine loop_p (α := Nat × Nat × Nat) (fun q => ⟨76, [(0, iV op), (1, uV (a : Nat)), (2, uV (b : Nat)), (7, .ro 1 (natV (tabN (bit a)))), (8, .ro 1 (natV (tabN (bit b)))), (17, .ro 1 (natV (tabN (bit a)))), (18, iV 64), (9, .sl q.2.1 0 q.1), (19, iV (q.1 : Nat))], [(q.2.1, .rows 1 (natV (tabP q.1 (rkB op a b))))], q.2.1 + q.2.2 + 1⟩) (fun q => q.1 ≤ 64) (fun q => 64 - q.1) (0, 0, 0) ?_ ?_ ?_
  · dsimp only; omega
  · refine Weaker.fz 1 0 ?_ ?_ ?_
    · simp [go_sem]
    · first | (simp; done) | (simp; omega)
    · simp [go_sem, tabP_zero, natV]
  rintro ⟨i, r, c⟩ hi
  dsimp only at hi ⊢
  refine region_k T_ok (by decide) fun K hK => ?_
  simp [go_sem]
  refine hK _ ?_; clear hK K
  refine seq_k fun K2 hK2 => ?_
  refine cond_k rfl (fun h => ?_) (fun h => ?_)
  · simp at h
    have hI : (i : Int) < 64 := h
    clear h
    have h' : i < 64 := by omega
    have hi0 : (0 : Int) ≤ (i : Nat) := by omega
    have hw : IntKind.i64.wrap ((i : Nat) + 1) = (i : Nat) + 1 := wrap_i64 (by omega) (by omega)
    have hba := bit_le a i
    have hbb := bit_le b i
    have hata := tabN_at (f := bit a) h'
    have hatb := tabN_at (f := bit b) h'
    obtain ⟨s, hs⟩ : ∃ s, bit a i + bit b i = s := ⟨_, rfl⟩
    have hs2 : s ≤ 2 := by omega
    have hrk : rkB op a b i = c6 op (c5 op (c4 op s)) := by rw [← hs]; rfl
    have hws : IntKind.i64.wrap (((bit a i : Nat) : Int) + (bit b i : Nat)) = (s : Nat) := by rw [wrap_i64 (by omega) (by omega)]; omega
    have h4 := c4_le (op := op) hs2
    have h5 := c5_le (op := op) h4
    have hm2 : ((s : Nat) : Int).tmod 2 = ((s % 2 : Nat) : Int) := tmod_2 s
    have hd2 : ((c4 op s : Nat) : Int).tdiv 2 = ((c4 op s / 2 : Nat) : Int) := tdiv_2 _
    have hwd : IntKind.i64.wrap ((c4 op s / 2 : Nat) : Int) = ((c4 op s / 2 : Nat) : Int) := wrap_i64 (by omega) (by omega)
    have hwd2 : IntKind.i64.wrap (((c4 op s : Nat) : Int) / 2) = ((c4 op s : Nat) : Int) / 2 := wrap_i64 (by omega) (by omega)
    refine tr_skip ?_
    refine hK2 _ ?_; try clear hK2 K2
    refine seq_k fun K3 hK3 => ?_
    refine tr_block ?_
    refine region_k T_ok (by decide) fun K hK => ?_
    simp [go_sem]
    refine hK _ ?_; clear hK K
    refine draw_k T_ok (by kernel_rfl) 8 [[], [], [0, 1], [0, 1, 2], [], [], [4, 5], [4, 5, 6], [0, 1, 2, 3, 4, 5, 6, 7], [0, 1, 2, 3, 4, 5, 6, 7, 8]] [] (by decide) (by decide) (by decide) fun K hK => ?_
    first | dsimp only [List.take, List.drop] | dsimp [List.take, List.drop]
    simp [go_sem, hI, hi0, h', hata, hatb, hws]
    refine hK _ ?_; clear hK K
    refine seq_to ⟨76, [(0, iV op), (1, uV (a : Nat)), (2, uV (b : Nat)), (7, .ro 1 (natV (tabN (bit a)))), (8, .ro 1 (natV (tabN (bit b)))), (17, .ro 1 (natV (tabN (bit a)))), (18, iV 64), (9, .sl r 0 i), (19, iV (i : Nat)), (11, iV (c4 op s : Nat))], [(r, .rows 1 (natV (tabP i (rkB op a b))))], r + c + 9⟩ ?_ ?_
    · skip
      refine region_k T_ok (by decide) fun K hK => ?_
      simp [go_sem]
      refine hK _ ?_; clear hK K
      refine cond_k rfl (fun h => ?_) (fun h => ?_)
      · have hop : op = 4 := by simpa using h
        clear h
        refine region_e T_ok (by decide) fun K hK => ?_
        simp [go_sem, hm2]
        refine hK _ ?_; clear hK K
        refine Weaker.fzk 1 0 (by omega) ?_ ?_ ?_
        · simp [go_sem, c4_yes hop]
        · first | (simp; done) | (simp; omega)
        · simp [go_sem, c4_yes hop]
      · have hop : ¬ op = 4 := by simpa using h
        clear h
        refine tr_skip ?_
        refine Weaker.fzk 1 0 (by omega) ?_ ?_ ?_
        · simp [go_sem, c4_no hop]
        · first | (simp; done) | (simp; omega)
        · simp [go_sem, c4_no hop]
    · skip
      refine seq_to ⟨76, [(0, iV op), (1, uV (a : Nat)), (2, uV (b : Nat)), (7, .ro 1 (natV (tabN (bit a)))), (8, .ro 1 (natV (tabN (bit b)))), (17, .ro 1 (natV (tabN (bit a)))), (18, iV 64), (9, .sl r 0 i), (19, iV (i : Nat)), (11, iV (c5 op (c4 op s) : Nat))], [(r, .rows 1 (natV (tabP i (rkB op a b))))], r + c + 9⟩ ?_ ?_
      · skip
        refine region_k T_ok (by decide) fun K hK => ?_
        simp [go_sem]
        refine hK _ ?_; clear hK K
        refine cond_k rfl (fun h => ?_) (fun h => ?_)
        · have hop : op = 5 := by simpa using h
          clear h
          refine region_e T_ok (by decide) fun K hK => ?_
          simp [go_sem, hd2, hwd, hwd2]
          refine hK _ ?_; clear hK K
          refine Weaker.fzk 1 0 (by omega) ?_ ?_ ?_
          · simp [go_sem, c5_yes hop]
          · first | (simp; done) | (simp; omega)
          · simp [go_sem, c5_yes hop]
        · have hop : ¬ op = 5 := by simpa using h
          clear h
          refine tr_skip ?_
          refine Weaker.fzk 1 0 (by omega) ?_ ?_ ?_
          · simp [go_sem, c5_no hop]
          · first | (simp; done) | (simp; omega)
          · simp [go_sem, c5_no hop]
      · skip
        refine seq_to ⟨76, [(0, iV op), (1, uV (a : Nat)), (2, uV (b : Nat)), (7, .ro 1 (natV (tabN (bit a)))), (8, .ro 1 (natV (tabN (bit b)))), (17, .ro 1 (natV (tabN (bit a)))), (18, iV 64), (9, .sl r 0 i), (19, iV (i : Nat)), (11, iV (c6 op (c5 op (c4 op s)) : Nat))], [(r, .rows 1 (natV (tabP i (rkB op a b))))], r + c + 9⟩ ?_ ?_
        · skip
          refine region_k T_ok (by decide) fun K hK => ?_
          simp [go_sem]
          refine hK _ ?_; clear hK K
          refine cond_k rfl (fun h => ?_) (fun h => ?_)
          · have hop : op = 6 := by simpa using h
            clear h
            refine region_e T_ok (by decide) fun K hK => ?_
            rcases Nat.lt_or_ge 1 (c5 op (c4 op s)) with h1 | h1
            · have h1I : (1 : Int) < (c5 op (c4 op s) : Nat) := by omega
              simp [go_sem, h1I]
              refine hK _ ?_; clear hK K
              refine Weaker.fzk 1 0 (by omega) ?_ ?_ ?_
              · simp [go_sem, c6_yes hop h1]
              · first | (simp; done) | (simp; omega)
              · simp [go_sem, c6_yes hop h1]
            · have h1I : ¬ (1 : Int) < (c5 op (c4 op s) : Nat) := by omega
              have h1 : ¬ 1 < c5 op (c4 op s) := by omega
              simp [go_sem, h1I]
              refine hK _ ?_; clear hK K
              refine Weaker.fzk 1 0 (by omega) ?_ ?_ ?_
              · simp [go_sem, c6_yes0 hop h1]
              · first | (simp; done) | (simp; omega)
              · simp [go_sem, c6_yes0 hop h1]
          · have hop : ¬ op = 6 := by simpa using h
            clear h
            refine tr_skip ?_
            refine Weaker.fzk 1 0 (by omega) ?_ ?_ ?_
            · simp [go_sem, c6_no hop]
            · first | (simp; done) | (simp; omega)
            · simp [go_sem, c6_no hop]
        · skip
          refine region_e T_ok (by decide) fun K hK => ?_
          simp [go_sem]
          refine ⟨by omega, ?_⟩
          refine hK _ ?_; clear hK K
          refine hK3 _ ?_; try clear hK3 K3
          refine region_e T_ok (by decide) fun K hK => ?_
          simp [go_sem, hw]
          refine hK _ ?_; clear hK K
          refine ⟨(i + 1, r + c + 10, 0), ?_, ?_, ?_⟩
          · dsimp only; omega
          · dsimp only; omega
          · refine Weaker.fz 1 0 ?_ ?_ ?_
            · simp [go_sem]
            · first | (simp; done) | (simp; omega)
            simp [go_sem, tabP_step, natV_app, List.take_of_length_le, hrk]
  · simp at h
    obtain rfl : i = 64 := by omega
    rw [tabN_eq]
    refine tr_exit ?_
    refine hK1 _ ?_; try clear hK1 K1
    refine seq_k fun K4 hK4 => ?_
    refine region_k T_ok (by decide) fun K hK => ?_
    simp [go_sem]
    refine hK _ ?_; clear hK K
    refine tr_block ?_
    refine region_k T_ok (by decide) fun K hK => ?_
    simp [go_sem]
    refine hK _ ?_; clear hK K
    refine cond_k rfl (fun h => ?_) (fun h => ?_)
    · have n2 : op = 2 := by simpa using h
      clear h
      refine region_k T_ok (by decide) fun K hK => ?_
      simp [go_sem]
      refine hK _ ?_; clear hK K
      refine tr_ret ⟨.inr rfl, ?_⟩
      simp [go_sem, reck, n2]
    · have n2 : ¬ op = 2 := by simpa using h
      clear h
      refine region_k T_ok (by decide) fun K hK => ?_
      simp [go_sem]
      refine hK _ ?_; clear hK K
      refine cond_k rfl (fun h => ?_) (fun h => ?_)
      · have n3 : op = 3 := by simpa using h
        clear h
        refine region_k T_ok (by decide) fun K hK => ?_
        simp [go_sem]
        refine hK _ ?_; clear hK K
        refine tr_ret ⟨.inr rfl, ?_⟩
        simp [go_sem, reck, n3]
      · have n3 : ¬ op = 3 := by simpa using h
        clear h
        refine region_k T_ok (by decide) fun K hK => ?_
        simp [go_sem]
        refine hK _ ?_; clear hK K
        refine cond_k rfl (fun h => ?_) (fun h => ?_)
        · have n7 : op = 7 := by simpa using h
          clear h
          refine region_k T_ok (by decide) fun K hK => ?_
          have hbl : b % 64 < 64 := Nat.mod_lt _ (by omega)
          have hmb : ((b : Nat) : Int).tmod 64 = ((b % 64 : Nat) : Int) := tmod_64 b
          have hwb : IntKind.i64.wrap ((b % 64 : Nat) : Int) = ((b % 64 : Nat) : Int) := wrap_i64 (by omega) (by omega)
          generalize hbm : b % 64 = bm at *
          simp [go_sem, hmb, hwb]
          refine call_pf (move_pf a ha (bm : Nat) (by omega) (by omega)) ?_
          simp [go_sem]
          refine hK _ ?_; clear hK K
          refine tr_ret ⟨.inr rfl, ?_⟩
          subst n7
          simp [go_sem, reck_7 hb, hbm]
        · have n7 : ¬ op = 7 := by simpa using h
          clear h
          refine region_k T_ok (by decide) fun K hK => ?_
          simp [go_sem]
          refine hK _ ?_; clear hK K
          refine cond_k rfl (fun h => ?_) (fun h => ?_)
          · have n8 : op = 8 := by simpa using h
            clear h
            refine region_k T_ok (by decide) fun K hK => ?_
            have hbl : b % 64 < 64 := Nat.mod_lt _ (by omega)
            have hmb : ((b : Nat) : Int).tmod 64 = ((b % 64 : Nat) : Int) := tmod_64 b
            have hwb : IntKind.i64.wrap ((b % 64 : Nat) : Int) = ((b % 64 : Nat) : Int) := wrap_i64 (by omega) (by omega)
            have hwn : IntKind.i64.wrap (-((b % 64 : Nat) : Int)) = -((b % 64 : Nat) : Int) := wrap_i64 (by omega) (by omega)
            generalize hbm : b % 64 = bm at *
            simp [go_sem, hmb, hwb, hwn]
            refine call_pf (move_pf a ha (-(bm : Nat)) (by omega) (by omega)) ?_
            simp [go_sem]
            refine hK _ ?_; clear hK K
            refine tr_ret ⟨.inr rfl, ?_⟩
            subst n8
            simp [go_sem, reck_8 ha hb, hbm]
          · have n8 : ¬ op = 8 := by simpa using h
            clear h
            refine tr_skip ?_
            refine hK4 _ ?_; try clear hK4 K4
            refine region_k T_ok (by decide) fun K hK => ?_
            simp [go_sem]
            refine call_fz [] [.ro 1 (natV (tabN (rkB op a b)))] 1 0 (value_pf _ (Nat.le_of_eq (tabN_len _)) (tab_le (rkB_le (by omega)))) (by simp [go_sem, List.take_of_length_le]) (by simp) (by simp) ?_
            simp [go_sem]
            refine hK _ ?_; clear hK K
            refine tr_ret ⟨.inr rfl, ?_⟩
            simp [go_sem, reck_456 ha hb (show op = 4 ∨ op = 5 ∨ op = 6 by omega)]

end Go.Proofs.Ytokdphmnlcmbbaa
/- The document's answer: what instructions have to do with memory; masks of numbers. -/
namespace Go.Proofs.Ytokdphmnlcmbbaa
open Go Go.Sl Go.Proofs.Try

theorem in_reads (op : Int) : decide (op ∈ [9, 11, 12, 13]) = rdB op := by
  rw [Bool.eq_iff_iff]; simp [rdB]; omega
theorem in_writes (op : Int) : decide (op ∈ [10, 11, 12, 14]) = wrB op := by
  rw [Bool.eq_iff_iff]; simp [wrB]; omega
theorem mem_range (op : Int) : (decide (9 ≤ op) && decide (op ≤ 14)) = memB op := by
  rw [Bool.eq_iff_iff]; simp [memB, rdB, wrB]; omega
theorem call_new {P : Program} {f : FuncId} {args : List V} {H : Heap} {k : Nat} {K R : V → Heap → Nat → Prop} (h : Sl.Fn P f args [] k R) (hk : ∀ v H' k', k ≤ k' → R v H' k' → K v (H' ++ H) k') : @callF P f args H k ⟨K⟩ :=
  Sl.Fn.frame (Hf := []) (G := H) h (List.Perm.refl _) hk

theorem in_pf (x : Int) (l : List Int) (hl : l.length ≤ 1000) : Pf Try.prog 55 [iV x, .ro 1 (iVs l)] (bV (decide (x ∈ l))) := by
  refine Pf.of_fn (.cons (.val _) (.cons (nl_iVs _) .nil)) (.val _) ?_
  refine fn_in T_ok func55 rfl rfl ntmps55 rfl (by simp) ?_
  refine region_k T_ok (by decide) fun K hK => ?_
  simp [go_sem]
  refine hK _ ?_; clear hK K
  refine seq_k fun K1 hK1 => ?_
  refine region_k T_ok (by decide) fun K hK => ?_
  simp [go_sem]
  refine hK _ ?_; clear hK K
  refine tr_block ?_
  refine loop_p (α := Nat) (fun a => ⟨17, [(0, iV x), (7, .ro 1 (iVs l)), (8, iV (l.length : Nat)), (9, iV (a : Nat))], [], 0⟩) (fun a => a ≤ l.length ∧ x ∉ l.take a) (fun a => l.length - a) 0 ?_ ?_ ?_
  · exact ⟨Nat.zero_le _, by simp⟩
  · refine Weaker.fz 1 0 ?_ ?_ ?_
    · simp [go_sem]
    · first | (simp; done) | (simp; omega)
    · simp [go_sem]
  rintro i ⟨hi, hn⟩
  skip
  refine region_k T_ok (by decide) fun K hK => ?_
  simp [go_sem]
  refine hK _ ?_; clear hK K
  refine seq_k fun K2 hK2 => ?_
  refine cond_k rfl (fun h => ?_) (fun h => ?_)
  · simp at h
    have hI := h
    clear h
    have h' : i < l.length := by omega
    obtain ⟨y, hy, hy'⟩ := getAt h'
    have hi0 : (0 : Int) ≤ (i : Nat) := by omega
    have hw : IntKind.i64.wrap ((i : Nat) + 1) = (i : Nat) + 1 := wrap_i64 (by omega) (by omega)
    refine tr_skip ?_
    refine hK2 _ ?_; try clear hK2 K2
    refine seq_k fun K3 hK3 => ?_
    refine tr_block ?_
    refine region_k T_ok (by decide) fun K hK => ?_
    simp [go_sem, hI, hi0, h', hy, hy']
    refine hK _ ?_; clear hK K
    refine region_k T_ok (by decide) fun K hK => ?_
    simp [go_sem]
    refine hK _ ?_; clear hK K
    refine cond_k rfl (fun h => ?_) (fun h => ?_)
    · have he : y = x := by simpa using h
      have hin : x ∈ l := he ▸ List.mem_of_getElem? hy
      refine region_k T_ok (by decide) fun K hK => ?_
      simp [go_sem]
      refine hK _ ?_; clear hK K
      refine tr_ret ⟨.inr rfl, ?_⟩
      simp [go_sem, hin]
    · have hne : ¬ y = x := by simpa using h
      refine tr_skip ?_
      refine hK3 _ ?_; try clear hK3 K3
      refine region_e T_ok (by decide) fun K hK => ?_
      simp [go_sem, hw]
      refine hK _ ?_; clear hK K
      refine ⟨i + 1, ?_, ?_, ?_⟩
      · exact ⟨by omega, by rw [takeAt hy]; simp [hn]; exact fun e => hne e.symm⟩
      · omega
      · refine Weaker.fz 1 0 ?_ ?_ ?_
        · simp [go_sem]
        · first | (simp; done) | (simp; omega)
        simp [go_sem]
  · simp at h
    obtain rfl : i = l.length := by omega
    rw [List.take_length] at hn
    refine tr_exit ?_
    refine hK1 _ ?_; try clear hK1 K1
    refine region_k T_ok (by decide) fun K hK => ?_
    simp [go_sem]
    refine hK _ ?_; clear hK K
    refine tr_ret ⟨.inr rfl, ?_⟩
    simp [go_sem, hn]

theorem refReads_pf (op : Int) : Pf Try.prog 54 [iV op] (bV (rdB op)) := by
  refine Pf.of_fn (.cons (.val _) .nil) (.val _) ?_
  refine fn_in T_ok func54 rfl rfl ntmps54 rfl (by simp) ?_
  refine region_k T_ok (by decide) fun K hK => ?_
  simp [go_sem]
  refine hK _ ?_; clear hK K
  refine region_k T_ok (by decide) fun K hK => ?_
  simp [go_sem]
  refine call_fz [] [iV op, .ro 1 (iVs [9, 11, 12, 13])] 1 0 (in_pf op [9, 11, 12, 13] (by decide)) (by simp [go_sem, iVs]) (by simp) (by simp) ?_
  rw [in_reads]
  simp [go_sem]
  refine hK _ ?_; clear hK K
  refine tr_ret ⟨.inr rfl, ?_⟩
  simp [go_sem]

theorem refWrites_pf (op : Int) : Pf Try.prog 53 [iV op] (bV (wrB op)) := by
  refine Pf.of_fn (.cons (.val _) .nil) (.val _) ?_
  refine fn_in T_ok func53 rfl rfl ntmps53 rfl (by simp) ?_
  refine region_k T_ok (by decide) fun K hK => ?_
  simp [go_sem]
  refine hK _ ?_; clear hK K
  refine region_k T_ok (by decide) fun K hK => ?_
  simp [go_sem]
  refine call_fz [] [iV op, .ro 1 (iVs [10, 11, 12, 14])] 1 0 (in_pf op [10, 11, 12, 14] (by decide)) (by simp [go_sem, iVs]) (by simp) (by simp) ?_
  rw [in_writes]
  simp [go_sem]
  refine hK _ ?_; clear hK K
  refine tr_ret ⟨.inr rfl, ?_⟩
  simp [go_sem]

theorem refMemory_pf (op : Int) : Pf Try.prog 33 [iV op] (bV (memB op)) := by
  refine Pf.of_fn (.cons (.val _) .nil) (.val _) ?_
  rw [← mem_range]
  refine fn_in T_ok func33 rfl rfl ntmps33 rfl (by simp) ?_
  refine region_k T_ok (by decide) fun K hK => ?_
  simp [go_sem]
  refine hK _ ?_; clear hK K
  refine region_to T_ok (by decide) ⟨9, [(2, bV (decide (9 ≤ op) && decide (op ≤ 14)))], [], 0⟩ ?_ ?_
  · by_cases c1 : 9 ≤ op
    · simp [go_sem, c1]
      refine Weaker.fz 1 0 ?_ ?_ ?_
      · simp [go_sem, c1]
      · first | (simp; done) | (simp; omega)
      · simp [go_sem, c1]
    · simp [go_sem, c1]
      refine Weaker.fz 1 0 ?_ ?_ ?_
      · simp [go_sem, c1]
      · first | (simp; done) | (simp; omega)
      · simp [go_sem, c1]
  · skip
    refine tr_ret ⟨.inr rfl, ?_⟩
    simp [go_sem]

theorem bits_fn (v k : Nat) (hv : v < 18446744073709551616) : Sl.Fn Try.prog 21 [uV (v : Nat)] [] k fun r H k2 => ∃ m, k ≤ m ∧ m < k2 ∧ r = .sl m 0 64 ∧ H = [(m, .rows 1 (natV (tabN (bit v))))] := by
  refine fn_in T_ok func21 rfl rfl ntmps21 rfl (by simp) ?_
  refine region_k T_ok (by decide) fun K hK => ?_
  simp [go_sem]
  refine hK _ ?_; clear hK K
  refine region_k T_ok (by decide) fun K hK => ?_
  simp [go_sem]
  refine hK _ ?_; clear hK K
  refine seq_k fun K1 hK1 => ?_
  refine region_k T_ok (by decide) fun K hK => ?_
  simp [go_sem]
  refine hK _ ?_; clear hK K
  refine tr_block ?_
  refine loop_p (α := Nat × Nat × Nat) (fun a => ⟨19, [(3, .sl a.2.1 0 a.1), (0, uV (shr v a.1 : Nat)), (4, iV (a.1 : Nat))], [(a.2.1, .rows 1 (natV (tabP a.1 (bit v))))], a.2.1 + a.2.2 + 1⟩) (fun a => a.1 ≤ 64 ∧ k ≤ a.2.1) (fun a => 64 - a.1) (0, k, 0) ?_ ?_ ?_
  · dsimp only; omega
  · refine Weaker.fz 1 0 ?_ ?_ ?_
    · simp [go_sem, shr_zero]
    · first | (simp; done) | (simp; omega)
    · simp [go_sem, tabP_zero, natV]
  rintro ⟨i, r, c⟩ ⟨hi, hkr⟩
  dsimp only at hi hkr ⊢
  refine seq_k fun K2 hK2 => ?_
  refine region_k T_ok (by decide) fun K hK => ?_
  simp [go_sem]
  refine hK _ ?_; clear hK K
  refine cond_k rfl (fun h => ?_) (fun h => ?_)
  · simp at h
    have hI : (i : Int) < 64 := h
    clear h
    have h' : i < 64 := by omega
    have hi0 : (0 : Int) ≤ (i : Nat) := by omega
    have hw : IntKind.i64.wrap ((i : Nat) + 1) = (i : Nat) + 1 := wrap_i64 (by omega) (by omega)
    have hs := shr_le v i
    have hs2 := shr_le v (i + 1)
    have hbl := bit_le v i
    have hwb : IntKind.i64.wrap ((bit v i : Nat) : Int) = (bit v i : Nat) := wrap_i64 (by omega) (by omega)
    have hws : IntKind.u64.wrap ((shr v (i + 1) : Nat) : Int) = (shr v (i + 1) : Nat) := wrap_u64 (by omega) (by omega)
    have hm : ((shr v i : Nat) : Int).tmod 2 = (bit v i : Nat) := by rw [tmod_2, shr_mod]
    have hd : ((shr v i : Nat) : Int).tdiv 2 = (shr v (i + 1) : Nat) := by rw [tdiv_2, shr_div]
    refine tr_skip ?_
    refine hK2 _ ?_; try clear hK2 K2
    refine seq_k fun K3 hK3 => ?_
    refine tr_block ?_
    refine region_k T_ok (by decide) fun K hK => ?_
    simp [go_sem, hm, hwb]
    refine ⟨by omega, ?_⟩
    refine hK _ ?_; clear hK K
    refine region_e T_ok (by decide) fun K hK => ?_
    simp [go_sem, hd, hws]
    refine hK _ ?_; clear hK K
    refine hK3 _ ?_; try clear hK3 K3
    refine region_e T_ok (by decide) fun K hK => ?_
    simp [go_sem, hw]
    refine hK _ ?_; clear hK K
    refine ⟨(i + 1, r + c + 2, 0), ?_, ?_, ?_⟩
    · dsimp only; omega
    · dsimp only; omega
    · refine Weaker.fz 1 0 ?_ ?_ ?_
      · simp [go_sem]
      · first | (simp; done) | (simp; omega)
      simp [go_sem, tabP_step, natV_app, List.take_of_length_le]
  · simp at h
    obtain rfl : i = 64 := by omega
    refine tr_exit ?_
    refine hK1 _ ?_; try clear hK1 K1
    refine region_k T_ok (by decide) fun K hK => ?_
    simp [go_sem]
    refine hK _ ?_; clear hK K
    refine tr_ret ⟨.inr rfl, ?_⟩
    simp only [go_sem]
    exact ⟨r, hkr, by omega, by simp [go_sem], rfl⟩

end Go.Proofs.Ytokdphmnlcmbbaa
/- Litmus tests: a good test's parts are good, plainly. -/
namespace Go.Proofs.Ytokdphmnlcmbbaa
open Go Go.Sl

theorem sizeErr_of {t : Tst} (h0 : t.ths ≠ []) (h1 : t.ths.length ≤ 4) (h2 : t.locs.length ≤ 8) (h3 : t.asks.length ≤ 40) (h4 : ∀ x ∈ t.ths, x.length ≤ 8) (h5 : events t.ths ≤ 8) : sizeErr t = 0 := by
  unfold sizeErr
  rw [if_neg h0, if_neg (by unfold manyB; simp; omega), if_neg (fun h => h h4), if_neg (by omega)]

theorem chkErr_zero {t : Tst} : chkErr t = 0 ↔ sizeErr t = 0 ∧ fe (locErr t) 0 t.locs = 0 ∧ fe (thrErr t) 0 t.ths = 0 ∧ fe (askErr2 t) 0 t.asks = 0 := by
  unfold chkErr
  constructor
  · intro h
    split at h
    · rename_i h1; exact absurd h h1
    · rename_i h1
      split at h
      · rename_i h2; exact absurd h h2
      · rename_i h2
        split at h
        · rename_i h3; exact absurd h h3
        · rename_i h3
          exact ⟨by simpa using h1, by simpa using h2, by simpa using h3, h⟩
  · rintro ⟨h1, h2, h3, h4⟩
    rw [if_neg (by simp [h1]), if_neg (by simp [h2]), if_neg (by simp [h3])]; exact h4

theorem insErr_zero {n : Nat} {left : Int} {x : Ins} : insErr n left x = 0 ↔ err1 x = false ∧ err2 x = false ∧ err3 n x = false ∧ err4 x = false ∧ err5 x = false ∧ err6 x = false ∧ err7 x left = false := by
  unfold insErr
  cases err1 x <;> cases err2 x <;> cases err3 n x <;> cases err4 x <;> cases err5 x <;> cases err6 x <;> cases err7 x left <;> simp

theorem locErr_congr {t t' : Tst} (h : t'.locs = t.locs) : locErr t' = locErr t := by
  funext i l; unfold locErr prevLe; rw [h]
theorem thrErr_congr {t t' : Tst} (h : t'.locs = t.locs) : thrErr t' = thrErr t := by
  funext i l; unfold thrErr; rw [h]

/-- a test without asks -/
def plainT (t : Tst) : Tst := { t with asks := [] }
theorem plain_good {t : Tst} (h : chkErr t = 0) : chkErr (plainT t) = 0 := by
  obtain ⟨h1, h2, h3, h4⟩ := chkErr_zero.1 h
  obtain ⟨a0, a1, a2, a3, a4, a5⟩ := sizeErr_zero h1
  refine chkErr_zero.2 ⟨sizeErr_of a0 a1 a2 (by simp [plainT]) a4 a5, ?_, ?_, rfl⟩
  · rw [locErr_congr (t := t) (t' := plainT t) rfl]; exact h2
  · rw [thrErr_congr (t := t) (t' := plainT t) rfl]; exact h3

/-- without its last thread -/
def lessT (t : Tst) : Tst := { plainT t with ths := t.ths.take (t.ths.length - 1) }
theorem less_good {t : Tst} (h : chkErr t = 0) (hl : 1 < t.ths.length) : chkErr (lessT t) = 0 := by
  obtain ⟨h1, h2, h3, h4⟩ := chkErr_zero.1 h
  obtain ⟨a0, a1, a2, a3, a4, a5⟩ := sizeErr_zero h1
  refine chkErr_zero.2 ⟨sizeErr_of ?_ ?_ a2 (by simp [lessT, plainT]) ?_ ?_, ?_, ?_, rfl⟩
  · intro e
    have := congrArg List.length e
    simp [lessT] at this; omega
  · simp [lessT]; omega
  · intro x hx; exact a4 x (List.mem_of_mem_take hx)
  · exact Nat.le_trans (sum_take evL t.ths _) a5
  · rw [locErr_congr (t := t) (t' := lessT t) rfl]; exact h2
  · rw [thrErr_congr (t := t) (t' := lessT t) rfl]
    rw [fe_zero] at h3 ⊢
    intro j x hj
    refine h3 j x ?_
    have hj' : (t.ths.take (t.ths.length - 1))[j]? = some x := hj
    rw [List.getElem?_take] at hj'
    split at hj'
    · exact hj'
    · cases hj'

/-- without the last instruction of a thread -/
def shortT (t : Tst) (n : Nat) (l : List Ins) : Tst := { plainT t with ths := t.ths.set n (l.take (l.length - 1)) }

theorem events_set {n : Nat} {l l' : List Ins} : ∀ {ths : List (List Ins)}, ths[n]? = some l → evL l' ≤ evL l → events (ths.set n l') ≤ events ths
  | [], h, _ => by simp at h
  | x :: ths, h, hle => by
    cases n with
    | zero =>
      simp at h; subst h
      simp only [List.set_cons_zero, events, List.map_cons, List.sum_cons]; omega
    | succ n =>
      have := events_set (ths := ths) (n := n) (by simpa using h) hle
      simp only [List.set_cons_succ, events, List.map_cons, List.sum_cons] at this ⊢; omega

theorem short_events {t : Tst} {n : Nat} {l : List Ins} (hn : t.ths[n]? = some l) : events (shortT t n l).ths ≤ events t.ths := events_set hn (sum_take evt l _)

theorem short_good {t : Tst} (h : chkErr t = 0) {n : Nat} {l : List Ins} (hn : t.ths[n]? = some l) (hb : ∀ (i : Nat) (x : Ins), l[i]? = some x → ¬ (x.skip = (l.length : Int) - 1 - i ∧ 0 < x.skip)) : chkErr (shortT t n l) = 0 := by
  obtain ⟨h1, h2, h3, h4⟩ := chkErr_zero.1 h
  obtain ⟨a0, a1, a2, a3, a4, a5⟩ := sizeErr_zero h1
  have hlt : n < t.ths.length := (List.getElem?_eq_some_iff.1 hn).1
  rw [fe_zero] at h3
  refine chkErr_zero.2 ⟨sizeErr_of ?_ ?_ a2 (by simp [shortT, plainT]) ?_ ?_, ?_, ?_, rfl⟩
  · intro e
    have := congrArg List.length e
    simp [shortT] at this
    exact a0 this
  · simp [shortT]; exact a1
  · intro x hx
    rcases List.mem_or_eq_of_mem_set hx with hx | rfl
    · exact a4 x hx
    · have := a4 l (List.mem_of_getElem? hn); rw [List.length_take]; omega
  · exact Nat.le_trans (short_events hn) a5
  · rw [locErr_congr (t := t) (t' := shortT t n l) rfl]; exact h2
  · rw [thrErr_congr (t := t) (t' := shortT t n l) rfl, fe_zero]
    intro j x hj
    have hj' : (t.ths.set n (l.take (l.length - 1)))[j]? = some x := hj
    rw [List.getElem?_set] at hj'
    split at hj'
    · rename_i e
      subst e
      obtain rfl := Option.some.inj hj'
      have hg : thrErr t (0 + n) l = 0 := h3 n l hn
      unfold thrErr at hg ⊢
      rw [fe_zero] at hg ⊢
      intro i y hi
      rw [List.getElem?_take] at hi
      split at hi
      · rename_i hil
        have hy := hg i y hi
        rw [insErr_zero] at hy ⊢
        obtain ⟨e1, e2, e3, e4, e5, e6, e7⟩ := hy
        refine ⟨e1, e2, e3, e4, e5, e6, ?_⟩
        have hbi := hb i y hi
        unfold err7 at e7 ⊢
        rw [List.length_take]
        simp only [Bool.or_eq_false_iff, decide_eq_false_iff_not] at e7 ⊢
        refine ⟨e7.1, ?_⟩
        have e8 := e7.2
        rw [Nat.zero_add] at e8 ⊢
        omega
      · cases hi
    · exact h3 j x hj'

end Go.Proofs.Ytokdphmnlcmbbaa
/- Masks of numbers. -/
namespace Go.Proofs.Ytokdphmnlcmbbaa
open Go Go.Sl

@[go_sem] theorem natV_set1 (l : List Nat) (i : Nat) : (natV l).set i (iV 1) = natV (l.set i 1) := natV_set l i 1
theorem val_with {v n : Nat} (hv : v < 18446744073709551616) (hn : n < 64) : valN (tabN fun q => if q = n then 1 else bit v q) = v ||| pw n := by
  refine valN_eq (fun q => ?_) (fun i hi => ?_) (Nat.or_lt_two_pow (n := 64) hv (pw_lt hn))
  · split; omega; exact bit_le _ _
  · rw [Nat.testBit_or, testBit_pw]
    by_cases h : i = n
    · subst h; simp
    · rw [if_neg h, bit_one]; simp [Ne.symm h]
def maskN (l : List Nat) : Nat := l.foldl (fun v k => v ||| pw k) 0
theorem maskN_snoc (l : List Nat) (k : Nat) : maskN (l ++ [k]) = maskN l ||| pw k := by simp [maskN]
theorem maskN_lt {l : List Nat} (h : ∀ k ∈ l, k < 64) : maskN l < 18446744073709551616 := by
  have : ∀ (l : List Nat) (v : Nat), v < 18446744073709551616 → (∀ k ∈ l, k < 64) → l.foldl (fun v k => v ||| pw k) v < 18446744073709551616 := by
    intro l
    induction l with
    | nil => intro v hv _; exact hv
    | cons x l ih =>
      intro v hv hl
      exact ih _ (Nat.or_lt_two_pow (n := 64) hv (pw_lt (hl x (by simp)))) fun k hk => hl k (by simp [hk])
  exact this l 0 (by omega) h
theorem maskN_append (l l' : List Nat) : maskN (l ++ l') = maskN l ||| maskN l' := by
  have : ∀ (l' : List Nat) (v : Nat), l'.foldl (fun v k => v ||| pw k) v = v ||| maskN l' := by
    intro l'
    induction l' with
    | nil => intro v; simp [maskN]
    | cons x l' ih =>
      intro v
      show l'.foldl _ (v ||| pw x) = _
      rw [ih]
      have e : maskN (x :: l') = pw x ||| maskN l' := by
        show l'.foldl _ (0 ||| pw x) = _
        rw [ih, Nat.zero_or]
      rw [e, Nat.or_assoc]
  unfold maskN
  rw [List.foldl_append]
  exact this l' _
theorem maskN_step {l : List Nat} {i k : Nat} (h : l[i]? = some k) : maskN (l.take (i + 1)) = maskN (l.take i) ||| pw k := by rw [takeAt h, maskN_snoc]
/-- what hangs, as the code has it -/
theorem sl64_one {k : Nat} (h : k < 64) : sl64 1 (k : Nat) = ((maskN [k] : Nat) : Int) := by
  have := sl64_nat (a := 1) h
  rw [show ((1 : Nat) : Int) = 1 from rfl] at this
  rw [this, Nat.one_shiftLeft, Nat.mod_eq_of_lt (show 2 ^ k < 18446744073709551616 from pw_lt h)]
  simp [maskN, pw]
theorem o64_mask {l l' : List Nat} (h : ∀ k ∈ l, k < 64) (h' : ∀ k ∈ l', k < 64) : o64 ((maskN l : Nat) : Int) (maskN l' : Nat) = ((maskN (l ++ l') : Nat) : Int) := by
  rw [o64_nat (maskN_lt h) (maskN_lt h'), maskN_append]
end Go.Proofs.Ytokdphmnlcmbbaa
/- Tests copied piece by piece. -/
namespace Go.Proofs.Ytokdphmnlcmbbaa
open Go Go.Sl

theorem inis_snoc {l : List Ini} {i : Nat} {x : Ini} (h : l[i]? = some x) : inis (l.take i) ++ [V.agg [.val (.string x.name), uV x.v]] = inis (l.take (i + 1)) := by rw [takeAt h]; simp [inis, iniC, Ini.cs]
theorem atms_snoc {l : List Atm} {i : Nat} {x : Atm} (h : l[i]? = some x) : atms (l.take i) ++ [V.agg [iV x.th, iV x.at_, uV x.v]] = atms (l.take (i + 1)) := by rw [takeAt h]; simp [atms, atmC, Atm.cs]
theorem inss_snoc {l : List Ins} {i : Nat} {x : Ins} (h : l[i]? = some x) : inss (l.take i) ++ [V.agg x.cs] = inss (l.take (i + 1)) := by rw [takeAt h]; simp [inss, insC]
theorem thrs_snoc {l : List (List Ins)} {i : Nat} {x : List Ins} (h : l[i]? = some x) : thrs (l.take i) ++ [V.ro 13 (inss x)] = thrs (l.take (i + 1)) := by rw [takeAt h]; simp [thrs]
theorem len_take {α : Type} {l : List α} {i : Nat} (h : i ≤ l.length) : min i l.length = i := Nat.min_eq_left h
end Go.Proofs.Ytokdphmnlcmbbaa
/- The document's answer: a test, told in its words. -/
namespace Go.Proofs.Ytokdphmnlcmbbaa
open Go Go.Sl Go.Proofs.Try

theorem insOne (x : Ins) : ∀ c ∈ x.cs, c.one = true := (fits_iff.1 (fits_ins x)).2

set_option maxRecDepth 20000 in
theorem instr_pf (x : Ins) : Pf Try.prog 32 [insC x] (insC x) := by
  refine Pf.of_fn (.cons (nl_insC x) .nil) (nl_insC x) ?_
  refine fn_in T_ok func32 rfl rfl ntmps32 rfl (by simp) ?_
  refine region_k T_ok (by decide) fun K hK => ?_
  simp [go_sem, insC, Ins.cs]
  refine hK _ ?_; clear hK K
  refine region_k T_ok (by decide) fun K hK => ?_
  simp [go_sem, insC, Ins.cs]
  refine hK _ ?_; clear hK K
  refine tr_ret ⟨.inr rfl, ?_⟩
  simp [go_sem, insC, Ins.cs]

set_option maxRecDepth 20000 in
set_option maxHeartbeats 16000000 in
theorem told_pf (t : Tst) (h1 : t.locs.length ≤ 1000) (h2 : t.ths.length ≤ 1000) (h3 : ∀ l ∈ t.ths, l.length ≤ 1000) (h4 : t.asks.length ≤ 1000) : Pf Try.prog 13 [.agg t.cs] (.agg t.cs) := by
  refine Pf.of_fz 2 (.cons (.agg (nl_tst t)) .nil) (.agg (nl_tst t)) ?_
  refine fn_in T_ok func13 rfl rfl ntmps13 rfl (by simp) ?_
  refine region_k T_ok (by decide) fun K hK => ?_
  simp [go_sem, Tst.cs]
  refine hK _ ?_; clear hK K
  refine region_k T_ok (by decide) fun K hK => ?_
  simp [go_sem]
  refine hK _ ?_; clear hK K
  refine seq_k fun K1 hK1 => ?_
  refine region_k T_ok (by decide) fun K hK => ?_
  simp [go_sem, Tst.cs]
  refine hK _ ?_; clear hK K
  refine tr_block ?_
  refine Tr.weaken (Weaker.ghostH (sz := 3) (es := [.agg [.val (.slice none 0 0), .val (.slice none 0 0), .val (.slice none 0 0)]]) 2 3 [.agg [.val (.slice none 0 0), .val (.slice none 0 0), .sl 3 0 0]] (by simp [Sl.look]) (by simp) (by simp) (by simp [V.fits, V.cells, V.one]) (by simp only [List.flatMap_cons, List.flatMap_nil, V.cells, List.append_nil]; exact .same (.same (.to .nil)))) ?_
  simp only [Sl.put, if_true, if_false, Nat.reduceEqDiff, reduceIte]
  refine Tr.weaken (Weaker.ghostH (sz := 3) (es := [.agg [.val (.slice none 0 0), .val (.slice none 0 0), .sl 3 0 0]]) 2 1 [.agg [.val (.slice none 0 0), .sl 4 0 0, .sl 3 0 0]] (by simp [Sl.look]) (by simp) (by simp) (by simp [V.fits, V.cells, V.one]) (by simp only [List.flatMap_cons, List.flatMap_nil, V.cells, List.append_nil]; exact .same (.to (.same .nil)))) ?_
  simp only [Sl.put, if_true, if_false, Nat.reduceEqDiff, reduceIte]
  refine Tr.weaken (Weaker.ghostH (sz := 3) (es := [.agg [.val (.slice none 0 0), .sl 4 0 0, .sl 3 0 0]]) 2 2 [.agg [.sl 5 0 0, .sl 4 0 0, .sl 3 0 0]] (by simp [Sl.look]) (by simp) (by simp) (by simp [V.fits, V.cells, V.one]) (by simp only [List.flatMap_cons, List.flatMap_nil, V.cells, List.append_nil]; exact .to (.same (.same .nil)))) ?_
  simp only [Sl.put, if_true, if_false, Nat.reduceEqDiff, reduceIte]
  refine loop_p (α := Nat × Nat × Nat) (fun a => ⟨70, [(1, .ptr 0 0 0), (2, .ptr 1 0 0), (3, .ptr 2 0 0), (15, .ro 2 (inis t.locs)), (16, iV (t.locs.length : Nat)), (17, iV (a.1 : Nat))], [(0, .rows 3 [.agg [.ro 2 (inis t.locs), .ro 1 (thrs t.ths), .ro 3 (atms t.asks)]]), (1, .rows 3 [.agg [.val (.slice none 0 0), .val (.slice none 0 0), .val (.slice none 0 0)]]), (2, .rows 3 [.agg [.sl a.2.1 0 a.1, .sl 4 0 0, .sl 3 0 0]]), (a.2.1, .rows 2 (inis (t.locs.take a.1))), (4, .rows 1 []), (3, .rows 3 [])], a.2.2⟩) (fun a => a.1 ≤ t.locs.length ∧ 4 < a.2.1 ∧ a.2.1 < a.2.2) (fun a => t.locs.length - a.1) (0, 5, 6) ?_ ?_ ?_
  · dsimp only; omega
  · refine Weaker.fz 1 0 ?_ ?_ ?_
    · simp [go_sem, Tst.cs]
    · first | (simp; done) | (simp; omega)
    · simp [go_sem, Tst.cs, inis_nil]
  rintro ⟨i, m, j⟩ ⟨hi, hm, hj⟩
  dsimp only at hi hm hj ⊢
  refine region_k T_ok (by decide) fun K hK => ?_
  simp [go_sem]
  refine hK _ ?_; clear hK K
  refine seq_k fun K2 hK2 => ?_
  refine cond_k rfl (fun h => ?_) (fun h => ?_)
  · simp at h
    have hI := h
    clear h
    have h' : i < (t.locs).length := by omega
    obtain ⟨x, hx, hx'⟩ := getAt h'
    have hi0 : (0 : Int) ≤ (i : Nat) := by omega
    have hmn : min i (t.locs).length = i := Nat.min_eq_left (by omega)
    have hw : IntKind.i64.wrap ((i : Nat) + 1) = (i : Nat) + 1 := wrap_i64 (by omega) (by omega)
    have e0 : ¬ m = 0 := by omega
    have eq0 : ¬ 0 = m := by omega
    have e2 : ¬ m = 1 := by omega
    have eq2 : ¬ 1 = m := by omega
    have e4 : ¬ m = 2 := by omega
    have eq4 : ¬ 2 = m := by omega
    have e6 : ¬ m = 3 := by omega
    have eq6 : ¬ 3 = m := by omega
    have e8 : ¬ m = 4 := by omega
    have eq8 : ¬ 4 = m := by omega
    have e10 : ¬ j = 0 := by omega
    have eq10 : ¬ 0 = j := by omega
    have e12 : ¬ j = 1 := by omega
    have eq12 : ¬ 1 = j := by omega
    have e14 : ¬ j = 2 := by omega
    have eq14 : ¬ 2 = j := by omega
    have e16 : ¬ j = 3 := by omega
    have eq16 : ¬ 3 = j := by omega
    have e18 : ¬ j = 4 := by omega
    have eq18 : ¬ 4 = j := by omega
    have e20 : ¬ m = j := by omega
    have eq20 : ¬ j = m := by omega
    have e22 : ¬ m = j + 1 := by omega
    have eq22 : ¬ j + 1 = m := by omega
    have e24 : ¬ m = j + 2 := by omega
    have eq24 : ¬ j + 2 = m := by omega
    refine tr_skip ?_
    refine hK2 _ ?_; try clear hK2 K2
    refine seq_k fun K3 hK3 => ?_
    refine tr_block ?_
    refine region_k T_ok (by decide) fun K hK => ?_
    simp [go_sem, hI, hx, hx', hi0, h', iniC, Ini.cs, e0, eq0, e2, eq2, e4, eq4, e6, eq6, e8, eq8, e10, eq10, e12, eq12, e14, eq14, e16, eq16, e18, eq18, e20, eq20, e22, eq22, e24, eq24]
    refine hK _ ?_; clear hK K
    refine region_e T_ok (by decide) fun K hK => ?_
    simp [go_sem, hmn, iniC, Ini.cs, e0, eq0, e2, eq2, e4, eq4, e6, eq6, e8, eq8, e10, eq10, e12, eq12, e14, eq14, e16, eq16, e18, eq18, e20, eq20, e22, eq22, e24, eq24]
    refine ⟨by omega, ?_⟩
    refine hK _ ?_; clear hK K
    refine hK3 _ ?_; try clear hK3 K3
    refine region_e T_ok (by decide) fun K hK => ?_
    simp [go_sem, hw]
    refine hK _ ?_; clear hK K
    refine ⟨(i + 1, j + 2, j + 3), ?_, ?_, ?_⟩
    · dsimp only; omega
    · dsimp only; omega
    · refine Weaker.fz 1 0 ?_ ?_ ?_
      · simp [go_sem, e0, eq0, e2, eq2, e4, eq4, e6, eq6, e8, eq8, e10, eq10, e12, eq12, e14, eq14, e16, eq16, e18, eq18, e20, eq20, e22, eq22, e24, eq24]
      · first | (simp; done) | (simp; omega)
      simp [go_sem, List.take_take, inis_snoc hx, e0, eq0, e2, eq2, e4, eq4, e6, eq6, e8, eq8, e10, eq10, e12, eq12, e14, eq14, e16, eq16, e18, eq18, e20, eq20, e22, eq22, e24, eq24]
  · simp at h
    obtain rfl : i = t.locs.length := by omega
    have e0 : ¬ m = 0 := by omega
    have eq0 : ¬ 0 = m := by omega
    have e2 : ¬ m = 1 := by omega
    have eq2 : ¬ 1 = m := by omega
    have e4 : ¬ m = 2 := by omega
    have eq4 : ¬ 2 = m := by omega
    have e6 : ¬ m = 3 := by omega
    have eq6 : ¬ 3 = m := by omega
    have e8 : ¬ m = 4 := by omega
    have eq8 : ¬ 4 = m := by omega
    have e10 : ¬ j = 0 := by omega
    have eq10 : ¬ 0 = j := by omega
    have e12 : ¬ j = 1 := by omega
    have eq12 : ¬ 1 = j := by omega
    have e14 : ¬ j = 2 := by omega
    have eq14 : ¬ 2 = j := by omega
    have e16 : ¬ j = 3 := by omega
    have eq16 : ¬ 3 = j := by omega
    have e18 : ¬ j = 4 := by omega
    have eq18 : ¬ 4 = j := by omega
    have e20 : ¬ m = j := by omega
    have eq20 : ¬ j = m := by omega
    have e22 : ¬ m = j + 1 := by omega
    have eq22 : ¬ j + 1 = m := by omega
    have e24 : ¬ m = j + 2 := by omega
    have eq24 : ¬ j + 2 = m := by omega
    refine tr_exit ?_
    refine hK1 _ ?_; try clear hK1 K1
    refine seq_k fun K4 hK4 => ?_
    refine region_k T_ok (by decide) fun K hK => ?_
    simp [go_sem, Tst.cs, e0, eq0, e2, eq2, e4, eq4, e6, eq6, e8, eq8, e10, eq10, e12, eq12, e14, eq14, e16, eq16, e18, eq18, e20, eq20, e22, eq22, e24, eq24]
    refine hK _ ?_; clear hK K
    refine tr_block ?_
    refine loop_p (α := Nat × Nat × Nat) (fun a => ⟨70, [(1, .ptr 0 0 0), (2, .ptr 1 0 0), (3, .ptr 2 0 0), (29, .ro 1 (thrs t.ths)), (30, iV (t.ths.length : Nat)), (31, iV (a.1 : Nat))], [(0, .rows 3 [.agg [.ro 2 (inis t.locs), .ro 1 (thrs t.ths), .ro 3 (atms t.asks)]]), (1, .rows 3 [.agg [.val (.slice none 0 0), .val (.slice none 0 0), .val (.slice none 0 0)]]), (2, .rows 3 [.agg [.ro 2 (inis t.locs), .sl a.2.1 0 a.1, .sl 3 0 0]]), (a.2.1, .rows 1 (thrs (t.ths.take a.1))), (3, .rows 3 [])], a.2.2⟩) (fun a => a.1 ≤ t.ths.length ∧ 3 < a.2.1 ∧ a.2.1 < a.2.2) (fun a => t.ths.length - a.1) (0, 4, j) ?_ ?_ ?_
    · dsimp only; omega
    · refine Weaker.fz 1 1 ?_ ?_ ?_
      · simp [go_sem, e0, eq0, e2, eq2, e4, eq4, e6, eq6, e8, eq8, e10, eq10, e12, eq12, e14, eq14, e16, eq16, e18, eq18, e20, eq20, e22, eq22, e24, eq24]
      · first | (simp; done) | (simp; omega)
      · simp [go_sem, thrs_nil, e0, eq0, e2, eq2, e4, eq4, e6, eq6, e8, eq8, e10, eq10, e12, eq12, e14, eq14, e16, eq16, e18, eq18, e20, eq20, e22, eq22, e24, eq24]
    rintro ⟨i2, m2, j2⟩ ⟨hi2, hm2, hj2⟩
    dsimp only at hi2 hm2 hj2 ⊢
    refine region_k T_ok (by decide) fun K hK => ?_
    simp [go_sem]
    refine hK _ ?_; clear hK K
    refine seq_k fun K5 hK5 => ?_
    refine cond_k rfl (fun h => ?_) (fun h => ?_)
    · simp at h
      have hI2 := h
      clear h
      have h'2 : i2 < (t.ths).length := by omega
      obtain ⟨l, hx2, hx'2⟩ := getAt h'2
      have hi02 : (0 : Int) ≤ (i2 : Nat) := by omega
      have hmn2 : min i2 (t.ths).length = i2 := Nat.min_eq_left (by omega)
      have hll := h3 l (List.mem_of_getElem? hx2)
      have hw2 : IntKind.i64.wrap ((i2 : Nat) + 1) = (i2 : Nat) + 1 := wrap_i64 (by omega) (by omega)
      have a0 : ¬ m2 = 0 := by omega
      have aq0 : ¬ 0 = m2 := by omega
      have a2 : ¬ m2 = 1 := by omega
      have aq2 : ¬ 1 = m2 := by omega
      have a4 : ¬ m2 = 2 := by omega
      have aq4 : ¬ 2 = m2 := by omega
      have a6 : ¬ m2 = 3 := by omega
      have aq6 : ¬ 3 = m2 := by omega
      have a8 : ¬ j2 = 0 := by omega
      have aq8 : ¬ 0 = j2 := by omega
      have a10 : ¬ j2 = 1 := by omega
      have aq10 : ¬ 1 = j2 := by omega
      have a12 : ¬ j2 = 2 := by omega
      have aq12 : ¬ 2 = j2 := by omega
      have a14 : ¬ j2 = 3 := by omega
      have aq14 : ¬ 3 = j2 := by omega
      have a16 : ¬ j2 = 4 := by omega
      have aq16 : ¬ 4 = j2 := by omega
      have a18 : ¬ m2 = j2 := by omega
      have aq18 : ¬ j2 = m2 := by omega
      have a20 : ¬ m2 = j2 + 1 := by omega
      have aq20 : ¬ j2 + 1 = m2 := by omega
      have a22 : ¬ m2 = j2 + 2 := by omega
      have aq22 : ¬ j2 + 2 = m2 := by omega
      refine tr_skip ?_
      refine hK5 _ ?_; try clear hK5 K5
      refine seq_k fun K6 hK6 => ?_
      refine tr_block ?_
      refine region_k T_ok (by decide) fun K hK => ?_
      simp [go_sem, hI2, hx2, hx'2, hi02, h'2, a0, aq0, a2, aq2, a4, aq4, a6, aq6, a8, aq8, a10, aq10, a12, aq12, a14, aq14, a16, aq16, a18, aq18, a20, aq20, a22, aq22]
      refine hK _ ?_; clear hK K
      refine region_k T_ok (by decide) fun K hK => ?_
      simp [go_sem, a0, aq0, a2, aq2, a4, aq4, a6, aq6, a8, aq8, a10, aq10, a12, aq12, a14, aq14, a16, aq16, a18, aq18, a20, aq20, a22, aq22]
      refine hK _ ?_; clear hK K
      refine seq_k fun K7 hK7 => ?_
      refine region_k T_ok (by decide) fun K hK => ?_
      simp [go_sem]
      refine hK _ ?_; clear hK K
      refine tr_block ?_
      refine loop_p (α := Nat × Nat × Nat) (fun b => ⟨70, [(1, .ptr 0 0 0), (2, .ptr 1 0 0), (3, .ptr 2 0 0), (29, .ro 1 (thrs t.ths)), (30, iV (t.ths.length : Nat)), (31, iV (i2 : Nat)), (36, .ro 13 (inss l)), (37, iV (l.length : Nat)), (38, iV (b.1 : Nat)), (8, .sl b.2.1 0 b.1)], [(0, .rows 3 [.agg [.ro 2 (inis t.locs), .ro 1 (thrs t.ths), .ro 3 (atms t.asks)]]), (1, .rows 3 [.agg [.val (.slice none 0 0), .val (.slice none 0 0), .val (.slice none 0 0)]]), (2, .rows 3 [.agg [.ro 2 (inis t.locs), .sl m2 0 i2, .sl 3 0 0]]), (m2, .rows 1 (thrs (t.ths.take i2))), (3, .rows 3 []), (b.2.1, .rows 13 (inss (l.take b.1)))], b.2.2⟩) (fun b => b.1 ≤ l.length ∧ m2 < b.2.1 ∧ b.2.1 < b.2.2) (fun b => l.length - b.1) (0, j2, j2 + 1) ?_ ?_ ?_
      · dsimp only; omega
      · refine Weaker.fz 1 0 ?_ ?_ ?_
        · simp [go_sem, a0, aq0, a2, aq2, a4, aq4, a6, aq6, a8, aq8, a10, aq10, a12, aq12, a14, aq14, a16, aq16, a18, aq18, a20, aq20, a22, aq22]
        · first | (simp; done) | (simp; omega)
        · simp [go_sem, show inss [] = [] from rfl, a0, aq0, a2, aq2, a4, aq4, a6, aq6, a8, aq8, a10, aq10, a12, aq12, a14, aq14, a16, aq16, a18, aq18, a20, aq20, a22, aq22]
      rintro ⟨b, r, c⟩ ⟨hb, hr, hc⟩
      dsimp only at hb hr hc ⊢
      refine region_k T_ok (by decide) fun K hK => ?_
      simp [go_sem]
      refine hK _ ?_; clear hK K
      refine seq_k fun K8 hK8 => ?_
      refine cond_k rfl (fun h => ?_) (fun h => ?_)
      · simp at h
        have hI4 := h
        clear h
        have h'4 : b < (l).length := by omega
        obtain ⟨x, hx4, hx'4⟩ := getAt h'4
        have hi04 : (0 : Int) ≤ (b : Nat) := by omega
        have hmn4 : min b (l).length = b := Nat.min_eq_left (by omega)
        have hw4 : IntKind.i64.wrap ((b : Nat) + 1) = (b : Nat) + 1 := wrap_i64 (by omega) (by omega)
        have b0 : ¬ r = 0 := by omega
        have bq0 : ¬ 0 = r := by omega
        have b2 : ¬ r = 1 := by omega
        have bq2 : ¬ 1 = r := by omega
        have b4 : ¬ r = 2 := by omega
        have bq4 : ¬ 2 = r := by omega
        have b6 : ¬ r = 3 := by omega
        have bq6 : ¬ 3 = r := by omega
        have b8 : ¬ r = 4 := by omega
        have bq8 : ¬ 4 = r := by omega
        have b10 : ¬ c = 0 := by omega
        have bq10 : ¬ 0 = c := by omega
        have b12 : ¬ c = 1 := by omega
        have bq12 : ¬ 1 = c := by omega
        have b14 : ¬ c = 2 := by omega
        have bq14 : ¬ 2 = c := by omega
        have b16 : ¬ c = 3 := by omega
        have bq16 : ¬ 3 = c := by omega
        have b18 : ¬ c = 4 := by omega
        have bq18 : ¬ 4 = c := by omega
        have b20 : ¬ m2 = c := by omega
        have bq20 : ¬ c = m2 := by omega
        have b22 : ¬ m2 = c + 1 := by omega
        have bq22 : ¬ c + 1 = m2 := by omega
        have b24 : ¬ m2 = c + 2 := by omega
        have bq24 : ¬ c + 2 = m2 := by omega
        have b26 : ¬ r = c := by omega
        have bq26 : ¬ c = r := by omega
        have b28 : ¬ r = c + 1 := by omega
        have bq28 : ¬ c + 1 = r := by omega
        have b30 : ¬ r = c + 2 := by omega
        have bq30 : ¬ c + 2 = r := by omega
        have b32 : ¬ m2 = r := by omega
        have bq32 : ¬ r = m2 := by omega
        refine tr_skip ?_
        refine hK8 _ ?_; try clear hK8 K8
        refine seq_k fun K9 hK9 => ?_
        refine tr_block ?_
        refine region_k T_ok (by decide) fun K hK => ?_
        simp [go_sem, hI4, hx4, hx'4, hi04, h'4, insC, a0, aq0, a2, aq2, a4, aq4, a6, aq6, a8, aq8, a10, aq10, a12, aq12, a14, aq14, a16, aq16, a18, aq18, a20, aq20, a22, aq22, b0, bq0, b2, bq2, b4, bq4, b6, bq6, b8, bq8, b10, bq10, b12, bq12, b14, bq14, b16, bq16, b18, bq18, b20, bq20, b22, bq22, b24, bq24, b26, bq26, b28, bq28, b30, bq30, b32, bq32]
        refine hK _ ?_; clear hK K
        refine region_e T_ok (by decide) fun K hK => ?_
        simp [go_sem, insC, hmn4, a0, aq0, a2, aq2, a4, aq4, a6, aq6, a8, aq8, a10, aq10, a12, aq12, a14, aq14, a16, aq16, a18, aq18, a20, aq20, a22, aq22, b0, bq0, b2, bq2, b4, bq4, b6, bq6, b8, bq8, b10, bq10, b12, bq12, b14, bq14, b16, bq16, b18, bq18, b20, bq20, b22, bq22, b24, bq24, b26, bq26, b28, bq28, b30, bq30, b32, bq32]
        refine call_pf (instr_pf x) ?_
        simp [go_sem, insC, hmn4, a0, aq0, a2, aq2, a4, aq4, a6, aq6, a8, aq8, a10, aq10, a12, aq12, a14, aq14, a16, aq16, a18, aq18, a20, aq20, a22, aq22, b0, bq0, b2, bq2, b4, bq4, b6, bq6, b8, bq8, b10, bq10, b12, bq12, b14, bq14, b16, bq16, b18, bq18, b20, bq20, b22, bq22, b24, bq24, b26, bq26, b28, bq28, b30, bq30, b32, bq32]
        refine ⟨insOne x, by omega, ?_⟩
        refine hK _ ?_; clear hK K
        refine hK9 _ ?_; try clear hK9 K9
        refine region_e T_ok (by decide) fun K hK => ?_
        simp [go_sem, hw4]
        refine hK _ ?_; clear hK K
        refine ⟨(b + 1, c + 2, c + 3), ?_, ?_, ?_⟩
        · dsimp only; omega
        · dsimp only; omega
        · refine Weaker.fz 1 0 ?_ ?_ ?_
          · simp [go_sem, a0, aq0, a2, aq2, a4, aq4, a6, aq6, a8, aq8, a10, aq10, a12, aq12, a14, aq14, a16, aq16, a18, aq18, a20, aq20, a22, aq22, b0, bq0, b2, bq2, b4, bq4, b6, bq6, b8, bq8, b10, bq10, b12, bq12, b14, bq14, b16, bq16, b18, bq18, b20, bq20, b22, bq22, b24, bq24, b26, bq26, b28, bq28, b30, bq30, b32, bq32]
          · first | (simp; done) | (simp; omega)
          simp [go_sem, List.take_take, inss_snoc hx4, a0, aq0, a2, aq2, a4, aq4, a6, aq6, a8, aq8, a10, aq10, a12, aq12, a14, aq14, a16, aq16, a18, aq18, a20, aq20, a22, aq22, b0, bq0, b2, bq2, b4, bq4, b6, bq6, b8, bq8, b10, bq10, b12, bq12, b14, bq14, b16, bq16, b18, bq18, b20, bq20, b22, bq22, b24, bq24, b26, bq26, b28, bq28, b30, bq30, b32, bq32]
      · simp at h
        obtain rfl : b = l.length := by omega
        have b0 : ¬ r = 0 := by omega
        have bq0 : ¬ 0 = r := by omega
        have b2 : ¬ r = 1 := by omega
        have bq2 : ¬ 1 = r := by omega
        have b4 : ¬ r = 2 := by omega
        have bq4 : ¬ 2 = r := by omega
        have b6 : ¬ r = 3 := by omega
        have bq6 : ¬ 3 = r := by omega
        have b8 : ¬ r = 4 := by omega
        have bq8 : ¬ 4 = r := by omega
        have b10 : ¬ c = 0 := by omega
        have bq10 : ¬ 0 = c := by omega
        have b12 : ¬ c = 1 := by omega
        have bq12 : ¬ 1 = c := by omega
        have b14 : ¬ c = 2 := by omega
        have bq14 : ¬ 2 = c := by omega
        have b16 : ¬ c = 3 := by omega
        have bq16 : ¬ 3 = c := by omega
        have b18 : ¬ c = 4 := by omega
        have bq18 : ¬ 4 = c := by omega
        have b20 : ¬ m2 = c := by omega
        have bq20 : ¬ c = m2 := by omega
        have b22 : ¬ m2 = c + 1 := by omega
        have bq22 : ¬ c + 1 = m2 := by omega
        have b24 : ¬ m2 = c + 2 := by omega
        have bq24 : ¬ c + 2 = m2 := by omega
        have b26 : ¬ r = c := by omega
        have bq26 : ¬ c = r := by omega
        have b28 : ¬ r = c + 1 := by omega
        have bq28 : ¬ c + 1 = r := by omega
        have b30 : ¬ r = c + 2 := by omega
        have bq30 : ¬ c + 2 = r := by omega
        have b32 : ¬ m2 = r := by omega
        have bq32 : ¬ r = m2 := by omega
        refine tr_exit ?_
        refine hK7 _ ?_; try clear hK7 K7
        refine region_e T_ok (by decide) fun K hK => ?_
        simp [go_sem, hmn2, a0, aq0, a2, aq2, a4, aq4, a6, aq6, a8, aq8, a10, aq10, a12, aq12, a14, aq14, a16, aq16, a18, aq18, a20, aq20, a22, aq22, b0, bq0, b2, bq2, b4, bq4, b6, bq6, b8, bq8, b10, bq10, b12, bq12, b14, bq14, b16, bq16, b18, bq18, b20, bq20, b22, bq22, b24, bq24, b26, bq26, b28, bq28, b30, bq30, b32, bq32]
        refine ⟨by omega, ?_⟩
        refine hK _ ?_; clear hK K
        refine hK6 _ ?_; try clear hK6 K6
        refine region_e T_ok (by decide) fun K hK => ?_
        simp [go_sem, hw2]
        refine hK _ ?_; clear hK K
        refine ⟨(i2 + 1, c + 1, c + 2), ?_, ?_, ?_⟩
        · dsimp only; omega
        · dsimp only; omega
        · refine Weaker.fz 1 1 ?_ ?_ ?_
          · simp [go_sem, a0, aq0, a2, aq2, a4, aq4, a6, aq6, a8, aq8, a10, aq10, a12, aq12, a14, aq14, a16, aq16, a18, aq18, a20, aq20, a22, aq22, b0, bq0, b2, bq2, b4, bq4, b6, bq6, b8, bq8, b10, bq10, b12, bq12, b14, bq14, b16, bq16, b18, bq18, b20, bq20, b22, bq22, b24, bq24, b26, bq26, b28, bq28, b30, bq30, b32, bq32]
          · first | (simp; done) | (simp; omega)
          simp [go_sem, hmn2, List.take_take, thrs_snoc hx2, a0, aq0, a2, aq2, a4, aq4, a6, aq6, a8, aq8, a10, aq10, a12, aq12, a14, aq14, a16, aq16, a18, aq18, a20, aq20, a22, aq22, b0, bq0, b2, bq2, b4, bq4, b6, bq6, b8, bq8, b10, bq10, b12, bq12, b14, bq14, b16, bq16, b18, bq18, b20, bq20, b22, bq22, b24, bq24, b26, bq26, b28, bq28, b30, bq30, b32, bq32]
    · simp at h
      obtain rfl : i2 = t.ths.length := by omega
      have a0 : ¬ m2 = 0 := by omega
      have aq0 : ¬ 0 = m2 := by omega
      have a2 : ¬ m2 = 1 := by omega
      have aq2 : ¬ 1 = m2 := by omega
      have a4 : ¬ m2 = 2 := by omega
      have aq4 : ¬ 2 = m2 := by omega
      have a6 : ¬ m2 = 3 := by omega
      have aq6 : ¬ 3 = m2 := by omega
      have a8 : ¬ j2 = 0 := by omega
      have aq8 : ¬ 0 = j2 := by omega
      have a10 : ¬ j2 = 1 := by omega
      have aq10 : ¬ 1 = j2 := by omega
      have a12 : ¬ j2 = 2 := by omega
      have aq12 : ¬ 2 = j2 := by omega
      have a14 : ¬ j2 = 3 := by omega
      have aq14 : ¬ 3 = j2 := by omega
      have a16 : ¬ j2 = 4 := by omega
      have aq16 : ¬ 4 = j2 := by omega
      have a18 : ¬ m2 = j2 := by omega
      have aq18 : ¬ j2 = m2 := by omega
      have a20 : ¬ m2 = j2 + 1 := by omega
      have aq20 : ¬ j2 + 1 = m2 := by omega
      have a22 : ¬ m2 = j2 + 2 := by omega
      have aq22 : ¬ j2 + 2 = m2 := by omega
      refine tr_exit ?_
      refine hK4 _ ?_; try clear hK4 K4
      refine seq_k fun K10 hK10 => ?_
      refine region_k T_ok (by decide) fun K hK => ?_
      simp [go_sem, a0, aq0, a2, aq2, a4, aq4, a6, aq6, a8, aq8, a10, aq10, a12, aq12, a14, aq14, a16, aq16, a18, aq18, a20, aq20, a22, aq22]
      refine hK _ ?_; clear hK K
      refine tr_block ?_
      refine loop_p (α := Nat × Nat × Nat) (fun a => ⟨70, [(1, .ptr 0 0 0), (2, .ptr 1 0 0), (3, .ptr 2 0 0), (56, .ro 3 (atms t.asks)), (57, iV (t.asks.length : Nat)), (58, iV (a.1 : Nat))], [(0, .rows 3 [.agg [.ro 2 (inis t.locs), .ro 1 (thrs t.ths), .ro 3 (atms t.asks)]]), (1, .rows 3 [.agg [.val (.slice none 0 0), .val (.slice none 0 0), .val (.slice none 0 0)]]), (2, .rows 3 [.agg [.ro 2 (inis t.locs), .ro 1 (thrs t.ths), .sl a.2.1 0 a.1]]), (a.2.1, .rows 3 (atms (t.asks.take a.1)))], a.2.2⟩) (fun a => a.1 ≤ t.asks.length ∧ 2 < a.2.1 ∧ a.2.1 < a.2.2) (fun a => t.asks.length - a.1) (0, 3, j2) ?_ ?_ ?_
      · dsimp only; omega
      · refine Weaker.fz 1 1 ?_ ?_ ?_
        · simp [go_sem, a0, aq0, a2, aq2, a4, aq4, a6, aq6, a8, aq8, a10, aq10, a12, aq12, a14, aq14, a16, aq16, a18, aq18, a20, aq20, a22, aq22]
        · first | (simp; done) | (simp; omega)
        · simp [go_sem, show atms [] = [] from rfl, a0, aq0, a2, aq2, a4, aq4, a6, aq6, a8, aq8, a10, aq10, a12, aq12, a14, aq14, a16, aq16, a18, aq18, a20, aq20, a22, aq22]
      rintro ⟨i6, m6, j6⟩ ⟨hi6, hm6, hj6⟩
      dsimp only at hi6 hm6 hj6 ⊢
      refine region_k T_ok (by decide) fun K hK => ?_
      simp [go_sem]
      refine hK _ ?_; clear hK K
      refine seq_k fun K11 hK11 => ?_
      refine cond_k rfl (fun h => ?_) (fun h => ?_)
      · simp at h
        have hI6 := h
        clear h
        have h'6 : i6 < (t.asks).length := by omega
        obtain ⟨x, hx6, hx'6⟩ := getAt h'6
        have hi06 : (0 : Int) ≤ (i6 : Nat) := by omega
        have hmn6 : min i6 (t.asks).length = i6 := Nat.min_eq_left (by omega)
        have hw6 : IntKind.i64.wrap ((i6 : Nat) + 1) = (i6 : Nat) + 1 := wrap_i64 (by omega) (by omega)
        have d0 : ¬ m6 = 0 := by omega
        have dq0 : ¬ 0 = m6 := by omega
        have d2 : ¬ m6 = 1 := by omega
        have dq2 : ¬ 1 = m6 := by omega
        have d4 : ¬ m6 = 2 := by omega
        have dq4 : ¬ 2 = m6 := by omega
        have d6 : ¬ j6 = 0 := by omega
        have dq6 : ¬ 0 = j6 := by omega
        have d8 : ¬ j6 = 1 := by omega
        have dq8 : ¬ 1 = j6 := by omega
        have d10 : ¬ j6 = 2 := by omega
        have dq10 : ¬ 2 = j6 := by omega
        have d12 : ¬ m6 = j6 := by omega
        have dq12 : ¬ j6 = m6 := by omega
        have d14 : ¬ m6 = j6 + 1 := by omega
        have dq14 : ¬ j6 + 1 = m6 := by omega
        have d16 : ¬ m6 = j6 + 2 := by omega
        have dq16 : ¬ j6 + 2 = m6 := by omega
        refine tr_skip ?_
        refine hK11 _ ?_; try clear hK11 K11
        refine seq_k fun K12 hK12 => ?_
        refine tr_block ?_
        refine region_k T_ok (by decide) fun K hK => ?_
        simp [go_sem, hI6, hx6, hx'6, hi06, h'6, atmC, Atm.cs, d0, dq0, d2, dq2, d4, dq4, d6, dq6, d8, dq8, d10, dq10, d12, dq12, d14, dq14, d16, dq16]
        refine hK _ ?_; clear hK K
        refine region_e T_ok (by decide) fun K hK => ?_
        simp [go_sem, hmn6, atmC, Atm.cs, d0, dq0, d2, dq2, d4, dq4, d6, dq6, d8, dq8, d10, dq10, d12, dq12, d14, dq14, d16, dq16]
        refine ⟨by omega, ?_⟩
        refine hK _ ?_; clear hK K
        refine hK12 _ ?_; try clear hK12 K12
        refine region_e T_ok (by decide) fun K hK => ?_
        simp [go_sem, hw6]
        refine hK _ ?_; clear hK K
        refine ⟨(i6 + 1, j6 + 2, j6 + 3), ?_, ?_, ?_⟩
        · dsimp only; omega
        · dsimp only; omega
        · refine Weaker.fz 1 1 ?_ ?_ ?_
          · simp [go_sem, d0, dq0, d2, dq2, d4, dq4, d6, dq6, d8, dq8, d10, dq10, d12, dq12, d14, dq14, d16, dq16]
          · first | (simp; done) | (simp; omega)
          simp [go_sem, List.take_take, atms_snoc hx6, d0, dq0, d2, dq2, d4, dq4, d6, dq6, d8, dq8, d10, dq10, d12, dq12, d14, dq14, d16, dq16]
      · simp at h
        obtain rfl : i6 = t.asks.length := by omega
        have d0 : ¬ m6 = 0 := by omega
        have dq0 : ¬ 0 = m6 := by omega
        have d2 : ¬ m6 = 1 := by omega
        have dq2 : ¬ 1 = m6 := by omega
        have d4 : ¬ m6 = 2 := by omega
        have dq4 : ¬ 2 = m6 := by omega
        have d6 : ¬ j6 = 0 := by omega
        have dq6 : ¬ 0 = j6 := by omega
        have d8 : ¬ j6 = 1 := by omega
        have dq8 : ¬ 1 = j6 := by omega
        have d10 : ¬ j6 = 2 := by omega
        have dq10 : ¬ 2 = j6 := by omega
        have d12 : ¬ m6 = j6 := by omega
        have dq12 : ¬ j6 = m6 := by omega
        have d14 : ¬ m6 = j6 + 1 := by omega
        have dq14 : ¬ j6 + 1 = m6 := by omega
        have d16 : ¬ m6 = j6 + 2 := by omega
        have dq16 : ¬ j6 + 2 = m6 := by omega
        refine tr_exit ?_
        refine hK10 _ ?_; try clear hK10 K10
        refine region_k T_ok (by decide) fun K hK => ?_
        simp [go_sem, d0, dq0, d2, dq2, d4, dq4, d6, dq6, d8, dq8, d10, dq10, d12, dq12, d14, dq14, d16, dq16]
        refine hK _ ?_; clear hK K
        refine tr_ret ⟨.inr rfl, ?_⟩
        simp [go_sem, Tst.cs, d0, dq0, d2, dq2, d4, dq4, d6, dq6, d8, dq8, d10, dq10, d12, dq12, d14, dq14, d16, dq16]

end Go.Proofs.Ytokdphmnlcmbbaa
/- The document's Ops: as the code's, with their instructions. -/
namespace Go.Proofs.Ytokdphmnlcmbbaa
open Go Go.Sl

abbrev XOp := Nat × Nat × Ins
def xopC (p : XOp) : V := .agg (iV (p.1 : Nat) :: iV (p.2.1 : Nat) :: p.2.2.cs)
def xopsC (l : List XOp) : List V := l.map xopC
def xopsL (th : Nat) : Nat → List Ins → List XOp
  | _, [] => []
  | i, x :: l => if memI x then (th, i, x) :: xopsL th (i + 1) l else xopsL th (i + 1) l
def xopsT : Nat → List (List Ins) → List XOp
  | _, [] => []
  | i, l :: r => xopsL i 0 l ++ xopsT (i + 1) r
theorem xopsL_ops (th : Nat) : ∀ (i : Nat) (l : List Ins), (xopsL th i l).map (fun p => (p.1, p.2.1)) = opsL th i l
  | _, [] => rfl
  | i, x :: l => by
    unfold xopsL opsL
    split
    · simp [xopsL_ops th (i + 1) l]
    · exact xopsL_ops th (i + 1) l
theorem xopsT_ops : ∀ (i : Nat) (l : List (List Ins)), (xopsT i l).map (fun p => (p.1, p.2.1)) = opsT i l
  | _, [] => rfl
  | i, x :: l => by simp [xopsT, opsT, xopsL_ops, xopsT_ops (i + 1) l]
theorem xopsT_len (i : Nat) (l : List (List Ins)) : (xopsT i l).length = (opsT i l).length := by rw [← xopsT_ops, List.length_map]
theorem xopsL_append (th : Nat) : ∀ (i : Nat) (l l' : List Ins), xopsL th i (l ++ l') = xopsL th i l ++ xopsL th (i + l.length) l'
  | i, [], l' => by simp [xopsL]
  | i, x :: l, l' => by
    have := xopsL_append th (i + 1) l l'
    have e : i + 1 + l.length = i + (l.length + 1) := by omega
    simp only [List.cons_append, xopsL, this, List.length_cons, e]
    split <;> simp
theorem xopsT_append : ∀ (i : Nat) (l l' : List (List Ins)), xopsT i (l ++ l') = xopsT i l ++ xopsT (i + l.length) l'
  | i, [], l' => by simp [xopsT]
  | i, x :: l, l' => by
    have := xopsT_append (i + 1) l l'
    have e : i + 1 + l.length = i + (l.length + 1) := by omega
    simp only [List.cons_append, xopsT, this, List.length_cons, e, List.append_assoc]
def xopO (t : List (List Ins)) (i : Nat) : List XOp := xopsT 0 (t.take i)
def xopP (t : List (List Ins)) (i : Nat) (l : List Ins) (b : Nat) : List XOp := xopO t i ++ xopsL i 0 (l.take b)
theorem xopO_zero (t : List (List Ins)) : xopO t 0 = [] := rfl
theorem xopO_all (t : List (List Ins)) : xopO t t.length = xopsT 0 t := by unfold xopO; rw [List.take_length]
theorem xopP_zero (t : List (List Ins)) (i : Nat) (l : List Ins) : xopP t i l 0 = xopO t i := by simp [xopP, xopsL]
theorem xopP_yes {t : List (List Ins)} {i : Nat} {l : List Ins} {b : Nat} {x : Ins} (h : l[b]? = some x) (hm : memI x = true) : xopP t i l (b + 1) = xopP t i l b ++ [(i, b, x)] := by
  have hb : (l.take b).length = b := by rw [List.length_take]; have := (List.getElem?_eq_some_iff.1 h).1; omega
  unfold xopP
  rw [takeAt h, xopsL_append, hb]
  simp [xopsL, hm]
theorem xopP_no {t : List (List Ins)} {i : Nat} {l : List Ins} {b : Nat} {x : Ins} (h : l[b]? = some x) (hm : memI x = false) : xopP t i l (b + 1) = xopP t i l b := by
  unfold xopP
  rw [takeAt h, xopsL_append]
  simp [xopsL, hm]
theorem xopP_end {t : List (List Ins)} {i : Nat} {l : List Ins} (h : t[i]? = some l) : xopP t i l l.length = xopO t (i + 1) := by
  have hb : (t.take i).length = i := by rw [List.length_take]; have := (List.getElem?_eq_some_iff.1 h).1; omega
  unfold xopP xopO
  rw [takeAt h, xopsT_append, hb, List.take_length]
  simp [xopsT]
theorem xopP_len {t : List (List Ins)} {i : Nat} {l : List Ins} {b : Nat} (h : ∀ x ∈ t, x.length ≤ 1000) (ht : t.length ≤ 1000) (hl : l.length ≤ 1000) : (xopP t i l b).length ≤ 1001000 := by
  have := opP_len (i := i) (l := l) (b := b) h ht hl
  have e1 : (xopP t i l b).length = (opP t i l b).length := by
    unfold xopP opP xopO opO
    rw [List.length_append, List.length_append, xopsT_len, ← xopsL_ops, List.length_map]
  omega
@[go_sem] theorem xopsC_len (l : List XOp) : (xopsC l).length = l.length := List.length_map ..
@[go_sem] theorem xopsC_take (l : List XOp) (n : Nat) : (xopsC l).take n = xopsC (l.take n) := (List.map_take ..).symm
@[go_sem] theorem xopsC_at (l : List XOp) (i : Nat) : (xopsC l)[i]? = l[i]?.map fun p => V.agg (iV (p.1 : Nat) :: iV (p.2.1 : Nat) :: p.2.2.cs) := List.getElem?_map ..
theorem xopsC_append (l : List XOp) (a b : Nat) (x : Ins) : xopsC l ++ [V.agg (iV (a : Nat) :: iV (b : Nat) :: x.cs)] = xopsC (l ++ [(a, b, x)]) := by simp [xopsC, xopC]
theorem xopsC_nil : xopsC [] = [] := rfl
theorem nl_xopsC (l : List XOp) : NL (.ro 15 (xopsC l)) := .ro fun v hv => by obtain ⟨a, _, rfl⟩ := List.mem_map.1 hv; exact .cons (.val _) (.cons (.val _) (nl_ins _))
end Go.Proofs.Ytokdphmnlcmbbaa
/- The document's answer: the Ops of a test. -/
namespace Go.Proofs.Ytokdphmnlcmbbaa
open Go Go.Sl Go.Proofs.Try

set_option maxRecDepth 20000 in
set_option maxHeartbeats 4000000 in
theorem refOps_pf (t : Tst) (ht : t.ths.length ≤ 1000) (hl : ∀ x ∈ t.ths, x.length ≤ 1000) : Pf Try.prog 15 [.agg t.cs] (.ro 15 (xopsC (xopsT 0 t.ths))) := by
  refine Pf.of_fz 1 (.cons (.agg (nl_tst t)) .nil) (nl_xopsC _) ?_
  refine fn_in T_ok func15 rfl rfl ntmps15 rfl (by simp) ?_
  refine region_k T_ok (by decide) fun K hK => ?_
  simp [go_sem, Tst.cs]
  refine hK _ ?_; clear hK K
  refine region_k T_ok (by decide) fun K hK => ?_
  simp [go_sem]
  refine hK _ ?_; clear hK K
  refine seq_k fun K1 hK1 => ?_
  refine region_k T_ok (by decide) fun K hK => ?_
  simp [go_sem, Tst.cs]
  refine hK _ ?_; clear hK K
  refine tr_block ?_
  refine loop_p (α := Nat × Nat × Nat) (fun a => ⟨37, [(10, .ro 1 (thrs t.ths)), (11, iV (t.ths.length : Nat)), (12, iV (a.1 : Nat)), (3, .sl a.2.1 0 (xopO t.ths a.1).length)], [(a.2.1, .rows 15 (xopsC (xopO t.ths a.1)))], a.2.1 + a.2.2 + 1⟩) (fun a => a.1 ≤ t.ths.length) (fun a => t.ths.length - a.1) (0, 1, 0) ?_ ?_ ?_
  · dsimp only; omega
  · refine Weaker.fz 1 0 ?_ ?_ ?_
    · simp [go_sem, xopO_zero, Tst.cs]
    · first | (simp; done) | (simp; omega)
    · simp [go_sem, xopO_zero, xopsC_nil]
  rintro ⟨i, r, c⟩ hi
  dsimp only at hi ⊢
  refine region_k T_ok (by decide) fun K hK => ?_
  simp [go_sem]
  refine hK _ ?_; clear hK K
  refine seq_k fun K2 hK2 => ?_
  refine cond_k rfl (fun h => ?_) (fun h => ?_)
  · simp at h
    have hI := h
    clear h
    have h' : i < (t.ths).length := by omega
    obtain ⟨l, hx, hx'⟩ := getAt h'
    have hi0 : (0 : Int) ≤ (i : Nat) := by omega
    have hll := hl l (List.mem_of_getElem? hx)
    have hw : IntKind.i64.wrap ((i : Nat) + 1) = (i : Nat) + 1 := wrap_i64 (by omega) (by omega)
    refine tr_skip ?_
    refine hK2 _ ?_; try clear hK2 K2
    refine seq_k fun K3 hK3 => ?_
    refine tr_block ?_
    refine region_k T_ok (by decide) fun K hK => ?_
    simp [go_sem, hI, hx, hx', hi0, h']
    refine hK _ ?_; clear hK K
    refine region_k T_ok (by decide) fun K hK => ?_
    simp [go_sem]
    refine hK _ ?_; clear hK K
    refine tr_block ?_
    refine loop_p (α := Nat × Nat × Nat) (fun b => ⟨37, [(10, .ro 1 (thrs t.ths)), (11, iV (t.ths.length : Nat)), (12, iV (i : Nat)), (4, iV (i : Nat)), (17, .ro 13 (inss l)), (18, iV (l.length : Nat)), (19, iV (b.1 : Nat)), (3, .sl b.2.1 0 (xopP t.ths i l b.1).length)], [(b.2.1, .rows 15 (xopsC (xopP t.ths i l b.1)))], b.2.1 + b.2.2 + 1⟩) (fun b => b.1 ≤ l.length) (fun b => l.length - b.1) (0, r, c) ?_ ?_ ?_
    · dsimp only; omega
    · refine Weaker.fz 1 0 ?_ ?_ ?_
      · simp [go_sem, xopP_zero]
      · first | (simp; done) | (simp; omega)
      · simp [go_sem, xopP_zero]
    rintro ⟨b, r, c⟩ hib
    dsimp only at hib ⊢
    refine region_k T_ok (by decide) fun K hK => ?_
    simp [go_sem]
    refine hK _ ?_; clear hK K
    refine seq_k fun K4 hK4 => ?_
    refine cond_k rfl (fun h => ?_) (fun h => ?_)
    · simp at h
      have hI2 := h
      clear h
      have h'2 : b < (l).length := by omega
      obtain ⟨x, hx2, hx'2⟩ := getAt h'2
      have hi02 : (0 : Int) ≤ (b : Nat) := by omega
      have hw2 : IntKind.i64.wrap ((b : Nat) + 1) = (b : Nat) + 1 := wrap_i64 (by omega) (by omega)
      refine tr_skip ?_
      refine hK4 _ ?_; try clear hK4 K4
      refine seq_k fun K5 hK5 => ?_
      refine tr_block ?_
      refine region_k T_ok (by decide) fun K hK => ?_
      simp [go_sem, hI2, hx2, hx'2, hi02, h'2, insC]
      refine hK _ ?_; clear hK K
      refine region_k T_ok (by decide) fun K hK => ?_
      simp [go_sem, insC]
      refine call_pf (refMemory_pf x.op) ?_
      simp [go_sem]
      refine hK _ ?_; clear hK K
      refine cond_k rfl (fun h => ?_) (fun h => ?_)
      · have hm : memI x = true := h
        clear h
        have hpl := xopP_len (i := i) (l := l) (b := b) hl ht hll
        refine region_e T_ok (by decide) fun K hK => ?_
        simp [go_sem]
        refine ⟨insOne x, by omega, ?_⟩
        refine hK _ ?_; clear hK K
        refine hK5 _ ?_; try clear hK5 K5
        refine region_e T_ok (by decide) fun K hK => ?_
        simp [go_sem, hw2]
        refine hK _ ?_; clear hK K
        refine ⟨(b + 1, r + c + 3, 0), ?_, ?_, ?_⟩
        · dsimp only; omega
        · dsimp only; omega
        · refine Weaker.fz 1 0 ?_ ?_ ?_
          · simp [go_sem, xopP_yes hx2 hm]
          · first | (simp; done) | (simp; omega)
          simp [go_sem, xopP_yes hx2 hm, xopsC_append]
      · have hm : memI x = false := by simpa [memI] using h
        clear h
        refine tr_skip ?_
        refine hK5 _ ?_; try clear hK5 K5
        refine region_e T_ok (by decide) fun K hK => ?_
        simp [go_sem, hw2]
        refine hK _ ?_; clear hK K
        refine ⟨(b + 1, r, c + 1), ?_, ?_, ?_⟩
        · dsimp only; omega
        · dsimp only; omega
        · refine Weaker.fz 1 0 ?_ ?_ ?_
          · simp [go_sem, xopP_no hx2 hm]
          · first | (simp; done) | (simp; omega)
          simp [go_sem, xopP_no hx2 hm]
    · simp at h
      obtain rfl : b = l.length := by omega
      refine tr_exit ?_
      refine hK3 _ ?_; try clear hK3 K3
      refine region_e T_ok (by decide) fun K hK => ?_
      simp [go_sem, hw]
      refine hK _ ?_; clear hK K
      refine ⟨(i + 1, r, c), ?_, ?_, ?_⟩
      · dsimp only; omega
      · dsimp only; omega
      · refine Weaker.fz 1 0 ?_ ?_ ?_
        · simp [go_sem, xopP_end hx]
        · first | (simp; done) | (simp; omega)
        simp [go_sem, xopP_end hx]
  · simp at h
    obtain rfl : i = t.ths.length := by omega
    refine tr_exit ?_
    refine hK1 _ ?_; try clear hK1 K1
    refine region_k T_ok (by decide) fun K hK => ?_
    simp [go_sem]
    refine hK _ ?_; clear hK K
    refine tr_ret ⟨.inr rfl, ?_⟩
    simp [go_sem, xopO_all]

end Go.Proofs.Ytokdphmnlcmbbaa
