/- Flow: an instruction that has to do with memory, a branch, another one. -/
import Derived.Test.YtokdphmnlcmbbaaGflob
set_option linter.unusedVariables false
set_option linter.unusedSimpArgs false
namespace Go.Proofs.Ytokdphmnlcmbbaa
open Go Go.Sl Go.Proofs.Try

set_option maxRecDepth 20000 in
set_option maxHeartbeats 16000000 in
theorem mem_fn (w k : Nat) (h12 : 12 < w) (hw : w < k) (m : Nat) (L R Wh : V) (y : Wk) (f : Fl) (hfl : FlOk m f) (x : Ins) (hx : InsOk x) (n : Nat) (hn : n < m) (hn63 : n < 9223372036854775807) (read : Vl) (works : Bool) : Sl.Fn Try.prog 36 [.ptr w 0 0, insC x, iV (n : Nat), .agg [bV read.k, uV read.v], bV works] [(w, .rows 29 [.agg (wkC (.ptr 12 0 0) y)]), (12, .rows 9 [.agg [.sl 1 0 m, .sl 3 0 m, .sl 5 0 m, .sl 7 0 m, .sl 9 0 m, .sl 11 0 m, L, R, Wh]]), (1, .rows 1 (iVs f.state)), (3, .rows 2 (vls f.write)), (5, .rows 1 (iVs f.pair)), (7, .rows 1 (uVs f.place)), (9, .rows 1 (uVs f.value)), (11, .rows 1 (uVs f.path))] k fun r H _ => r = .tup [] ∧ H = [(w, .rows 29 [.agg (wkC (.ptr 12 0 0) (memW y x n read works))]), (12, .rows 9 [.agg [.sl 1 0 m, .sl 3 0 m, .sl 5 0 m, .sl 7 0 m, .sl 9 0 m, .sl 11 0 m, L, R, Wh]]), (1, .rows 1 (iVs (memF y f x n read works).state)), (3, .rows 2 (vls (memF y f x n read works).write)), (5, .rows 1 (iVs (memF y f x n read works).pair)), (7, .rows 1 (uVs (memF y f x n read works).place)), (9, .rows 1 (uVs (memF y f x n read works).value)), (11, .rows 1 (uVs (memF y f x n read works).path))] := by
  have e0 : ¬ w = 1 := by omega
  have eq0 : ¬ 1 = w := by omega
  have e2 : ¬ w = 3 := by omega
  have eq2 : ¬ 3 = w := by omega
  have e4 : ¬ w = 5 := by omega
  have eq4 : ¬ 5 = w := by omega
  have e6 : ¬ w = 7 := by omega
  have eq6 : ¬ 7 = w := by omega
  have e8 : ¬ w = 9 := by omega
  have eq8 : ¬ 9 = w := by omega
  have e10 : ¬ w = 11 := by omega
  have eq10 : ¬ 11 = w := by omega
  have e12 : ¬ w = 12 := by omega
  have eq12 : ¬ 12 = w := by omega
  have e14 : ¬ w = k := by omega
  have eq14 : ¬ k = w := by omega
  have e16 : ¬ w = k + 1 := by omega
  have eq16 : ¬ k + 1 = w := by omega
  have e18 : ¬ w = k + 2 := by omega
  have eq18 : ¬ k + 2 = w := by omega
  have e20 : ¬ k = 0 := by omega
  have eq20 : ¬ 0 = k := by omega
  have e22 : ¬ k = 1 := by omega
  have eq22 : ¬ 1 = k := by omega
  have e24 : ¬ k = 2 := by omega
  have eq24 : ¬ 2 = k := by omega
  have e26 : ¬ k = 3 := by omega
  have eq26 : ¬ 3 = k := by omega
  have e28 : ¬ k = 4 := by omega
  have eq28 : ¬ 4 = k := by omega
  have e30 : ¬ k = 5 := by omega
  have eq30 : ¬ 5 = k := by omega
  have e32 : ¬ k = 6 := by omega
  have eq32 : ¬ 6 = k := by omega
  have e34 : ¬ k = 7 := by omega
  have eq34 : ¬ 7 = k := by omega
  have e36 : ¬ k = 8 := by omega
  have eq36 : ¬ 8 = k := by omega
  have e38 : ¬ k = 9 := by omega
  have eq38 : ¬ 9 = k := by omega
  have e40 : ¬ k = 10 := by omega
  have eq40 : ¬ 10 = k := by omega
  have e42 : ¬ k = 11 := by omega
  have eq42 : ¬ 11 = k := by omega
  have e44 : ¬ k = 12 := by omega
  have eq44 : ¬ 12 = k := by omega
  refine Sl.Fn.keep (by simp [e0, eq0, e2, eq2, e4, eq4, e6, eq6, e8, eq8, e10, eq10, e12, eq12, e14, eq14, e16, eq16, e18, eq18, e20, eq20, e22, eq22, e24, eq24, e26, eq26, e28, eq28, e30, eq30, e32, eq32, e34, eq34, e36, eq36, e38, eq38, e40, eq40, e42, eq42, e44, eq44]) ?_
  have hfl0 := memF0_ok hfl y x n
  obtain ⟨h0, h8, ha, hb, hdep, hskip⟩ := hx
  obtain ⟨l1, l2, l3, l4, l5, l6⟩ := hfl
  have m1 : n < f.state.length := by omega
  have m2 : n < f.write.length := by omega
  have m3 : n < f.pair.length := by omega
  have m4 : n < f.place.length := by omega
  have m5 : n < f.value.length := by omega
  have m6 : n < f.path.length := by omega
  have nI : (n : Int) < (m : Nat) := by omega
  have n0 : (0 : Int) ≤ (n : Nat) := by omega
  have hwn : IntKind.i64.wrap ((n : Nat) + 1) = (n : Nat) + 1 := wrap_i64 (by omega) (by omega)
  refine fn_in T_ok func36 rfl rfl ntmps36 rfl (by simp) ?_
  refine region_k T_ok (by decide) fun K hK => ?_
  simp [go_sem, insC, Ins.cs, e0, eq0, e2, eq2, e4, eq4, e6, eq6, e8, eq8, e10, eq10, e12, eq12, e14, eq14, e16, eq16, e18, eq18, e20, eq20, e22, eq22, e24, eq24, e26, eq26, e28, eq28, e30, eq30, e32, eq32, e34, eq34, e36, eq36, e38, eq38, e40, eq40, e42, eq42, e44, eq44]
  refine hK _ ?_; clear hK K
  refine region_k T_ok (by decide) fun K hK => ?_
  simp [go_sem, insC, Ins.cs, e0, eq0, e2, eq2, e4, eq4, e6, eq6, e8, eq8, e10, eq10, e12, eq12, e14, eq14, e16, eq16, e18, eq18, e20, eq20, e22, eq22, e24, eq24, e26, eq26, e28, eq28, e30, eq30, e32, eq32, e34, eq34, e36, eq36, e38, eq38, e40, eq40, e42, eq42, e44, eq44]
  refine hK _ ?_; clear hK K
  refine region_k T_ok (by decide) fun K hK => ?_
  simp [go_sem, insC, Ins.cs, e0, eq0, e2, eq2, e4, eq4, e6, eq6, e8, eq8, e10, eq10, e12, eq12, e14, eq14, e16, eq16, e18, eq18, e20, eq20, e22, eq22, e24, eq24, e26, eq26, e28, eq28, e30, eq30, e32, eq32, e34, eq34, e36, eq36, e38, eq38, e40, eq40, e42, eq42, e44, eq44, m1, m2, m3, m4, m5, m6, nI, n0]
  refine hK _ ?_; clear hK K
  refine draw_k T_ok (by kernel_rfl) 9 [[], [0], [0, 1], [0, 1, 2], [], [], [5], [5, 6], [5, 6, 7], [0, 1, 2, 3, 4, 5, 6, 7, 8], [0, 1, 2, 3, 4, 5, 6, 7, 8, 9]] [] (by decide) (by decide) (by decide) fun K hK => ?_
  first | dsimp only [List.take, List.drop] | dsimp [List.take, List.drop]
  simp [go_sem, insC, Ins.cs, e0, eq0, e2, eq2, e4, eq4, e6, eq6, e8, eq8, e10, eq10, e12, eq12, e14, eq14, e16, eq16, e18, eq18, e20, eq20, e22, eq22, e24, eq24, e26, eq26, e28, eq28, e30, eq30, e32, eq32, e34, eq34, e36, eq36, e38, eq38, e40, eq40, e42, eq42, e44, eq44, m1, m2, m3, m4, m5, m6, nI, n0]
  refine hK _ ?_; clear hK K
  refine seq_to ⟨156, [(10, .ptr 12 0 0), (6, .ptr k 0 0), (8, .ptr (k + 1) 0 0), (0, .ptr w 0 0), (2, iV (n : Nat)), (4, bV works)], [(k + 1, .rows 2 [.agg [bV read.k, uV read.v]]), (k, .rows 13 [insC x]), (w, .rows 29 [.agg (wkC (.ptr 12 0 0) y)]), (12, .rows 9 [.agg [.sl 1 0 m, .sl 3 0 m, .sl 5 0 m, .sl 7 0 m, .sl 9 0 m, .sl 11 0 m, L, R, Wh]]), (1, .rows 1 (iVs (f.state.set n 1))), (3, .rows 2 (vls f.write)), (5, .rows 1 (iVs f.pair)), (7, .rows 1 (uVs (if 0 < x.dep then f.place.set n (y.hangs (x.dep - 1).toNat) else f.place))), (9, .rows 1 (uVs f.value)), (11, .rows 1 (uVs (f.path.set n y.path)))], k + 60⟩ ?_ ?_
  · skip
    refine region_k T_ok (by decide) fun K hK => ?_
    simp [go_sem, insC, Ins.cs, e0, eq0, e2, eq2, e4, eq4, e6, eq6, e8, eq8, e10, eq10, e12, eq12, e14, eq14, e16, eq16, e18, eq18, e20, eq20, e22, eq22, e24, eq24, e26, eq26, e28, eq28, e30, eq30, e32, eq32, e34, eq34, e36, eq36, e38, eq38, e40, eq40, e42, eq42, e44, eq44]
    refine hK _ ?_; clear hK K
    refine cond_k rfl (fun h => ?_) (fun h => ?_)
    · have hd1 : 0 < x.dep := by simpa using h
      clear h
      obtain ⟨d, hd⟩ : ∃ d : Nat, x.dep = (d : Int) + 1 := ⟨(x.dep - 1).toNat, by omega⟩
      have hd8 : d < 8 := by omega
      have hd0 : (0 : Int) ≤ (d : Nat) := by omega
      have hdI : (d : Int) < 8 := by omega
      have hdp : (0 : Int) < (d : Int) + 1 := by omega
      have hwd : IntKind.i64.wrap (d : Int) = d := wrap_i64 (by omega) (by omega)
      have hd17 : 17 + d + 1 ≤ 29 := by omega
      refine draw_e T_ok (by kernel_rfl) 13 [[], [0], [0, 1], [0, 1, 2], [], [], [], [6], [6, 7], [5], [5, 9], [5, 6, 7, 8, 9, 10], [5, 6, 7, 8, 9, 10, 11], [0, 1, 2, 3, 4, 5, 6, 7, 8, 9, 10, 11, 12], [0, 1, 2, 3, 4, 5, 6, 7, 8, 9, 10, 11, 12, 13]] [] (by decide) (by decide) (by decide) fun K hK => ?_
      first | dsimp only [List.take, List.drop] | dsimp [List.take, List.drop]
      simp [go_sem, insC, Ins.cs, e0, eq0, e2, eq2, e4, eq4, e6, eq6, e8, eq8, e10, eq10, e12, eq12, e14, eq14, e16, eq16, e18, eq18, e20, eq20, e22, eq22, e24, eq24, e26, eq26, e28, eq28, e30, eq30, e32, eq32, e34, eq34, e36, eq36, e38, eq38, e40, eq40, e42, eq42, e44, eq44, m1, m2, m3, m4, m5, m6, nI, n0, hd, hdp, hwd, hd8, hd0, hdI, hd17]
      refine hK _ ?_; clear hK K
      refine Weaker.fzk 1 0 (by omega) ?_ ?_ ?_
      · simp [go_sem, insC, Ins.cs, e0, eq0, e2, eq2, e4, eq4, e6, eq6, e8, eq8, e10, eq10, e12, eq12, e14, eq14, e16, eq16, e18, eq18, e20, eq20, e22, eq22, e24, eq24, e26, eq26, e28, eq28, e30, eq30, e32, eq32, e34, eq34, e36, eq36, e38, eq38, e40, eq40, e42, eq42, e44, eq44, hd, hdp]
      · first | (simp; done) | (simp; omega)
      · simp [go_sem, insC, Ins.cs, e0, eq0, e2, eq2, e4, eq4, e6, eq6, e8, eq8, e10, eq10, e12, eq12, e14, eq14, e16, eq16, e18, eq18, e20, eq20, e22, eq22, e24, eq24, e26, eq26, e28, eq28, e30, eq30, e32, eq32, e34, eq34, e36, eq36, e38, eq38, e40, eq40, e42, eq42, e44, eq44, hd, hdp]
    · have hnd : ¬ 0 < x.dep := by simpa using h
      clear h
      refine tr_skip ?_
      refine Weaker.fzk 1 0 (by omega) ?_ ?_ ?_
      · simp [go_sem, insC, Ins.cs, e0, eq0, e2, eq2, e4, eq4, e6, eq6, e8, eq8, e10, eq10, e12, eq12, e14, eq14, e16, eq16, e18, eq18, e20, eq20, e22, eq22, e24, eq24, e26, eq26, e28, eq28, e30, eq30, e32, eq32, e34, eq34, e36, eq36, e38, eq38, e40, eq40, e42, eq42, e44, eq44, hnd]
      · first | (simp; done) | (simp; omega)
      · simp [go_sem, insC, Ins.cs, e0, eq0, e2, eq2, e4, eq4, e6, eq6, e8, eq8, e10, eq10, e12, eq12, e14, eq14, e16, eq16, e18, eq18, e20, eq20, e22, eq22, e24, eq24, e26, eq26, e28, eq28, e30, eq30, e32, eq32, e34, eq34, e36, eq36, e38, eq38, e40, eq40, e42, eq42, e44, eq44, hnd]
  · skip
    refine region_k T_ok (by decide) fun K hK => ?_
    simp [go_sem, insC, Ins.cs, e0, eq0, e2, eq2, e4, eq4, e6, eq6, e8, eq8, e10, eq10, e12, eq12, e14, eq14, e16, eq16, e18, eq18, e20, eq20, e22, eq22, e24, eq24, e26, eq26, e28, eq28, e30, eq30, e32, eq32, e34, eq34, e36, eq36, e38, eq38, e40, eq40, e42, eq42, e44, eq44]
    refine call_own (arg_fn w _ (by omega) (.ptr 12 0 0) y x.aR x.aN ha) rfl (by simp) (by simp [go_sem, e0, eq0, e2, eq2, e4, eq4, e6, eq6, e8, eq8, e10, eq10, e12, eq12, e14, eq14, e16, eq16, e18, eq18, e20, eq20, e22, eq22, e24, eq24, e26, eq26, e28, eq28, e30, eq30, e32, eq32, e34, eq34, e36, eq36, e38, eq38, e40, eq40, e42, eq42, e44, eq44]) fun k' hk' => ?_
    have a0 : ¬ w = k' := by omega
    have aq0 : ¬ k' = w := by omega
    have a2 : ¬ k' = 0 := by omega
    have aq2 : ¬ 0 = k' := by omega
    have a4 : ¬ k' = 1 := by omega
    have aq4 : ¬ 1 = k' := by omega
    have a6 : ¬ k' = 2 := by omega
    have aq6 : ¬ 2 = k' := by omega
    have a8 : ¬ k' = 3 := by omega
    have aq8 : ¬ 3 = k' := by omega
    have a10 : ¬ k' = 4 := by omega
    have aq10 : ¬ 4 = k' := by omega
    have a12 : ¬ k' = 5 := by omega
    have aq12 : ¬ 5 = k' := by omega
    have a14 : ¬ k' = 6 := by omega
    have aq14 : ¬ 6 = k' := by omega
    have a16 : ¬ k' = 7 := by omega
    have aq16 : ¬ 7 = k' := by omega
    have a18 : ¬ k' = 8 := by omega
    have aq18 : ¬ 8 = k' := by omega
    have a20 : ¬ k' = 9 := by omega
    have aq20 : ¬ 9 = k' := by omega
    have a22 : ¬ k' = 10 := by omega
    have aq22 : ¬ 10 = k' := by omega
    have a24 : ¬ k' = 11 := by omega
    have aq24 : ¬ 11 = k' := by omega
    have a26 : ¬ k' = 12 := by omega
    have aq26 : ¬ 12 = k' := by omega
    have a28 : ¬ k' = k := by omega
    have aq28 : ¬ k = k' := by omega
    have a30 : ¬ k' = k + 1 := by omega
    have aq30 : ¬ k + 1 = k' := by omega
    simp [go_sem, e0, eq0, e2, eq2, e4, eq4, e6, eq6, e8, eq8, e10, eq10, e12, eq12, e14, eq14, e16, eq16, e18, eq18, e20, eq20, e22, eq22, e24, eq24, e26, eq26, e28, eq28, e30, eq30, e32, eq32, e34, eq34, e36, eq36, e38, eq38, e40, eq40, e42, eq42, e44, eq44, a0, aq0, a2, aq2, a4, aq4, a6, aq6, a8, aq8, a10, aq10, a12, aq12, a14, aq14, a16, aq16, a18, aq18, a20, aq20, a22, aq22, a24, aq24, a26, aq26, a28, aq28, a30, aq30]
    refine hK _ ?_; clear hK K
    refine region_k T_ok (by decide) fun K hK => ?_
    simp [go_sem, insC, Ins.cs, e0, eq0, e2, eq2, e4, eq4, e6, eq6, e8, eq8, e10, eq10, e12, eq12, e14, eq14, e16, eq16, e18, eq18, e20, eq20, e22, eq22, e24, eq24, e26, eq26, e28, eq28, e30, eq30, e32, eq32, e34, eq34, e36, eq36, e38, eq38, e40, eq40, e42, eq42, e44, eq44, a0, aq0, a2, aq2, a4, aq4, a6, aq6, a8, aq8, a10, aq10, a12, aq12, a14, aq14, a16, aq16, a18, aq18, a20, aq20, a22, aq22, a24, aq24, a26, aq26, a28, aq28, a30, aq30]
    refine hK _ ?_; clear hK K
    refine tr_block ?_
    refine seq_k fun K1 hK1 => ?_
    refine region_k T_ok (by decide) fun K hK => ?_
    simp [go_sem]
    refine hK _ ?_; clear hK K
    refine cond_k rfl (fun h => ?_) (fun h => ?_)
    · have hop : x.op = 9 := by simpa using h
      clear h
      refine tr_skip ?_
      refine hK1 _ ?_; try clear hK1 K1
      refine cond_k rfl (fun h => ?_) (fun h => ?_)
      · clear h
        refine draw_k T_ok (by kernel_rfl) 6 [[], [], [1], [], [], [4], [0, 1, 2, 3, 4, 5]] [] (by decide) (by decide) (by decide) fun K hK => ?_
        first | dsimp only [List.take, List.drop] | dsimp [List.take, List.drop]
        simp [go_sem, insC, Ins.cs, e0, eq0, e2, eq2, e4, eq4, e6, eq6, e8, eq8, e10, eq10, e12, eq12, e14, eq14, e16, eq16, e18, eq18, e20, eq20, e22, eq22, e24, eq24, e26, eq26, e28, eq28, e30, eq30, e32, eq32, e34, eq34, e36, eq36, e38, eq38, e40, eq40, e42, eq42, e44, eq44, a0, aq0, a2, aq2, a4, aq4, a6, aq6, a8, aq8, a10, aq10, a12, aq12, a14, aq14, a16, aq16, a18, aq18, a20, aq20, a22, aq22, a24, aq24, a26, aq26, a28, aq28, a30, aq30, m1, m2, m3, m4, m5, m6, nI, n0]
        refine call_own (set_fn w _ (by omega) (.ptr 12 0 0) rfl y x.rd h0 h8 read (sl64 1 (n : Nat))) rfl (by simp) (by simp [go_sem, e0, eq0, e2, eq2, e4, eq4, e6, eq6, e8, eq8, e10, eq10, e12, eq12, e14, eq14, e16, eq16, e18, eq18, e20, eq20, e22, eq22, e24, eq24, e26, eq26, e28, eq28, e30, eq30, e32, eq32, e34, eq34, e36, eq36, e38, eq38, e40, eq40, e42, eq42, e44, eq44, a0, aq0, a2, aq2, a4, aq4, a6, aq6, a8, aq8, a10, aq10, a12, aq12, a14, aq14, a16, aq16, a18, aq18, a20, aq20, a22, aq22, a24, aq24, a26, aq26, a28, aq28, a30, aq30]) fun k9 hk9 => ?_
        simp [go_sem, e0, eq0, e2, eq2, e4, eq4, e6, eq6, e8, eq8, e10, eq10, e12, eq12, e14, eq14, e16, eq16, e18, eq18, e20, eq20, e22, eq22, e24, eq24, e26, eq26, e28, eq28, e30, eq30, e32, eq32, e34, eq34, e36, eq36, e38, eq38, e40, eq40, e42, eq42, e44, eq44, a0, aq0, a2, aq2, a4, aq4, a6, aq6, a8, aq8, a10, aq10, a12, aq12, a14, aq14, a16, aq16, a18, aq18, a20, aq20, a22, aq22, a24, aq24, a26, aq26, a28, aq28, a30, aq30]
        refine hK _ ?_; clear hK K
        refine region_k T_ok (by decide) fun K hK => ?_
        simp [go_sem, insC, Ins.cs, e0, eq0, e2, eq2, e4, eq4, e6, eq6, e8, eq8, e10, eq10, e12, eq12, e14, eq14, e16, eq16, e18, eq18, e20, eq20, e22, eq22, e24, eq24, e26, eq26, e28, eq28, e30, eq30, e32, eq32, e34, eq34, e36, eq36, e38, eq38, e40, eq40, e42, eq42, e44, eq44, a0, aq0, a2, aq2, a4, aq4, a6, aq6, a8, aq8, a10, aq10, a12, aq12, a14, aq14, a16, aq16, a18, aq18, a20, aq20, a22, aq22, a24, aq24, a26, aq26, a28, aq28, a30, aq30]
        refine hK _ ?_; clear hK K
        refine cond_k rfl (fun h => ?_) (fun h => ?_)
        · simp [hop] at h
        · clear h
          refine tr_skip ?_
          refine ⟨.inl rfl, ?_⟩
          first | simp [go_sem, memW, memF, memF0, hop, e0, eq0, e2, eq2, e4, eq4, e6, eq6, e8, eq8, e10, eq10, e12, eq12, e14, eq14, e16, eq16, e18, eq18, e20, eq20, e22, eq22, e24, eq24, e26, eq26, e28, eq28, e30, eq30, e32, eq32, e34, eq34, e36, eq36, e38, eq38, e40, eq40, e42, eq42, e44, eq44, a0, aq0, a2, aq2, a4, aq4, a6, aq6, a8, aq8, a10, aq10, a12, aq12, a14, aq14, a16, aq16, a18, aq18, a20, aq20, a22, aq22, a24, aq24, a26, aq26, a28, aq28, a30, aq30] | simp [go_sem, memW, memF, memF0, n9, n13, n10, n11, n12, n14, e0, eq0, e2, eq2, e4, eq4, e6, eq6, e8, eq8, e10, eq10, e12, eq12, e14, eq14, e16, eq16, e18, eq18, e20, eq20, e22, eq22, e24, eq24, e26, eq26, e28, eq28, e30, eq30, e32, eq32, e34, eq34, e36, eq36, e38, eq38, e40, eq40, e42, eq42, e44, eq44, a0, aq0, a2, aq2, a4, aq4, a6, aq6, a8, aq8, a10, aq10, a12, aq12, a14, aq14, a16, aq16, a18, aq18, a20, aq20, a22, aq22, a24, aq24, a26, aq26, a28, aq28, a30, aq30]
      · simp [hop] at h
    · have n9 : ¬ x.op = 9 := by simpa using h
      clear h
      refine region_e T_ok (by decide) fun K hK => ?_
      simp [go_sem]
      refine hK _ ?_; clear hK K
      refine hK1 _ ?_; try clear hK1 K1
      refine cond_k rfl (fun h => ?_) (fun h => ?_)
      · have hop : x.op = 13 := by simpa using h
        clear h
        refine draw_k T_ok (by kernel_rfl) 6 [[], [], [1], [], [], [4], [0, 1, 2, 3, 4, 5]] [] (by decide) (by decide) (by decide) fun K hK => ?_
        first | dsimp only [List.take, List.drop] | dsimp [List.take, List.drop]
        simp [go_sem, insC, Ins.cs, e0, eq0, e2, eq2, e4, eq4, e6, eq6, e8, eq8, e10, eq10, e12, eq12, e14, eq14, e16, eq16, e18, eq18, e20, eq20, e22, eq22, e24, eq24, e26, eq26, e28, eq28, e30, eq30, e32, eq32, e34, eq34, e36, eq36, e38, eq38, e40, eq40, e42, eq42, e44, eq44, a0, aq0, a2, aq2, a4, aq4, a6, aq6, a8, aq8, a10, aq10, a12, aq12, a14, aq14, a16, aq16, a18, aq18, a20, aq20, a22, aq22, a24, aq24, a26, aq26, a28, aq28, a30, aq30, m1, m2, m3, m4, m5, m6, nI, n0]
        refine call_own (set_fn w _ (by omega) (.ptr 12 0 0) rfl y x.rd h0 h8 read (sl64 1 (n : Nat))) rfl (by simp) (by simp [go_sem, e0, eq0, e2, eq2, e4, eq4, e6, eq6, e8, eq8, e10, eq10, e12, eq12, e14, eq14, e16, eq16, e18, eq18, e20, eq20, e22, eq22, e24, eq24, e26, eq26, e28, eq28, e30, eq30, e32, eq32, e34, eq34, e36, eq36, e38, eq38, e40, eq40, e42, eq42, e44, eq44, a0, aq0, a2, aq2, a4, aq4, a6, aq6, a8, aq8, a10, aq10, a12, aq12, a14, aq14, a16, aq16, a18, aq18, a20, aq20, a22, aq22, a24, aq24, a26, aq26, a28, aq28, a30, aq30]) fun k9 hk9 => ?_
        simp [go_sem, e0, eq0, e2, eq2, e4, eq4, e6, eq6, e8, eq8, e10, eq10, e12, eq12, e14, eq14, e16, eq16, e18, eq18, e20, eq20, e22, eq22, e24, eq24, e26, eq26, e28, eq28, e30, eq30, e32, eq32, e34, eq34, e36, eq36, e38, eq38, e40, eq40, e42, eq42, e44, eq44, a0, aq0, a2, aq2, a4, aq4, a6, aq6, a8, aq8, a10, aq10, a12, aq12, a14, aq14, a16, aq16, a18, aq18, a20, aq20, a22, aq22, a24, aq24, a26, aq26, a28, aq28, a30, aq30]
        refine hK _ ?_; clear hK K
        refine region_k T_ok (by decide) fun K hK => ?_
        simp [go_sem, insC, Ins.cs, e0, eq0, e2, eq2, e4, eq4, e6, eq6, e8, eq8, e10, eq10, e12, eq12, e14, eq14, e16, eq16, e18, eq18, e20, eq20, e22, eq22, e24, eq24, e26, eq26, e28, eq28, e30, eq30, e32, eq32, e34, eq34, e36, eq36, e38, eq38, e40, eq40, e42, eq42, e44, eq44, a0, aq0, a2, aq2, a4, aq4, a6, aq6, a8, aq8, a10, aq10, a12, aq12, a14, aq14, a16, aq16, a18, aq18, a20, aq20, a22, aq22, a24, aq24, a26, aq26, a28, aq28, a30, aq30]
        refine hK _ ?_; clear hK K
        refine cond_k rfl (fun h => ?_) (fun h => ?_)
        · clear h
          refine draw_e T_ok (by kernel_rfl) 9 [[], [], [], [2], [], [4], [0, 2, 3], [0, 2, 3, 6], [0, 2, 3, 6, 7], [0, 1, 2, 3, 4, 5, 6, 7, 8], [0, 1, 2, 3, 4, 5, 6, 7, 8, 9], [0, 1, 2, 3, 4, 5, 6, 7, 8, 9, 10]] [(1, 8), (4, 8), (5, 8)] (by decide) (by decide) (by decide) fun K hK => ?_
          first | dsimp only [List.take, List.drop] | dsimp [List.take, List.drop]
          simp [go_sem, insC, Ins.cs, e0, eq0, e2, eq2, e4, eq4, e6, eq6, e8, eq8, e10, eq10, e12, eq12, e14, eq14, e16, eq16, e18, eq18, e20, eq20, e22, eq22, e24, eq24, e26, eq26, e28, eq28, e30, eq30, e32, eq32, e34, eq34, e36, eq36, e38, eq38, e40, eq40, e42, eq42, e44, eq44, a0, aq0, a2, aq2, a4, aq4, a6, aq6, a8, aq8, a10, aq10, a12, aq12, a14, aq14, a16, aq16, a18, aq18, a20, aq20, a22, aq22, a24, aq24, a26, aq26, a28, aq28, a30, aq30, m1, m2, m3, m4, m5, m6, nI, n0, hwn]
          refine ⟨by omega, ?_⟩
          refine hK _ ?_; clear hK K
          refine ⟨.inl rfl, ?_⟩
          first | simp [go_sem, memW, memF, memF0, hop, e0, eq0, e2, eq2, e4, eq4, e6, eq6, e8, eq8, e10, eq10, e12, eq12, e14, eq14, e16, eq16, e18, eq18, e20, eq20, e22, eq22, e24, eq24, e26, eq26, e28, eq28, e30, eq30, e32, eq32, e34, eq34, e36, eq36, e38, eq38, e40, eq40, e42, eq42, e44, eq44, a0, aq0, a2, aq2, a4, aq4, a6, aq6, a8, aq8, a10, aq10, a12, aq12, a14, aq14, a16, aq16, a18, aq18, a20, aq20, a22, aq22, a24, aq24, a26, aq26, a28, aq28, a30, aq30] | simp [go_sem, memW, memF, memF0, n9, n13, n10, n11, n12, n14, e0, eq0, e2, eq2, e4, eq4, e6, eq6, e8, eq8, e10, eq10, e12, eq12, e14, eq14, e16, eq16, e18, eq18, e20, eq20, e22, eq22, e24, eq24, e26, eq26, e28, eq28, e30, eq30, e32, eq32, e34, eq34, e36, eq36, e38, eq38, e40, eq40, e42, eq42, e44, eq44, a0, aq0, a2, aq2, a4, aq4, a6, aq6, a8, aq8, a10, aq10, a12, aq12, a14, aq14, a16, aq16, a18, aq18, a20, aq20, a22, aq22, a24, aq24, a26, aq26, a28, aq28, a30, aq30]
        · simp [hop] at h
      · have n13 : ¬ x.op = 13 := by simpa using h
        clear h
        refine region_k T_ok (by decide) fun K hK => ?_
        simp [go_sem]
        refine hK _ ?_; clear hK K
        refine cond_k rfl (fun h => ?_) (fun h => ?_)
        · have hop : x.op = 10 := by simpa using h
          clear h
          refine draw_e T_ok (by kernel_rfl) 14 [[], [0], [0, 1], [0, 1, 2], [], [], [5], [5, 6], [5, 6, 7], [], [], [], [0, 1, 2, 3, 4, 5, 6, 7, 8, 10], [0, 1, 2, 3, 4, 5, 6, 7, 8, 10, 12], [0, 1, 2, 3, 4, 5, 6, 7, 8, 9, 10, 11, 12, 13], [0, 1, 2, 3, 4, 5, 6, 7, 8, 9, 10, 11, 12, 13, 14]] [(9, 13), (11, 13)] (by decide) (by decide) (by decide) fun K hK => ?_
          first | dsimp only [List.take, List.drop] | dsimp [List.take, List.drop]
          simp [go_sem, insC, Ins.cs, e0, eq0, e2, eq2, e4, eq4, e6, eq6, e8, eq8, e10, eq10, e12, eq12, e14, eq14, e16, eq16, e18, eq18, e20, eq20, e22, eq22, e24, eq24, e26, eq26, e28, eq28, e30, eq30, e32, eq32, e34, eq34, e36, eq36, e38, eq38, e40, eq40, e42, eq42, e44, eq44, a0, aq0, a2, aq2, a4, aq4, a6, aq6, a8, aq8, a10, aq10, a12, aq12, a14, aq14, a16, aq16, a18, aq18, a20, aq20, a22, aq22, a24, aq24, a26, aq26, a28, aq28, a30, aq30, m1, m2, m3, m4, m5, m6, nI, n0]
          refine hK _ ?_; clear hK K
          refine ⟨.inl rfl, ?_⟩
          first | simp [go_sem, memW, memF, memF0, hop, e0, eq0, e2, eq2, e4, eq4, e6, eq6, e8, eq8, e10, eq10, e12, eq12, e14, eq14, e16, eq16, e18, eq18, e20, eq20, e22, eq22, e24, eq24, e26, eq26, e28, eq28, e30, eq30, e32, eq32, e34, eq34, e36, eq36, e38, eq38, e40, eq40, e42, eq42, e44, eq44, a0, aq0, a2, aq2, a4, aq4, a6, aq6, a8, aq8, a10, aq10, a12, aq12, a14, aq14, a16, aq16, a18, aq18, a20, aq20, a22, aq22, a24, aq24, a26, aq26, a28, aq28, a30, aq30] | simp [go_sem, memW, memF, memF0, n9, n13, n10, n11, n12, n14, e0, eq0, e2, eq2, e4, eq4, e6, eq6, e8, eq8, e10, eq10, e12, eq12, e14, eq14, e16, eq16, e18, eq18, e20, eq20, e22, eq22, e24, eq24, e26, eq26, e28, eq28, e30, eq30, e32, eq32, e34, eq34, e36, eq36, e38, eq38, e40, eq40, e42, eq42, e44, eq44, a0, aq0, a2, aq2, a4, aq4, a6, aq6, a8, aq8, a10, aq10, a12, aq12, a14, aq14, a16, aq16, a18, aq18, a20, aq20, a22, aq22, a24, aq24, a26, aq26, a28, aq28, a30, aq30]
        · have n10 : ¬ x.op = 10 := by simpa using h
          clear h
          refine region_k T_ok (by decide) fun K hK => ?_
          simp [go_sem]
          refine hK _ ?_; clear hK K
          refine cond_k rfl (fun h => ?_) (fun h => ?_)
          · have hop : x.op = 11 := by simpa using h
            clear h
            refine draw_k T_ok (by kernel_rfl) 14 [[], [0], [0, 1], [0, 1, 2], [], [], [5], [5, 6], [5, 6, 7], [], [], [], [0, 1, 2, 3, 4, 5, 6, 7, 8, 10], [0, 1, 2, 3, 4, 5, 6, 7, 8, 10, 12], [0, 1, 2, 3, 4, 5, 6, 7, 8, 9, 10, 11, 12, 13], [0, 1, 2, 3, 4, 5, 6, 7, 8, 9, 10, 11, 12, 13, 14]] [(9, 13), (11, 13)] (by decide) (by decide) (by decide) fun K hK => ?_
            first | dsimp only [List.take, List.drop] | dsimp [List.take, List.drop]
            simp [go_sem, insC, Ins.cs, e0, eq0, e2, eq2, e4, eq4, e6, eq6, e8, eq8, e10, eq10, e12, eq12, e14, eq14, e16, eq16, e18, eq18, e20, eq20, e22, eq22, e24, eq24, e26, eq26, e28, eq28, e30, eq30, e32, eq32, e34, eq34, e36, eq36, e38, eq38, e40, eq40, e42, eq42, e44, eq44, a0, aq0, a2, aq2, a4, aq4, a6, aq6, a8, aq8, a10, aq10, a12, aq12, a14, aq14, a16, aq16, a18, aq18, a20, aq20, a22, aq22, a24, aq24, a26, aq26, a28, aq28, a30, aq30, m1, m2, m3, m4, m5, m6, nI, n0]
            refine hK _ ?_; clear hK K
            refine draw_e T_ok (by kernel_rfl) 6 [[], [], [1], [], [], [4], [0, 1, 2, 3, 4, 5]] [] (by decide) (by decide) (by decide) fun K hK => ?_
            first | dsimp only [List.take, List.drop] | dsimp [List.take, List.drop]
            simp [go_sem, insC, Ins.cs, e0, eq0, e2, eq2, e4, eq4, e6, eq6, e8, eq8, e10, eq10, e12, eq12, e14, eq14, e16, eq16, e18, eq18, e20, eq20, e22, eq22, e24, eq24, e26, eq26, e28, eq28, e30, eq30, e32, eq32, e34, eq34, e36, eq36, e38, eq38, e40, eq40, e42, eq42, e44, eq44, a0, aq0, a2, aq2, a4, aq4, a6, aq6, a8, aq8, a10, aq10, a12, aq12, a14, aq14, a16, aq16, a18, aq18, a20, aq20, a22, aq22, a24, aq24, a26, aq26, a28, aq28, a30, aq30, m1, m2, m3, m4, m5, m6, nI, n0]
            refine call_own (set_fn w _ (by omega) (.ptr 12 0 0) rfl y x.rd h0 h8 read (sl64 1 (n : Nat))) rfl (by simp) (by simp [go_sem, e0, eq0, e2, eq2, e4, eq4, e6, eq6, e8, eq8, e10, eq10, e12, eq12, e14, eq14, e16, eq16, e18, eq18, e20, eq20, e22, eq22, e24, eq24, e26, eq26, e28, eq28, e30, eq30, e32, eq32, e34, eq34, e36, eq36, e38, eq38, e40, eq40, e42, eq42, e44, eq44, a0, aq0, a2, aq2, a4, aq4, a6, aq6, a8, aq8, a10, aq10, a12, aq12, a14, aq14, a16, aq16, a18, aq18, a20, aq20, a22, aq22, a24, aq24, a26, aq26, a28, aq28, a30, aq30]) fun k9 hk9 => ?_
            simp [go_sem, e0, eq0, e2, eq2, e4, eq4, e6, eq6, e8, eq8, e10, eq10, e12, eq12, e14, eq14, e16, eq16, e18, eq18, e20, eq20, e22, eq22, e24, eq24, e26, eq26, e28, eq28, e30, eq30, e32, eq32, e34, eq34, e36, eq36, e38, eq38, e40, eq40, e42, eq42, e44, eq44, a0, aq0, a2, aq2, a4, aq4, a6, aq6, a8, aq8, a10, aq10, a12, aq12, a14, aq14, a16, aq16, a18, aq18, a20, aq20, a22, aq22, a24, aq24, a26, aq26, a28, aq28, a30, aq30]
            refine hK _ ?_; clear hK K
            refine ⟨.inl rfl, ?_⟩
            first | simp [go_sem, memW, memF, memF0, hop, e0, eq0, e2, eq2, e4, eq4, e6, eq6, e8, eq8, e10, eq10, e12, eq12, e14, eq14, e16, eq16, e18, eq18, e20, eq20, e22, eq22, e24, eq24, e26, eq26, e28, eq28, e30, eq30, e32, eq32, e34, eq34, e36, eq36, e38, eq38, e40, eq40, e42, eq42, e44, eq44, a0, aq0, a2, aq2, a4, aq4, a6, aq6, a8, aq8, a10, aq10, a12, aq12, a14, aq14, a16, aq16, a18, aq18, a20, aq20, a22, aq22, a24, aq24, a26, aq26, a28, aq28, a30, aq30] | simp [go_sem, memW, memF, memF0, n9, n13, n10, n11, n12, n14, e0, eq0, e2, eq2, e4, eq4, e6, eq6, e8, eq8, e10, eq10, e12, eq12, e14, eq14, e16, eq16, e18, eq18, e20, eq20, e22, eq22, e24, eq24, e26, eq26, e28, eq28, e30, eq30, e32, eq32, e34, eq34, e36, eq36, e38, eq38, e40, eq40, e42, eq42, e44, eq44, a0, aq0, a2, aq2, a4, aq4, a6, aq6, a8, aq8, a10, aq10, a12, aq12, a14, aq14, a16, aq16, a18, aq18, a20, aq20, a22, aq22, a24, aq24, a26, aq26, a28, aq28, a30, aq30]
          · have n11 : ¬ x.op = 11 := by simpa using h
            clear h
            refine region_k T_ok (by decide) fun K hK => ?_
            simp [go_sem]
            refine hK _ ?_; clear hK K
            refine cond_k rfl (fun h => ?_) (fun h => ?_)
            · have hop : x.op = 12 := by simpa using h
              clear h
              refine draw_k T_ok (by kernel_rfl) 17 [[], [0], [0, 1], [0, 1, 2], [], [], [5], [5, 6], [5, 6, 7], [], [], [], [10, 11], [10, 11, 12], [], [0, 1, 2, 3, 4, 5, 6, 7, 8, 10, 11, 12, 13], [0, 1, 2, 3, 4, 5, 6, 7, 8, 10, 11, 12, 13, 15], [0, 1, 2, 3, 4, 5, 6, 7, 8, 9, 10, 11, 12, 13, 14, 15, 16], [0, 1, 2, 3, 4, 5, 6, 7, 8, 9, 10, 11, 12, 13, 14, 15, 16, 17]] [(9, 16), (14, 16)] (by decide) (by decide) (by decide) fun K hK => ?_
              first | dsimp only [List.take, List.drop] | dsimp [List.take, List.drop]
              simp [go_sem, insC, Ins.cs, e0, eq0, e2, eq2, e4, eq4, e6, eq6, e8, eq8, e10, eq10, e12, eq12, e14, eq14, e16, eq16, e18, eq18, e20, eq20, e22, eq22, e24, eq24, e26, eq26, e28, eq28, e30, eq30, e32, eq32, e34, eq34, e36, eq36, e38, eq38, e40, eq40, e42, eq42, e44, eq44, a0, aq0, a2, aq2, a4, aq4, a6, aq6, a8, aq8, a10, aq10, a12, aq12, a14, aq14, a16, aq16, a18, aq18, a20, aq20, a22, aq22, a24, aq24, a26, aq26, a28, aq28, a30, aq30, m1, m2, m3, m4, m5, m6, nI, n0]
              refine callD_of (sum_pf (argW y x.aR x.aN) read) ?_
              simp [go_sem, insC, Ins.cs, e0, eq0, e2, eq2, e4, eq4, e6, eq6, e8, eq8, e10, eq10, e12, eq12, e14, eq14, e16, eq16, e18, eq18, e20, eq20, e22, eq22, e24, eq24, e26, eq26, e28, eq28, e30, eq30, e32, eq32, e34, eq34, e36, eq36, e38, eq38, e40, eq40, e42, eq42, e44, eq44, a0, aq0, a2, aq2, a4, aq4, a6, aq6, a8, aq8, a10, aq10, a12, aq12, a14, aq14, a16, aq16, a18, aq18, a20, aq20, a22, aq22, a24, aq24, a26, aq26, a28, aq28, a30, aq30, m1, m2, m3, m4, m5, m6, nI, n0]
              refine callD_of (clean_pf (vsum (argW y x.aR x.aN) read)) ?_
              simp [go_sem, insC, Ins.cs, e0, eq0, e2, eq2, e4, eq4, e6, eq6, e8, eq8, e10, eq10, e12, eq12, e14, eq14, e16, eq16, e18, eq18, e20, eq20, e22, eq22, e24, eq24, e26, eq26, e28, eq28, e30, eq30, e32, eq32, e34, eq34, e36, eq36, e38, eq38, e40, eq40, e42, eq42, e44, eq44, a0, aq0, a2, aq2, a4, aq4, a6, aq6, a8, aq8, a10, aq10, a12, aq12, a14, aq14, a16, aq16, a18, aq18, a20, aq20, a22, aq22, a24, aq24, a26, aq26, a28, aq28, a30, aq30, m1, m2, m3, m4, m5, m6, nI, n0]
              refine hK _ ?_; clear hK K
              refine draw_e T_ok (by kernel_rfl) 6 [[], [], [1], [], [], [4], [0, 1, 2, 3, 4, 5]] [] (by decide) (by decide) (by decide) fun K hK => ?_
              first | dsimp only [List.take, List.drop] | dsimp [List.take, List.drop]
              simp [go_sem, insC, Ins.cs, e0, eq0, e2, eq2, e4, eq4, e6, eq6, e8, eq8, e10, eq10, e12, eq12, e14, eq14, e16, eq16, e18, eq18, e20, eq20, e22, eq22, e24, eq24, e26, eq26, e28, eq28, e30, eq30, e32, eq32, e34, eq34, e36, eq36, e38, eq38, e40, eq40, e42, eq42, e44, eq44, a0, aq0, a2, aq2, a4, aq4, a6, aq6, a8, aq8, a10, aq10, a12, aq12, a14, aq14, a16, aq16, a18, aq18, a20, aq20, a22, aq22, a24, aq24, a26, aq26, a28, aq28, a30, aq30, m1, m2, m3, m4, m5, m6, nI, n0]
              refine call_own (set_fn w _ (by omega) (.ptr 12 0 0) rfl y x.rd h0 h8 read (sl64 1 (n : Nat))) rfl (by simp) (by simp [go_sem, e0, eq0, e2, eq2, e4, eq4, e6, eq6, e8, eq8, e10, eq10, e12, eq12, e14, eq14, e16, eq16, e18, eq18, e20, eq20, e22, eq22, e24, eq24, e26, eq26, e28, eq28, e30, eq30, e32, eq32, e34, eq34, e36, eq36, e38, eq38, e40, eq40, e42, eq42, e44, eq44, a0, aq0, a2, aq2, a4, aq4, a6, aq6, a8, aq8, a10, aq10, a12, aq12, a14, aq14, a16, aq16, a18, aq18, a20, aq20, a22, aq22, a24, aq24, a26, aq26, a28, aq28, a30, aq30]) fun k9 hk9 => ?_
              simp [go_sem, e0, eq0, e2, eq2, e4, eq4, e6, eq6, e8, eq8, e10, eq10, e12, eq12, e14, eq14, e16, eq16, e18, eq18, e20, eq20, e22, eq22, e24, eq24, e26, eq26, e28, eq28, e30, eq30, e32, eq32, e34, eq34, e36, eq36, e38, eq38, e40, eq40, e42, eq42, e44, eq44, a0, aq0, a2, aq2, a4, aq4, a6, aq6, a8, aq8, a10, aq10, a12, aq12, a14, aq14, a16, aq16, a18, aq18, a20, aq20, a22, aq22, a24, aq24, a26, aq26, a28, aq28, a30, aq30]
              refine hK _ ?_; clear hK K
              refine ⟨.inl rfl, ?_⟩
              first | simp [go_sem, memW, memF, memF0, hop, e0, eq0, e2, eq2, e4, eq4, e6, eq6, e8, eq8, e10, eq10, e12, eq12, e14, eq14, e16, eq16, e18, eq18, e20, eq20, e22, eq22, e24, eq24, e26, eq26, e28, eq28, e30, eq30, e32, eq32, e34, eq34, e36, eq36, e38, eq38, e40, eq40, e42, eq42, e44, eq44, a0, aq0, a2, aq2, a4, aq4, a6, aq6, a8, aq8, a10, aq10, a12, aq12, a14, aq14, a16, aq16, a18, aq18, a20, aq20, a22, aq22, a24, aq24, a26, aq26, a28, aq28, a30, aq30] | simp [go_sem, memW, memF, memF0, n9, n13, n10, n11, n12, n14, e0, eq0, e2, eq2, e4, eq4, e6, eq6, e8, eq8, e10, eq10, e12, eq12, e14, eq14, e16, eq16, e18, eq18, e20, eq20, e22, eq22, e24, eq24, e26, eq26, e28, eq28, e30, eq30, e32, eq32, e34, eq34, e36, eq36, e38, eq38, e40, eq40, e42, eq42, e44, eq44, a0, aq0, a2, aq2, a4, aq4, a6, aq6, a8, aq8, a10, aq10, a12, aq12, a14, aq14, a16, aq16, a18, aq18, a20, aq20, a22, aq22, a24, aq24, a26, aq26, a28, aq28, a30, aq30]
            · have n12 : ¬ x.op = 12 := by simpa using h
              clear h
              refine region_k T_ok (by decide) fun K hK => ?_
              simp [go_sem]
              refine hK _ ?_; clear hK K
              refine cond_k rfl (fun h => ?_) (fun h => ?_)
              · have hop : x.op = 14 := by simpa using h
                clear h
                refine region_e T_ok (by decide) fun K hK => ?_
                simp [go_sem, insC, Ins.cs, e0, eq0, e2, eq2, e4, eq4, e6, eq6, e8, eq8, e10, eq10, e12, eq12, e14, eq14, e16, eq16, e18, eq18, e20, eq20, e22, eq22, e24, eq24, e26, eq26, e28, eq28, e30, eq30, e32, eq32, e34, eq34, e36, eq36, e38, eq38, e40, eq40, e42, eq42, e44, eq44, a0, aq0, a2, aq2, a4, aq4, a6, aq6, a8, aq8, a10, aq10, a12, aq12, a14, aq14, a16, aq16, a18, aq18, a20, aq20, a22, aq22, a24, aq24, a26, aq26, a28, aq28, a30, aq30]
                refine call_own (cond_fn w _ h12 (by omega) m L R Wh y (memF0 y f x n) hfl0 x n hn (argW y x.aR x.aN) (argH y x.aR x.aN) works h0 h8) rfl (by simp [e0, eq0, e2, eq2, e4, eq4, e6, eq6, e8, eq8, e10, eq10, e12, eq12, e14, eq14, e16, eq16, e18, eq18, e20, eq20, e22, eq22, e24, eq24, e26, eq26, e28, eq28, e30, eq30, e32, eq32, e34, eq34, e36, eq36, e38, eq38, e40, eq40, e42, eq42, e44, eq44]) (by simp [go_sem, memF0, e0, eq0, e2, eq2, e4, eq4, e6, eq6, e8, eq8, e10, eq10, e12, eq12, e14, eq14, e16, eq16, e18, eq18, e20, eq20, e22, eq22, e24, eq24, e26, eq26, e28, eq28, e30, eq30, e32, eq32, e34, eq34, e36, eq36, e38, eq38, e40, eq40, e42, eq42, e44, eq44, a0, aq0, a2, aq2, a4, aq4, a6, aq6, a8, aq8, a10, aq10, a12, aq12, a14, aq14, a16, aq16, a18, aq18, a20, aq20, a22, aq22, a24, aq24, a26, aq26, a28, aq28, a30, aq30]) fun k9 hk9 => ?_
                simp [go_sem, e0, eq0, e2, eq2, e4, eq4, e6, eq6, e8, eq8, e10, eq10, e12, eq12, e14, eq14, e16, eq16, e18, eq18, e20, eq20, e22, eq22, e24, eq24, e26, eq26, e28, eq28, e30, eq30, e32, eq32, e34, eq34, e36, eq36, e38, eq38, e40, eq40, e42, eq42, e44, eq44, a0, aq0, a2, aq2, a4, aq4, a6, aq6, a8, aq8, a10, aq10, a12, aq12, a14, aq14, a16, aq16, a18, aq18, a20, aq20, a22, aq22, a24, aq24, a26, aq26, a28, aq28, a30, aq30]
                refine hK _ ?_; clear hK K
                refine ⟨.inl rfl, ?_⟩
                first | simp [go_sem, memW, memF, memF0, hop, e0, eq0, e2, eq2, e4, eq4, e6, eq6, e8, eq8, e10, eq10, e12, eq12, e14, eq14, e16, eq16, e18, eq18, e20, eq20, e22, eq22, e24, eq24, e26, eq26, e28, eq28, e30, eq30, e32, eq32, e34, eq34, e36, eq36, e38, eq38, e40, eq40, e42, eq42, e44, eq44, a0, aq0, a2, aq2, a4, aq4, a6, aq6, a8, aq8, a10, aq10, a12, aq12, a14, aq14, a16, aq16, a18, aq18, a20, aq20, a22, aq22, a24, aq24, a26, aq26, a28, aq28, a30, aq30] | simp [go_sem, memW, memF, memF0, n9, n13, n10, n11, n12, n14, e0, eq0, e2, eq2, e4, eq4, e6, eq6, e8, eq8, e10, eq10, e12, eq12, e14, eq14, e16, eq16, e18, eq18, e20, eq20, e22, eq22, e24, eq24, e26, eq26, e28, eq28, e30, eq30, e32, eq32, e34, eq34, e36, eq36, e38, eq38, e40, eq40, e42, eq42, e44, eq44, a0, aq0, a2, aq2, a4, aq4, a6, aq6, a8, aq8, a10, aq10, a12, aq12, a14, aq14, a16, aq16, a18, aq18, a20, aq20, a22, aq22, a24, aq24, a26, aq26, a28, aq28, a30, aq30]
              · have n14 : ¬ x.op = 14 := by simpa using h
                clear h
                refine tr_skip ?_
                refine ⟨.inl rfl, ?_⟩
                first | simp [go_sem, memW, memF, memF0, hop, e0, eq0, e2, eq2, e4, eq4, e6, eq6, e8, eq8, e10, eq10, e12, eq12, e14, eq14, e16, eq16, e18, eq18, e20, eq20, e22, eq22, e24, eq24, e26, eq26, e28, eq28, e30, eq30, e32, eq32, e34, eq34, e36, eq36, e38, eq38, e40, eq40, e42, eq42, e44, eq44, a0, aq0, a2, aq2, a4, aq4, a6, aq6, a8, aq8, a10, aq10, a12, aq12, a14, aq14, a16, aq16, a18, aq18, a20, aq20, a22, aq22, a24, aq24, a26, aq26, a28, aq28, a30, aq30] | simp [go_sem, memW, memF, memF0, n9, n13, n10, n11, n12, n14, e0, eq0, e2, eq2, e4, eq4, e6, eq6, e8, eq8, e10, eq10, e12, eq12, e14, eq14, e16, eq16, e18, eq18, e20, eq20, e22, eq22, e24, eq24, e26, eq26, e28, eq28, e30, eq30, e32, eq32, e34, eq34, e36, eq36, e38, eq38, e40, eq40, e42, eq42, e44, eq44, a0, aq0, a2, aq2, a4, aq4, a6, aq6, a8, aq8, a10, aq10, a12, aq12, a14, aq14, a16, aq16, a18, aq18, a20, aq20, a22, aq22, a24, aq24, a26, aq26, a28, aq28, a30, aq30]

end Go.Proofs.Ytokdphmnlcmbbaa
