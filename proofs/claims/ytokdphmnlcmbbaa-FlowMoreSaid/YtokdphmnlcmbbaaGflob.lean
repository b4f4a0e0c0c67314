/- Flow: a Sc, and an instruction that has to do with memory. -/
import Derived.Test.YtokdphmnlcmbbaaGfloa
set_option linter.unusedVariables false
set_option linter.unusedSimpArgs false
namespace Go.Proofs.Ytokdphmnlcmbbaa
open Go Go.Sl Go.Proofs.Try

set_option maxHeartbeats 4000000 in
theorem cond_fn (w k : Nat) (h12 : 12 < w) (hw : w < k) (m : Nat) (L R Wh : V) (y : Wk) (f : Fl) (hfl : FlOk m f) (x : Ins) (n : Nat) (hn : n < m) (a : Vl) (on : Int) (works : Bool) (h0 : 0 ≤ x.rd) (h8 : x.rd < 8) : Sl.Fn Try.prog 51 [.ptr w 0 0, insC x, iV (n : Nat), .agg [bV a.k, uV a.v], uV on, bV works] [(w, .rows 29 [.agg (wkC (.ptr 12 0 0) y)]), (12, .rows 9 [.agg [.sl 1 0 m, .sl 3 0 m, .sl 5 0 m, .sl 7 0 m, .sl 9 0 m, .sl 11 0 m, L, R, Wh]]), (1, .rows 1 (iVs f.state)), (3, .rows 2 (vls f.write)), (5, .rows 1 (iVs f.pair)), (7, .rows 1 (uVs f.place)), (9, .rows 1 (uVs f.value)), (11, .rows 1 (uVs f.path))] k fun r H _ => r = .tup [] ∧ H = [(w, .rows 29 [.agg (wkC (.ptr 12 0 0) (condW y x n works))]), (12, .rows 9 [.agg [.sl 1 0 m, .sl 3 0 m, .sl 5 0 m, .sl 7 0 m, .sl 9 0 m, .sl 11 0 m, L, R, Wh]]), (1, .rows 1 (iVs (condF y f x n a on works).state)), (3, .rows 2 (vls (condF y f x n a on works).write)), (5, .rows 1 (iVs (condF y f x n a on works).pair)), (7, .rows 1 (uVs (condF y f x n a on works).place)), (9, .rows 1 (uVs (condF y f x n a on works).value)), (11, .rows 1 (uVs (condF y f x n a on works).path))] := by
  have e0 : ¬ w = 1 := by omega
  have q0 : ¬ 1 = w := by omega
  have e2 : ¬ w = 3 := by omega
  have q2 : ¬ 3 = w := by omega
  have e4 : ¬ w = 5 := by omega
  have q4 : ¬ 5 = w := by omega
  have e6 : ¬ w = 7 := by omega
  have q6 : ¬ 7 = w := by omega
  have e8 : ¬ w = 9 := by omega
  have q8 : ¬ 9 = w := by omega
  have e10 : ¬ w = 11 := by omega
  have q10 : ¬ 11 = w := by omega
  have e12 : ¬ w = 12 := by omega
  have q12 : ¬ 12 = w := by omega
  have e14 : ¬ w = k := by omega
  have q14 : ¬ k = w := by omega
  have e16 : ¬ w = k + 1 := by omega
  have q16 : ¬ k + 1 = w := by omega
  have e18 : ¬ w = k + 2 := by omega
  have q18 : ¬ k + 2 = w := by omega
  have e20 : ¬ k = 0 := by omega
  have q20 : ¬ 0 = k := by omega
  have e22 : ¬ k = 1 := by omega
  have q22 : ¬ 1 = k := by omega
  have e24 : ¬ k = 2 := by omega
  have q24 : ¬ 2 = k := by omega
  have e26 : ¬ k = 3 := by omega
  have q26 : ¬ 3 = k := by omega
  have e28 : ¬ k = 4 := by omega
  have q28 : ¬ 4 = k := by omega
  have e30 : ¬ k = 5 := by omega
  have q30 : ¬ 5 = k := by omega
  have e32 : ¬ k = 6 := by omega
  have q32 : ¬ 6 = k := by omega
  have e34 : ¬ k = 7 := by omega
  have q34 : ¬ 7 = k := by omega
  have e36 : ¬ k = 8 := by omega
  have q36 : ¬ 8 = k := by omega
  have e38 : ¬ k = 9 := by omega
  have q38 : ¬ 9 = k := by omega
  have e40 : ¬ k = 10 := by omega
  have q40 : ¬ 10 = k := by omega
  have e42 : ¬ k = 11 := by omega
  have q42 : ¬ 11 = k := by omega
  have e44 : ¬ k = 12 := by omega
  have q44 : ¬ 12 = k := by omega
  refine Sl.Fn.keep (by simp [e0, q0, e2, q2, e4, q4, e6, q6, e8, q8, e10, q10, e12, q12, e14, q14, e16, q16, e18, q18, e20, q20, e22, q22, e24, q24, e26, q26, e28, q28, e30, q30, e32, q32, e34, q34, e36, q36, e38, q38, e40, q40, e42, q42, e44, q44]) ?_
  obtain ⟨l1, l2, l3, l4, l5, l6⟩ := hfl
  have m1 : n < f.state.length := by omega
  have m2 : n < f.write.length := by omega
  have m3 : n < f.pair.length := by omega
  have m4 : n < f.place.length := by omega
  have m5 : n < f.value.length := by omega
  have m6 : n < f.path.length := by omega
  have nI : (n : Int) < (m : Nat) := by omega
  have n0 : (0 : Int) ≤ (n : Nat) := by omega
  refine fn_in T_ok func51 rfl rfl ntmps51 rfl (by simp) ?_
  refine region_k T_ok (by decide) fun K hK => ?_
  simp [go_sem, insC, Ins.cs, e0, q0, e2, q2, e4, q4, e6, q6, e8, q8, e10, q10, e12, q12, e14, q14, e16, q16, e18, q18, e20, q20, e22, q22, e24, q24, e26, q26, e28, q28, e30, q30, e32, q32, e34, q34, e36, q36, e38, q38, e40, q40, e42, q42, e44, q44]
  refine hK _ ?_; clear hK K
  refine region_k T_ok (by decide) fun K hK => ?_
  simp [go_sem, insC, Ins.cs, e0, q0, e2, q2, e4, q4, e6, q6, e8, q8, e10, q10, e12, q12, e14, q14, e16, q16, e18, q18, e20, q20, e22, q22, e24, q24, e26, q26, e28, q28, e30, q30, e32, q32, e34, q34, e36, q36, e38, q38, e40, q40, e42, q42, e44, q44]
  refine hK _ ?_; clear hK K
  refine seq_to ⟨90, [(12, .ptr 12 0 0), (7, .ptr k 0 0), (9, .ptr (k + 1) 0 0), (0, .ptr w 0 0), (2, iV (n : Nat)), (4, uV on), (5, bV works)], [(k + 1, .rows 2 [.agg [bV a.k, uV a.v]]), (k, .rows 13 [insC x]), (w, .rows 29 [.agg (wkC (.ptr 12 0 0) y)]), (12, .rows 9 [.agg [.sl 1 0 m, .sl 3 0 m, .sl 5 0 m, .sl 7 0 m, .sl 9 0 m, .sl 11 0 m, L, R, Wh]]), (1, .rows 1 (iVs f.state)), (3, .rows 2 (vls f.write)), (5, .rows 1 (iVs (if 0 < y.lr ∧ y.lrLoc = x.loc then f.pair.set n y.lr else f.pair))), (7, .rows 1 (uVs f.place)), (9, .rows 1 (uVs f.value)), (11, .rows 1 (uVs f.path))], k + 30⟩ ?_ ?_
  · skip
    refine draw_to T_ok (by kernel_rfl) 12 [[], [0], [0, 1], [0, 1, 2], [0, 1, 2, 3], [0, 1, 2, 3, 4], [0, 1, 2, 3, 4, 5], [0, 1, 2, 3, 4, 5, 6], [0, 1, 2, 3, 4, 5, 6, 7], [0, 1, 2, 3, 4, 5, 6, 7, 8], [0, 1, 2, 3, 4, 5], [0, 1, 2, 3, 4, 5, 10], [0, 1, 2, 3, 4, 5, 6, 7, 8, 9, 10, 11], [0, 1, 2, 3, 4, 5, 6, 7, 8, 9, 10, 11, 12]] [] (by decide) (by decide) (by decide) ⟨90, [(12, .ptr 12 0 0), (7, .ptr k 0 0), (9, .ptr (k + 1) 0 0), (0, .ptr w 0 0), (2, iV (n : Nat)), (4, uV on), (5, bV works), (30, bV (decide (0 < y.lr ∧ y.lrLoc = x.loc)))], [(k + 1, .rows 2 [.agg [bV a.k, uV a.v]]), (k, .rows 13 [insC x]), (w, .rows 29 [.agg (wkC (.ptr 12 0 0) y)]), (12, .rows 9 [.agg [.sl 1 0 m, .sl 3 0 m, .sl 5 0 m, .sl 7 0 m, .sl 9 0 m, .sl 11 0 m, L, R, Wh]]), (1, .rows 1 (iVs f.state)), (3, .rows 2 (vls f.write)), (5, .rows 1 (iVs f.pair)), (7, .rows 1 (uVs f.place)), (9, .rows 1 (uVs f.value)), (11, .rows 1 (uVs f.path))], k + 14⟩ ?_ ?_
    · first | dsimp only [List.take, List.drop] | dsimp [List.take, List.drop]
      by_cases c1 : 0 < y.lr
      · simp [go_sem, c1, insC, Ins.cs, e0, q0, e2, q2, e4, q4, e6, q6, e8, q8, e10, q10, e12, q12, e14, q14, e16, q16, e18, q18, e20, q20, e22, q22, e24, q24, e26, q26, e28, q28, e30, q30, e32, q32, e34, q34, e36, q36, e38, q38, e40, q40, e42, q42, e44, q44]
        refine Weaker.fz 1 0 ?_ ?_ ?_
        · simp [go_sem, c1, insC, Ins.cs, e0, q0, e2, q2, e4, q4, e6, q6, e8, q8, e10, q10, e12, q12, e14, q14, e16, q16, e18, q18, e20, q20, e22, q22, e24, q24, e26, q26, e28, q28, e30, q30, e32, q32, e34, q34, e36, q36, e38, q38, e40, q40, e42, q42, e44, q44, int_beq]
        · first | (simp; done) | (simp; omega)
        · simp [go_sem, c1, insC, Ins.cs, e0, q0, e2, q2, e4, q4, e6, q6, e8, q8, e10, q10, e12, q12, e14, q14, e16, q16, e18, q18, e20, q20, e22, q22, e24, q24, e26, q26, e28, q28, e30, q30, e32, q32, e34, q34, e36, q36, e38, q38, e40, q40, e42, q42, e44, q44, int_beq]
      · simp [go_sem, c1, insC, Ins.cs, e0, q0, e2, q2, e4, q4, e6, q6, e8, q8, e10, q10, e12, q12, e14, q14, e16, q16, e18, q18, e20, q20, e22, q22, e24, q24, e26, q26, e28, q28, e30, q30, e32, q32, e34, q34, e36, q36, e38, q38, e40, q40, e42, q42, e44, q44]
        refine Weaker.fz 1 0 ?_ ?_ ?_
        · simp [go_sem, c1, insC, Ins.cs, e0, q0, e2, q2, e4, q4, e6, q6, e8, q8, e10, q10, e12, q12, e14, q14, e16, q16, e18, q18, e20, q20, e22, q22, e24, q24, e26, q26, e28, q28, e30, q30, e32, q32, e34, q34, e36, q36, e38, q38, e40, q40, e42, q42, e44, q44, int_beq]
        · first | (simp; done) | (simp; omega)
        · simp [go_sem, c1, insC, Ins.cs, e0, q0, e2, q2, e4, q4, e6, q6, e8, q8, e10, q10, e12, q12, e14, q14, e16, q16, e18, q18, e20, q20, e22, q22, e24, q24, e26, q26, e28, q28, e30, q30, e32, q32, e34, q34, e36, q36, e38, q38, e40, q40, e42, q42, e44, q44, int_beq]
    · skip
      refine cond_k rfl (fun h => ?_) (fun h => ?_)
      · simp at h
        obtain ⟨hA, hB⟩ := h
        refine draw_e T_ok (by kernel_rfl) 9 [[], [0], [0, 1], [0, 1, 2], [], [], [5], [5, 6], [5, 6, 7], [0, 1, 2, 3, 4, 5, 6, 7, 8], [0, 1, 2, 3, 4, 5, 6, 7, 8, 9]] [] (by decide) (by decide) (by decide) fun K hK => ?_
        first | dsimp only [List.take, List.drop] | dsimp [List.take, List.drop]
        simp [go_sem, insC, Ins.cs, e0, q0, e2, q2, e4, q4, e6, q6, e8, q8, e10, q10, e12, q12, e14, q14, e16, q16, e18, q18, e20, q20, e22, q22, e24, q24, e26, q26, e28, q28, e30, q30, e32, q32, e34, q34, e36, q36, e38, q38, e40, q40, e42, q42, e44, q44, m1, m2, m3, m4, m5, m6, nI, n0]
        refine hK _ ?_; clear hK K
        refine Weaker.fzk 1 0 (by omega) ?_ ?_ ?_
        · simp [go_sem, insC, Ins.cs, e0, q0, e2, q2, e4, q4, e6, q6, e8, q8, e10, q10, e12, q12, e14, q14, e16, q16, e18, q18, e20, q20, e22, q22, e24, q24, e26, q26, e28, q28, e30, q30, e32, q32, e34, q34, e36, q36, e38, q38, e40, q40, e42, q42, e44, q44, hA, hB]
        · first | (simp; done) | (simp; omega)
        · simp [go_sem, insC, Ins.cs, e0, q0, e2, q2, e4, q4, e6, q6, e8, q8, e10, q10, e12, q12, e14, q14, e16, q16, e18, q18, e20, q20, e22, q22, e24, q24, e26, q26, e28, q28, e30, q30, e32, q32, e34, q34, e36, q36, e38, q38, e40, q40, e42, q42, e44, q44, hA, hB]
      · have hN : ¬ (0 < y.lr ∧ y.lrLoc = x.loc) := by simpa using h
        clear h
        refine tr_skip ?_
        refine Weaker.fzk 1 0 (by omega) ?_ ?_ ?_
        · simp [go_sem, insC, Ins.cs, e0, q0, e2, q2, e4, q4, e6, q6, e8, q8, e10, q10, e12, q12, e14, q14, e16, q16, e18, q18, e20, q20, e22, q22, e24, q24, e26, q26, e28, q28, e30, q30, e32, q32, e34, q34, e36, q36, e38, q38, e40, q40, e42, q42, e44, q44, hN]
        · first | (simp; done) | (simp; omega)
        · simp [go_sem, insC, Ins.cs, e0, q0, e2, q2, e4, q4, e6, q6, e8, q8, e10, q10, e12, q12, e14, q14, e16, q16, e18, q18, e20, q20, e22, q22, e24, q24, e26, q26, e28, q28, e30, q30, e32, q32, e34, q34, e36, q36, e38, q38, e40, q40, e42, q42, e44, q44, hN]
  · skip
    refine region_k T_ok (by decide) fun K hK => ?_
    simp [go_sem, insC, Ins.cs, e0, q0, e2, q2, e4, q4, e6, q6, e8, q8, e10, q10, e12, q12, e14, q14, e16, q16, e18, q18, e20, q20, e22, q22, e24, q24, e26, q26, e28, q28, e30, q30, e32, q32, e34, q34, e36, q36, e38, q38, e40, q40, e42, q42, e44, q44]
    refine hK _ ?_; clear hK K
    refine seq_k fun K1 hK1 => ?_
    refine region_k T_ok (by decide) fun K hK => ?_
    simp [go_sem]
    refine hK _ ?_; clear hK K
    refine cond_k rfl (fun h => ?_) (fun h => ?_)
    · have hwk : works = false := by simpa using h
      refine draw_k T_ok (by kernel_rfl) 19 [[], [0], [0, 1], [0, 1, 2], [], [], [5], [5, 6], [5, 6, 7], [], [], [10], [10, 11], [10, 11, 12], [], [0, 1, 2, 3, 4, 5, 6, 7, 8, 10, 11, 12, 13], [0, 1, 2, 3, 4, 5, 6, 7, 8, 10, 11, 12, 13, 15], [0, 1, 2, 3, 4, 5, 6, 7, 8, 9, 10, 11, 12, 13, 15, 16], [0, 1, 2, 3, 4, 5, 6, 7, 8, 9, 10, 11, 12, 13, 15, 16, 17], [0, 1, 2, 3, 4, 5, 6, 7, 8, 9, 10, 11, 12, 13, 14, 15, 16, 17, 18], [0, 1, 2, 3, 4, 5, 6, 7, 8, 9, 10, 11, 12, 13, 14, 15, 16, 17, 18, 19]] [(9, 16), (14, 16), (14, 18)] (by decide) (by decide) (by decide) fun K hK => ?_
      first | dsimp only [List.take, List.drop] | dsimp [List.take, List.drop]
      simp [go_sem, insC, Ins.cs, e0, q0, e2, q2, e4, q4, e6, q6, e8, q8, e10, q10, e12, q12, e14, q14, e16, q16, e18, q18, e20, q20, e22, q22, e24, q24, e26, q26, e28, q28, e30, q30, e32, q32, e34, q34, e36, q36, e38, q38, e40, q40, e42, q42, e44, q44, m1, m2, m3, m4, m5, m6, nI, n0]
      refine hK _ ?_; clear hK K
      refine region_k T_ok (by decide) fun K hK => ?_
      simp [go_sem, insC, Ins.cs, e0, q0, e2, q2, e4, q4, e6, q6, e8, q8, e10, q10, e12, q12, e14, q14, e16, q16, e18, q18, e20, q20, e22, q22, e24, q24, e26, q26, e28, q28, e30, q30, e32, q32, e34, q34, e36, q36, e38, q38, e40, q40, e42, q42, e44, q44]
      refine call_own (set_fn w _ (by omega) (.ptr 12 0 0) rfl { y with lr := 0 } x.rd h0 h8 ⟨true, 1⟩ 0) rfl (by simp) (by simp [go_sem, e0, q0, e2, q2, e4, q4, e6, q6, e8, q8, e10, q10, e12, q12, e14, q14, e16, q16, e18, q18, e20, q20, e22, q22, e24, q24, e26, q26, e28, q28, e30, q30, e32, q32, e34, q34, e36, q36, e38, q38, e40, q40, e42, q42, e44, q44]) fun k' hk' => ?_
      simp [go_sem, e0, q0, e2, q2, e4, q4, e6, q6, e8, q8, e10, q10, e12, q12, e14, q14, e16, q16, e18, q18, e20, q20, e22, q22, e24, q24, e26, q26, e28, q28, e30, q30, e32, q32, e34, q34, e36, q36, e38, q38, e40, q40, e42, q42, e44, q44]
      refine hK _ ?_; clear hK K
      refine tr_ret ⟨.inr rfl, ?_⟩
      simp [go_sem, condW, condF, hwk, e0, q0, e2, q2, e4, q4, e6, q6, e8, q8, e10, q10, e12, q12, e14, q14, e16, q16, e18, q18, e20, q20, e22, q22, e24, q24, e26, q26, e28, q28, e30, q30, e32, q32, e34, q34, e36, q36, e38, q38, e40, q40, e42, q42, e44, q44]
    · have hwk : works = true := by simpa using h
      refine tr_skip ?_
      refine hK1 _ ?_; try clear hK1 K1
      refine draw_k T_ok (by kernel_rfl) 14 [[], [0], [0, 1], [0, 1, 2], [], [], [5], [5, 6], [5, 6, 7], [], [], [], [0, 1, 2, 3, 4, 5, 6, 7, 8, 10], [0, 1, 2, 3, 4, 5, 6, 7, 8, 10, 12], [0, 1, 2, 3, 4, 5, 6, 7, 8, 9, 10, 11, 12, 13], [0, 1, 2, 3, 4, 5, 6, 7, 8, 9, 10, 11, 12, 13, 14]] [(9, 13), (11, 13)] (by decide) (by decide) (by decide) fun K hK => ?_
      first | dsimp only [List.take, List.drop] | dsimp [List.take, List.drop]
      simp [go_sem, insC, Ins.cs, e0, q0, e2, q2, e4, q4, e6, q6, e8, q8, e10, q10, e12, q12, e14, q14, e16, q16, e18, q18, e20, q20, e22, q22, e24, q24, e26, q26, e28, q28, e30, q30, e32, q32, e34, q34, e36, q36, e38, q38, e40, q40, e42, q42, e44, q44, m1, m2, m3, m4, m5, m6, nI, n0]
      refine hK _ ?_; clear hK K
      refine draw_e T_ok (by kernel_rfl) 6 [[], [], [1], [], [], [4], [0, 1, 2, 3, 4, 5]] [] (by decide) (by decide) (by decide) fun K hK => ?_
      first | dsimp only [List.take, List.drop] | dsimp [List.take, List.drop]
      simp [go_sem, insC, Ins.cs, e0, q0, e2, q2, e4, q4, e6, q6, e8, q8, e10, q10, e12, q12, e14, q14, e16, q16, e18, q18, e20, q20, e22, q22, e24, q24, e26, q26, e28, q28, e30, q30, e32, q32, e34, q34, e36, q36, e38, q38, e40, q40, e42, q42, e44, q44, m1, m2, m3, m4, m5, m6, nI, n0]
      refine call_own (set_fn w _ (by omega) (.ptr 12 0 0) rfl { y with lr := 0 } x.rd h0 h8 ⟨true, 0⟩ (sl64 1 (n : Nat))) rfl (by simp) (by simp [go_sem, e0, q0, e2, q2, e4, q4, e6, q6, e8, q8, e10, q10, e12, q12, e14, q14, e16, q16, e18, q18, e20, q20, e22, q22, e24, q24, e26, q26, e28, q28, e30, q30, e32, q32, e34, q34, e36, q36, e38, q38, e40, q40, e42, q42, e44, q44]) fun k' hk' => ?_
      simp [go_sem, e0, q0, e2, q2, e4, q4, e6, q6, e8, q8, e10, q10, e12, q12, e14, q14, e16, q16, e18, q18, e20, q20, e22, q22, e24, q24, e26, q26, e28, q28, e30, q30, e32, q32, e34, q34, e36, q36, e38, q38, e40, q40, e42, q42, e44, q44]
      refine hK _ ?_; clear hK K
      refine ⟨.inl rfl, ?_⟩
      simp [go_sem, condW, condF, hwk, e0, q0, e2, q2, e4, q4, e6, q6, e8, q8, e10, q10, e12, q12, e14, q14, e16, q16, e18, q18, e20, q20, e22, q22, e24, q24, e26, q26, e28, q28, e30, q30, e32, q32, e34, q34, e36, q36, e38, q38, e40, q40, e42, q42, e44, q44]

end Go.Proofs.Ytokdphmnlcmbbaa
