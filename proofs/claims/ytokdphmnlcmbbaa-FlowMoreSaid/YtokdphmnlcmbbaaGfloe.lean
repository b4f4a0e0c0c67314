/- Flow: a thread. -/
import Derived.Test.YtokdphmnlcmbbaaGflod
set_option linter.unusedVariables false
set_option linter.unusedSimpArgs false
namespace Go.Proofs.Ytokdphmnlcmbbaa
open Go Go.Sl Go.Proofs.Try

set_option maxRecDepth 20000 in
set_option maxHeartbeats 16000000 in
theorem thread_fn (w k : Nat) (h12 : 12 < w) (hw : w < k) (m : Nat) (L R Wh : V) (y : Wk) (f : Fl) (hfl : FlOk m f) (l : List Ins) (hl : ∀ x ∈ l, InsOk x) (hll : l.length ≤ 9223372036854775806) (n : Nat) (hn : n + memL l ≤ m) (hm : m ≤ 9223372036854775806) (reads : List Vl) (works : List Bool) (hrl : m ≤ reads.length) (hwl : m ≤ works.length) : Sl.Fn Try.prog 24 [.ptr w 0 0, .ro 13 (inss l), iV (n : Nat), .ro 2 (vls reads), .ro 1 (bVs works)] [(w, .rows 29 [.agg (wkC (.ptr 12 0 0) y)]), (12, .rows 9 [.agg [.sl 1 0 m, .sl 3 0 m, .sl 5 0 m, .sl 7 0 m, .sl 9 0 m, .sl 11 0 m, L, R, Wh]]), (1, .rows 1 (iVs f.state)), (3, .rows 2 (vls f.write)), (5, .rows 1 (iVs f.pair)), (7, .rows 1 (uVs f.place)), (9, .rows 1 (uVs f.value)), (11, .rows 1 (uVs f.path))] k fun r H _ => r = bV (runT reads works 0 l ⟨y, f, 0, n⟩).2 ∧ H = [(w, .rows 29 [.agg (wkC (.ptr 12 0 0) (runT reads works 0 l ⟨y, f, 0, n⟩).1.w)]), (12, .rows 9 [.agg [.sl 1 0 m, .sl 3 0 m, .sl 5 0 m, .sl 7 0 m, .sl 9 0 m, .sl 11 0 m, L, R, Wh]]), (1, .rows 1 (iVs (runT reads works 0 l ⟨y, f, 0, n⟩).1.f.state)), (3, .rows 2 (vls (runT reads works 0 l ⟨y, f, 0, n⟩).1.f.write)), (5, .rows 1 (iVs (runT reads works 0 l ⟨y, f, 0, n⟩).1.f.pair)), (7, .rows 1 (uVs (runT reads works 0 l ⟨y, f, 0, n⟩).1.f.place)), (9, .rows 1 (uVs (runT reads works 0 l ⟨y, f, 0, n⟩).1.f.value)), (11, .rows 1 (uVs (runT reads works 0 l ⟨y, f, 0, n⟩).1.f.path))] := by
  have e0 : ¬ w = 1 := by omega
  have eq0 : ¬ 1 = w := by omega
  have e2 : ¬ w = 3 := by omega
  have eq2 : ¬ 3 = w := by omega
  have e4 : ¬ w = 5 := by omega
  have eq4 : ¬ 5 = w := by omega
  have e6 : ¬ w = 7 := by omega
  have eq6 : ¬ 7 = w := by omega
  have e8 : ¬ w = 9 := by omega
  have eq8 : ¬ 9 = w := by omega
  have e10 : ¬ w = 11 := by omega
  have eq10 : ¬ 11 = w := by omega
  have e12 : ¬ w = 12 := by omega
  have eq12 : ¬ 12 = w := by omega
  have e14 : ¬ w = k := by omega
  have eq14 : ¬ k = w := by omega
  have e16 : ¬ w = k + 1 := by omega
  have eq16 : ¬ k + 1 = w := by omega
  have e18 : ¬ w = k + 2 := by omega
  have eq18 : ¬ k + 2 = w := by omega
  have e20 : ¬ k = 0 := by omega
  have eq20 : ¬ 0 = k := by omega
  have e22 : ¬ k = 1 := by omega
  have eq22 : ¬ 1 = k := by omega
  have e24 : ¬ k = 2 := by omega
  have eq24 : ¬ 2 = k := by omega
  have e26 : ¬ k = 3 := by omega
  have eq26 : ¬ 3 = k := by omega
  have e28 : ¬ k = 4 := by omega
  have eq28 : ¬ 4 = k := by omega
  have e30 : ¬ k = 5 := by omega
  have eq30 : ¬ 5 = k := by omega
  have e32 : ¬ k = 6 := by omega
  have eq32 : ¬ 6 = k := by omega
  have e34 : ¬ k = 7 := by omega
  have eq34 : ¬ 7 = k := by omega
  have e36 : ¬ k = 8 := by omega
  have eq36 : ¬ 8 = k := by omega
  have e38 : ¬ k = 9 := by omega
  have eq38 : ¬ 9 = k := by omega
  have e40 : ¬ k = 10 := by omega
  have eq40 : ¬ 10 = k := by omega
  have e42 : ¬ k = 11 := by omega
  have eq42 : ¬ 11 = k := by omega
  have e44 : ¬ k = 12 := by omega
  have eq44 : ¬ 12 = k := by omega
  refine Sl.Fn.keep (by simp [e0, eq0, e2, eq2, e4, eq4, e6, eq6, e8, eq8, e10, eq10, e12, eq12, e14, eq14, e16, eq16, e18, eq18, e20, eq20, e22, eq22, e24, eq24, e26, eq26, e28, eq28, e30, eq30, e32, eq32, e34, eq34, e36, eq36, e38, eq38, e40, eq40, e42, eq42, e44, eq44]) ?_
  refine fn_in T_ok func24 rfl rfl ntmps24 rfl (by simp) ?_
  refine region_k T_ok (by decide) fun K hK => ?_
  simp [go_sem]
  refine hK _ ?_; clear hK K
  refine region_k T_ok (by decide) fun K hK => ?_
  simp [go_sem]
  refine hK _ ?_; clear hK K
  refine seq_k fun K1 hK1 => ?_
  refine region_k T_ok (by decide) fun K hK => ?_
  simp [go_sem]
  refine hK _ ?_; clear hK K
  refine tr_block ?_
  refine loop_p (α := Nat × Ts × Nat) (fun a => ⟨88, [(0, .ptr w 0 0), (3, .ro 2 (vls reads)), (4, .ro 1 (bVs works)), (16, .ro 13 (inss l)), (17, iV (l.length : Nat)), (18, iV (a.1 : Nat)), (11, iV a.2.1.out), (2, iV (a.2.1.k : Nat))], [(w, .rows 29 [.agg (wkC (.ptr 12 0 0) a.2.1.w)]), (12, .rows 9 [.agg [.sl 1 0 m, .sl 3 0 m, .sl 5 0 m, .sl 7 0 m, .sl 9 0 m, .sl 11 0 m, L, R, Wh]]), (1, .rows 1 (iVs a.2.1.f.state)), (3, .rows 2 (vls a.2.1.f.write)), (5, .rows 1 (iVs a.2.1.f.pair)), (7, .rows 1 (uVs a.2.1.f.place)), (9, .rows 1 (uVs a.2.1.f.value)), (11, .rows 1 (uVs a.2.1.f.path))], a.2.2⟩) (fun a => a.1 ≤ l.length ∧ runT reads works a.1 (l.drop a.1) a.2.1 = (runT reads works 0 l ⟨y, f, 0, n⟩) ∧ FlOk m a.2.1.f ∧ a.2.1.k + memL (l.drop a.1) ≤ m ∧ a.2.1.out ≤ 9223372036854775807 ∧ w < a.2.2) (fun a => l.length - a.1) (0, ⟨y, f, 0, n⟩, k) ?_ ?_ ?_
  · exact ⟨Nat.zero_le _, by rw [List.drop_zero], hfl, by rw [List.drop_zero]; exact hn, by dsimp only; omega, hw⟩
  · refine Weaker.fz 1 0 ?_ ?_ ?_
    · simp [go_sem, e0, eq0, e2, eq2, e4, eq4, e6, eq6, e8, eq8, e10, eq10, e12, eq12, e14, eq14, e16, eq16, e18, eq18, e20, eq20, e22, eq22, e24, eq24, e26, eq26, e28, eq28, e30, eq30, e32, eq32, e34, eq34, e36, eq36, e38, eq38, e40, eq40, e42, eq42, e44, eq44]
    · first | (simp; done) | (simp; omega)
    · simp [go_sem, e0, eq0, e2, eq2, e4, eq4, e6, eq6, e8, eq8, e10, eq10, e12, eq12, e14, eq14, e16, eq16, e18, eq18, e20, eq20, e22, eq22, e24, eq24, e26, eq26, e28, eq28, e30, eq30, e32, eq32, e34, eq34, e36, eq36, e38, eq38, e40, eq40, e42, eq42, e44, eq44]
  rintro ⟨i, s, j⟩ ⟨hi, hrun, hfl, hkm, hout, hwj⟩
  dsimp only at hi hrun hfl hkm hout hwj ⊢
  refine region_k T_ok (by decide) fun K hK => ?_
  simp [go_sem]
  refine hK _ ?_; clear hK K
  refine seq_k fun K2 hK2 => ?_
  refine cond_k rfl (fun h => ?_) (fun h => ?_)
  · simp at h
    have hI := h
    clear h
    have h' : i < l.length := by omega
    obtain ⟨x, hx, hx'⟩ := getAt h'
    have hi0 : (0 : Int) ≤ (i : Nat) := by omega
    have hw1 : IntKind.i64.wrap ((i : Nat) + 1) = (i : Nat) + 1 := wrap_i64 (by omega) (by omega)
    have hok := hl x (List.mem_of_getElem? hx)
    have hD := memL_drop hx
    have hKk := stepT_k (reads := reads) (works := works) (s := s) hx
    have hO2 := stepT_out (reads := reads) (works := works) (i := i) hout hok
    have hF2 := stepT_ok (reads := reads) (works := works) (i := i) (x := x) hfl
    have e0 : ¬ w = 1 := by omega
    have eq0 : ¬ 1 = w := by omega
    have e2 : ¬ w = 3 := by omega
    have eq2 : ¬ 3 = w := by omega
    have e4 : ¬ w = 5 := by omega
    have eq4 : ¬ 5 = w := by omega
    have e6 : ¬ w = 7 := by omega
    have eq6 : ¬ 7 = w := by omega
    have e8 : ¬ w = 9 := by omega
    have eq8 : ¬ 9 = w := by omega
    have e10 : ¬ w = 11 := by omega
    have eq10 : ¬ 11 = w := by omega
    have e12 : ¬ w = 12 := by omega
    have eq12 : ¬ 12 = w := by omega
    have e14 : ¬ w = j := by omega
    have eq14 : ¬ j = w := by omega
    have e16 : ¬ w = j + 1 := by omega
    have eq16 : ¬ j + 1 = w := by omega
    have e18 : ¬ j = 0 := by omega
    have eq18 : ¬ 0 = j := by omega
    have e20 : ¬ j = 1 := by omega
    have eq20 : ¬ 1 = j := by omega
    have e22 : ¬ j = 2 := by omega
    have eq22 : ¬ 2 = j := by omega
    have e24 : ¬ j = 3 := by omega
    have eq24 : ¬ 3 = j := by omega
    have e26 : ¬ j = 4 := by omega
    have eq26 : ¬ 4 = j := by omega
    have e28 : ¬ j = 5 := by omega
    have eq28 : ¬ 5 = j := by omega
    have e30 : ¬ j = 6 := by omega
    have eq30 : ¬ 6 = j := by omega
    have e32 : ¬ j = 7 := by omega
    have eq32 : ¬ 7 = j := by omega
    have e34 : ¬ j = 8 := by omega
    have eq34 : ¬ 8 = j := by omega
    have e36 : ¬ j = 9 := by omega
    have eq36 : ¬ 9 = j := by omega
    have e38 : ¬ j = 10 := by omega
    have eq38 : ¬ 10 = j := by omega
    have e40 : ¬ j = 11 := by omega
    have eq40 : ¬ 11 = j := by omega
    have e42 : ¬ j = 12 := by omega
    have eq42 : ¬ 12 = j := by omega
    obtain ⟨l1, l2, l3, l4, l5, l6⟩ := id hfl
    refine tr_skip ?_
    refine hK2 _ ?_; try clear hK2 K2
    refine seq_k fun K3 hK3 => ?_
    refine tr_block ?_
    refine region_k T_ok (by decide) fun K hK => ?_
    simp [go_sem, insC, hI, hx, hx', hi0, h', e0, eq0, e2, eq2, e4, eq4, e6, eq6, e8, eq8, e10, eq10, e12, eq12, e14, eq14, e16, eq16, e18, eq18, e20, eq20, e22, eq22, e24, eq24, e26, eq26, e28, eq28, e30, eq30, e32, eq32, e34, eq34, e36, eq36, e38, eq38, e40, eq40, e42, eq42]
    refine hK _ ?_; clear hK K
    refine seq_k fun K4 hK4 => ?_
    refine region_k T_ok (by decide) fun K hK => ?_
    simp [go_sem]
    refine hK _ ?_; clear hK K
    refine cond_k rfl (fun h => ?_) (fun h => ?_)
    · have ho : 0 < s.out := by simpa using h
      clear h
      have hwo : IntKind.i64.wrap (s.out - 1) = s.out - 1 := wrap_i64 (by omega) (by omega)
      have ho' : ¬ s.out ≤ 0 := by omega
      refine region_k T_ok (by decide) fun K hK => ?_
      simp [go_sem, insC, e0, eq0, e2, eq2, e4, eq4, e6, eq6, e8, eq8, e10, eq10, e12, eq12, e14, eq14, e16, eq16, e18, eq18, e20, eq20, e22, eq22, e24, eq24, e26, eq26, e28, eq28, e30, eq30, e32, eq32, e34, eq34, e36, eq36, e38, eq38, e40, eq40, e42, eq42, hwo]
      refine hK _ ?_; clear hK K
      refine draw_k T_ok (by kernel_rfl) 6 [[], [0], [0, 1], [0, 1, 2], [], [4], [0, 1, 2, 3, 4, 5], [0, 1, 2, 3, 4, 5, 6], [0, 1, 2, 3, 4, 5, 6, 7], [0, 1, 2, 3, 4, 5, 6, 7, 8]] [] (by decide) (by decide) (by decide) fun K hK => ?_
      first | dsimp only [List.take, List.drop] | dsimp [List.take, List.drop]
      simp [go_sem, insC, hI, hx, hx', hi0, h', e0, eq0, e2, eq2, e4, eq4, e6, eq6, e8, eq8, e10, eq10, e12, eq12, e14, eq14, e16, eq16, e18, eq18, e20, eq20, e22, eq22, e24, eq24, e26, eq26, e28, eq28, e30, eq30, e32, eq32, e34, eq34, e36, eq36, e38, eq38, e40, eq40, e42, eq42]
      refine hK _ ?_; clear hK K
      refine seq_k fun K5 hK5 => ?_
      refine region_k T_ok (by decide) fun K hK => ?_
      simp [go_sem, insC, e0, eq0, e2, eq2, e4, eq4, e6, eq6, e8, eq8, e10, eq10, e12, eq12, e14, eq14, e16, eq16, e18, eq18, e20, eq20, e22, eq22, e24, eq24, e26, eq26, e28, eq28, e30, eq30, e32, eq32, e34, eq34, e36, eq36, e38, eq38, e40, eq40, e42, eq42]
      refine call_pf (ismem_pf x) ?_
      simp [go_sem, insC, e0, eq0, e2, eq2, e4, eq4, e6, eq6, e8, eq8, e10, eq10, e12, eq12, e14, eq14, e16, eq16, e18, eq18, e20, eq20, e22, eq22, e24, eq24, e26, eq26, e28, eq28, e30, eq30, e32, eq32, e34, eq34, e36, eq36, e38, eq38, e40, eq40, e42, eq42]
      refine hK _ ?_; clear hK K
      refine cond_k rfl (fun h => ?_) (fun h => ?_)
      · have hmI : memI x = true := h
        have hmB : memB x.op = true := h
        clear h
        rw [if_pos hmI] at hD
        have kI : (s.k : Int) < (m : Nat) := by omega
        have km : s.k < s.f.state.length := by omega
        have k0 : (0 : Int) ≤ (s.k : Nat) := by omega
        have hwk : IntKind.i64.wrap ((s.k : Nat) + 1) = (s.k : Nat) + 1 := wrap_i64 (by omega) (by omega)
        have hsb : stepB x s = true := by simp [stepB, ho, hmI, ho']
        have hrun2 := (runT_step (reads := reads) (works := works) hx hsb).symm.trans hrun
        refine region_k T_ok (by decide) fun K hK => ?_
        simp [go_sem, insC, e0, eq0, e2, eq2, e4, eq4, e6, eq6, e8, eq8, e10, eq10, e12, eq12, e14, eq14, e16, eq16, e18, eq18, e20, eq20, e22, eq22, e24, eq24, e26, eq26, e28, eq28, e30, eq30, e32, eq32, e34, eq34, e36, eq36, e38, eq38, e40, eq40, e42, eq42, kI, km, k0]
        refine hK _ ?_; clear hK K
        refine region_e T_ok (by decide) fun K hK => ?_
        simp [go_sem, insC, e0, eq0, e2, eq2, e4, eq4, e6, eq6, e8, eq8, e10, eq10, e12, eq12, e14, eq14, e16, eq16, e18, eq18, e20, eq20, e22, eq22, e24, eq24, e26, eq26, e28, eq28, e30, eq30, e32, eq32, e34, eq34, e36, eq36, e38, eq38, e40, eq40, e42, eq42, hwk]
        refine hK _ ?_; clear hK K
        refine hK5 _ ?_; try clear hK5 K5
        refine tr_exit ?_
        refine hK3 _ ?_; try clear hK3 K3
        refine region_e T_ok (by decide) fun K hK => ?_
        simp [go_sem, hw1]
        refine hK _ ?_; clear hK K
        refine ⟨(i + 1, stepT reads works i x s, j + 7), ?_, ?_, ?_⟩
        · exact ⟨by omega, hrun2, hF2, by dsimp only at hKk ⊢; omega, hO2, by dsimp only; omega⟩
        · dsimp only; omega
        · refine Weaker.fz 1 0 ?_ ?_ ?_
          · simp [go_sem, stepT, ho, hmI, e0, eq0, e2, eq2, e4, eq4, e6, eq6, e8, eq8, e10, eq10, e12, eq12, e14, eq14, e16, eq16, e18, eq18, e20, eq20, e22, eq22, e24, eq24, e26, eq26, e28, eq28, e30, eq30, e32, eq32, e34, eq34, e36, eq36, e38, eq38, e40, eq40, e42, eq42]
          · first | (simp; done) | (simp; omega)
          simp [go_sem, stepT, ho, hmI, e0, eq0, e2, eq2, e4, eq4, e6, eq6, e8, eq8, e10, eq10, e12, eq12, e14, eq14, e16, eq16, e18, eq18, e20, eq20, e22, eq22, e24, eq24, e26, eq26, e28, eq28, e30, eq30, e32, eq32, e34, eq34, e36, eq36, e38, eq38, e40, eq40, e42, eq42]
      · have hmI : memI x = false := by simpa [memI] using h
        clear h
        have hsb : stepB x s = true := by simp [stepB, ho, hmI, ho']
        have hrun2 := (runT_step (reads := reads) (works := works) hx hsb).symm.trans hrun
        refine tr_skip ?_
        refine hK5 _ ?_; try clear hK5 K5
        refine tr_exit ?_
        refine hK3 _ ?_; try clear hK3 K3
        refine region_e T_ok (by decide) fun K hK => ?_
        simp [go_sem, hw1]
        refine hK _ ?_; clear hK K
        refine ⟨(i + 1, stepT reads works i x s, j + 7), ?_, ?_, ?_⟩
        · exact ⟨by omega, hrun2, hF2, by dsimp only at hKk ⊢; omega, hO2, by dsimp only; omega⟩
        · dsimp only; omega
        · refine Weaker.fz 1 0 ?_ ?_ ?_
          · simp [go_sem, stepT, ho, hmI, e0, eq0, e2, eq2, e4, eq4, e6, eq6, e8, eq8, e10, eq10, e12, eq12, e14, eq14, e16, eq16, e18, eq18, e20, eq20, e22, eq22, e24, eq24, e26, eq26, e28, eq28, e30, eq30, e32, eq32, e34, eq34, e36, eq36, e38, eq38, e40, eq40, e42, eq42]
          · first | (simp; done) | (simp; omega)
          simp [go_sem, stepT, ho, hmI, e0, eq0, e2, eq2, e4, eq4, e6, eq6, e8, eq8, e10, eq10, e12, eq12, e14, eq14, e16, eq16, e18, eq18, e20, eq20, e22, eq22, e24, eq24, e26, eq26, e28, eq28, e30, eq30, e32, eq32, e34, eq34, e36, eq36, e38, eq38, e40, eq40, e42, eq42]
    · have ho : ¬ 0 < s.out := by simpa using h
      clear h
      have ho' : s.out ≤ 0 := by omega
      refine tr_skip ?_
      refine hK4 _ ?_; try clear hK4 K4
      refine tr_block ?_
      refine region_k T_ok (by decide) fun K hK => ?_
      simp [go_sem, insC, e0, eq0, e2, eq2, e4, eq4, e6, eq6, e8, eq8, e10, eq10, e12, eq12, e14, eq14, e16, eq16, e18, eq18, e20, eq20, e22, eq22, e24, eq24, e26, eq26, e28, eq28, e30, eq30, e32, eq32, e34, eq34, e36, eq36, e38, eq38, e40, eq40, e42, eq42]
      refine call_pf (ismem_pf x) ?_
      simp [go_sem, insC, e0, eq0, e2, eq2, e4, eq4, e6, eq6, e8, eq8, e10, eq10, e12, eq12, e14, eq14, e16, eq16, e18, eq18, e20, eq20, e22, eq22, e24, eq24, e26, eq26, e28, eq28, e30, eq30, e32, eq32, e34, eq34, e36, eq36, e38, eq38, e40, eq40, e42, eq42]
      refine hK _ ?_; clear hK K
      refine cond_k rfl (fun h => ?_) (fun h => ?_)
      · have hmI : memI x = true := h
        have hmB : memB x.op = true := h
        clear h
        rw [if_pos hmI] at hD
        have kI : (s.k : Int) < (m : Nat) := by omega
        have km : s.k < s.f.state.length := by omega
        have k0 : (0 : Int) ≤ (s.k : Nat) := by omega
        have hwk : IntKind.i64.wrap ((s.k : Nat) + 1) = (s.k : Nat) + 1 := wrap_i64 (by omega) (by omega)
        have hsb : stepB x s = true := by simp [stepB, ho, hmI]
        have hrun2 := (runT_step (reads := reads) (works := works) hx hsb).symm.trans hrun
        obtain ⟨r, hr, hr'⟩ := getAt (show s.k < reads.length by omega)
        obtain ⟨b, hb, hb'⟩ := getAt (show s.k < works.length by omega)
        have kr : (s.k : Int) < (reads.length : Nat) := by omega
        have kw : (s.k : Int) < (works.length : Nat) := by omega
        refine draw_k T_ok (by kernel_rfl) 11 [[], [], [], [], [], [3, 4], [3, 4, 5], [], [], [7, 8], [7, 8, 9], [0, 1, 2, 3, 4, 5, 6, 7, 8, 9, 10]] [] (by decide) (by decide) (by decide) fun K hK => ?_
        first | dsimp only [List.take, List.drop] | dsimp [List.take, List.drop]
        simp [go_sem, insC, e0, eq0, e2, eq2, e4, eq4, e6, eq6, e8, eq8, e10, eq10, e12, eq12, e14, eq14, e16, eq16, e18, eq18, e20, eq20, e22, eq22, e24, eq24, e26, eq26, e28, eq28, e30, eq30, e32, eq32, e34, eq34, e36, eq36, e38, eq38, e40, eq40, e42, eq42, kI, km, k0, kr, kw, hr, hb, hr', hb']
        refine call_own (mem_fn w _ h12 (by omega) m L R Wh s.w s.f hfl x hok s.k (by omega) (by omega) r b) rfl (by simp [e0, eq0, e2, eq2, e4, eq4, e6, eq6, e8, eq8, e10, eq10, e12, eq12, e14, eq14, e16, eq16, e18, eq18, e20, eq20, e22, eq22, e24, eq24, e26, eq26, e28, eq28, e30, eq30, e32, eq32, e34, eq34, e36, eq36, e38, eq38, e40, eq40, e42, eq42]) (by simp [go_sem, e0, eq0, e2, eq2, e4, eq4, e6, eq6, e8, eq8, e10, eq10, e12, eq12, e14, eq14, e16, eq16, e18, eq18, e20, eq20, e22, eq22, e24, eq24, e26, eq26, e28, eq28, e30, eq30, e32, eq32, e34, eq34, e36, eq36, e38, eq38, e40, eq40, e42, eq42]) fun k9 hk9 => ?_
        simp [go_sem, insC, e0, eq0, e2, eq2, e4, eq4, e6, eq6, e8, eq8, e10, eq10, e12, eq12, e14, eq14, e16, eq16, e18, eq18, e20, eq20, e22, eq22, e24, eq24, e26, eq26, e28, eq28, e30, eq30, e32, eq32, e34, eq34, e36, eq36, e38, eq38, e40, eq40, e42, eq42]
        refine hK _ ?_; clear hK K
        refine region_e T_ok (by decide) fun K hK => ?_
        simp [go_sem, hwk]
        refine hK _ ?_; clear hK K
        refine hK3 _ ?_; try clear hK3 K3
        refine region_e T_ok (by decide) fun K hK => ?_
        simp [go_sem, hw1]
        refine hK _ ?_; clear hK K
        refine ⟨(i + 1, stepT reads works i x s, k9), ?_, ?_, ?_⟩
        · exact ⟨by omega, hrun2, hF2, by dsimp only at hKk ⊢; omega, hO2, by dsimp only; omega⟩
        · dsimp only; omega
        · refine Weaker.fz 1 0 ?_ ?_ ?_
          · simp [go_sem, stepT, ho, hmI, hr, hr', hb, hb', e0, eq0, e2, eq2, e4, eq4, e6, eq6, e8, eq8, e10, eq10, e12, eq12, e14, eq14, e16, eq16, e18, eq18, e20, eq20, e22, eq22, e24, eq24, e26, eq26, e28, eq28, e30, eq30, e32, eq32, e34, eq34, e36, eq36, e38, eq38, e40, eq40, e42, eq42, hr, hb]
          · first | (simp; done) | (simp; omega)
          simp [go_sem, stepT, ho, hmI, hr, hr', hb, hb', e0, eq0, e2, eq2, e4, eq4, e6, eq6, e8, eq8, e10, eq10, e12, eq12, e14, eq14, e16, eq16, e18, eq18, e20, eq20, e22, eq22, e24, eq24, e26, eq26, e28, eq28, e30, eq30, e32, eq32, e34, eq34, e36, eq36, e38, eq38, e40, eq40, e42, eq42]
      · have hmI : memI x = false := by simpa [memI] using h
        clear h
        refine region_to T_ok (by decide) ⟨88, [(0, .ptr w 0 0), (3, .ro 2 (vls reads)), (4, .ro 1 (bVs works)), (16, .ro 13 (inss l)), (17, iV (l.length : Nat)), (18, iV (i : Nat)), (11, iV s.out), (2, iV (s.k : Nat)), (13, .ptr j 0 0), (69, bV (isBr x.op))], [(j, .rows 13 [insC x]), (w, .rows 29 [.agg (wkC (.ptr 12 0 0) s.w)]), (12, .rows 9 [.agg [.sl 1 0 m, .sl 3 0 m, .sl 5 0 m, .sl 7 0 m, .sl 9 0 m, .sl 11 0 m, L, R, Wh]]), (1, .rows 1 (iVs s.f.state)), (3, .rows 2 (vls s.f.write)), (5, .rows 1 (iVs s.f.pair)), (7, .rows 1 (uVs s.f.place)), (9, .rows 1 (uVs s.f.value)), (11, .rows 1 (uVs s.f.path))], j + 1⟩ ?_ ?_
        · by_cases c1 : x.op = 16
          · simp [go_sem, c1, insC, e0, eq0, e2, eq2, e4, eq4, e6, eq6, e8, eq8, e10, eq10, e12, eq12, e14, eq14, e16, eq16, e18, eq18, e20, eq20, e22, eq22, e24, eq24, e26, eq26, e28, eq28, e30, eq30, e32, eq32, e34, eq34, e36, eq36, e38, eq38, e40, eq40, e42, eq42]
            refine Weaker.fz 1 0 ?_ ?_ ?_
            · simp [go_sem, c1, insC, e0, eq0, e2, eq2, e4, eq4, e6, eq6, e8, eq8, e10, eq10, e12, eq12, e14, eq14, e16, eq16, e18, eq18, e20, eq20, e22, eq22, e24, eq24, e26, eq26, e28, eq28, e30, eq30, e32, eq32, e34, eq34, e36, eq36, e38, eq38, e40, eq40, e42, eq42, isBr, int_beq]
            · first | (simp; done) | (simp; omega)
            · simp [go_sem, c1, insC, e0, eq0, e2, eq2, e4, eq4, e6, eq6, e8, eq8, e10, eq10, e12, eq12, e14, eq14, e16, eq16, e18, eq18, e20, eq20, e22, eq22, e24, eq24, e26, eq26, e28, eq28, e30, eq30, e32, eq32, e34, eq34, e36, eq36, e38, eq38, e40, eq40, e42, eq42, isBr, int_beq]
          · simp [go_sem, c1, insC, e0, eq0, e2, eq2, e4, eq4, e6, eq6, e8, eq8, e10, eq10, e12, eq12, e14, eq14, e16, eq16, e18, eq18, e20, eq20, e22, eq22, e24, eq24, e26, eq26, e28, eq28, e30, eq30, e32, eq32, e34, eq34, e36, eq36, e38, eq38, e40, eq40, e42, eq42]
            refine Weaker.fz 1 0 ?_ ?_ ?_
            · simp [go_sem, c1, insC, e0, eq0, e2, eq2, e4, eq4, e6, eq6, e8, eq8, e10, eq10, e12, eq12, e14, eq14, e16, eq16, e18, eq18, e20, eq20, e22, eq22, e24, eq24, e26, eq26, e28, eq28, e30, eq30, e32, eq32, e34, eq34, e36, eq36, e38, eq38, e40, eq40, e42, eq42, isBr, int_beq]
            · first | (simp; done) | (simp; omega)
            · simp [go_sem, c1, insC, e0, eq0, e2, eq2, e4, eq4, e6, eq6, e8, eq8, e10, eq10, e12, eq12, e14, eq14, e16, eq16, e18, eq18, e20, eq20, e22, eq22, e24, eq24, e26, eq26, e28, eq28, e30, eq30, e32, eq32, e34, eq34, e36, eq36, e38, eq38, e40, eq40, e42, eq42, isBr, int_beq]
        · skip
          refine cond_k rfl (fun h => ?_) (fun h => ?_)
          · have hbr : isBr x.op = true := by simpa using h
            clear h
            refine region_k T_ok (by decide) fun K hK => ?_
            simp [go_sem, insC, e0, eq0, e2, eq2, e4, eq4, e6, eq6, e8, eq8, e10, eq10, e12, eq12, e14, eq14, e16, eq16, e18, eq18, e20, eq20, e22, eq22, e24, eq24, e26, eq26, e28, eq28, e30, eq30, e32, eq32, e34, eq34, e36, eq36, e38, eq38, e40, eq40, e42, eq42]
            refine call_own (branch_fn w _ (by omega) (.ptr 12 0 0) rfl s.w x hok) rfl (by simp) (by simp [go_sem, e0, eq0, e2, eq2, e4, eq4, e6, eq6, e8, eq8, e10, eq10, e12, eq12, e14, eq14, e16, eq16, e18, eq18, e20, eq20, e22, eq22, e24, eq24, e26, eq26, e28, eq28, e30, eq30, e32, eq32, e34, eq34, e36, eq36, e38, eq38, e40, eq40, e42, eq42]) fun k9 hk9 => ?_
            simp [go_sem, insC, e0, eq0, e2, eq2, e4, eq4, e6, eq6, e8, eq8, e10, eq10, e12, eq12, e14, eq14, e16, eq16, e18, eq18, e20, eq20, e22, eq22, e24, eq24, e26, eq26, e28, eq28, e30, eq30, e32, eq32, e34, eq34, e36, eq36, e38, eq38, e40, eq40, e42, eq42]
            refine hK _ ?_; clear hK K
            refine seq_k fun K6 hK6 => ?_
            refine region_k T_ok (by decide) fun K hK => ?_
            simp [go_sem, insC, e0, eq0, e2, eq2, e4, eq4, e6, eq6, e8, eq8, e10, eq10, e12, eq12, e14, eq14, e16, eq16, e18, eq18, e20, eq20, e22, eq22, e24, eq24, e26, eq26, e28, eq28, e30, eq30, e32, eq32, e34, eq34, e36, eq36, e38, eq38, e40, eq40, e42, eq42]
            refine hK _ ?_; clear hK K
            refine cond_k rfl (fun h => ?_) (fun h => ?_)
            · have hbK : brK s.w x = false := by simpa using h
              clear h
              have hsb : stepB x s = false := by simp [stepB, ho', hmI, hbr, hbK]
              have hR : (runT reads works 0 l ⟨y, f, 0, n⟩) = (stepT reads works i x s, false) := by rw [← hrun]; exact runT_stop hx hsb
              refine region_k T_ok (by decide) fun K hK => ?_
              simp [go_sem]
              refine hK _ ?_; clear hK K
              refine tr_ret ⟨.inr rfl, ?_⟩
              rw [hR]
              simp [go_sem, stepT, ho, hmI, hbr, e0, eq0, e2, eq2, e4, eq4, e6, eq6, e8, eq8, e10, eq10, e12, eq12, e14, eq14, e16, eq16, e18, eq18, e20, eq20, e22, eq22, e24, eq24, e26, eq26, e28, eq28, e30, eq30, e32, eq32, e34, eq34, e36, eq36, e38, eq38, e40, eq40, e42, eq42]
            · have hbK : brK s.w x = true := by simpa using h
              clear h
              have hsb : stepB x s = true := by simp [stepB, ho, hmI, hbr, hbK]
              have hrun2 := (runT_step (reads := reads) (works := works) hx hsb).symm.trans hrun
              refine tr_skip ?_
              refine hK6 _ ?_; try clear hK6 K6
              refine region_e T_ok (by decide) fun K hK => ?_
              simp [go_sem, insC, e0, eq0, e2, eq2, e4, eq4, e6, eq6, e8, eq8, e10, eq10, e12, eq12, e14, eq14, e16, eq16, e18, eq18, e20, eq20, e22, eq22, e24, eq24, e26, eq26, e28, eq28, e30, eq30, e32, eq32, e34, eq34, e36, eq36, e38, eq38, e40, eq40, e42, eq42]
              refine hK _ ?_; clear hK K
              refine hK3 _ ?_; try clear hK3 K3
              refine region_e T_ok (by decide) fun K hK => ?_
              simp [go_sem, hw1]
              refine hK _ ?_; clear hK K
              refine ⟨(i + 1, stepT reads works i x s, k9), ?_, ?_, ?_⟩
              · exact ⟨by omega, hrun2, hF2, by dsimp only at hKk ⊢; omega, hO2, by dsimp only; omega⟩
              · dsimp only; omega
              · refine Weaker.fz 1 0 ?_ ?_ ?_
                · simp [go_sem, stepT, ho, hmI, hbr, e0, eq0, e2, eq2, e4, eq4, e6, eq6, e8, eq8, e10, eq10, e12, eq12, e14, eq14, e16, eq16, e18, eq18, e20, eq20, e22, eq22, e24, eq24, e26, eq26, e28, eq28, e30, eq30, e32, eq32, e34, eq34, e36, eq36, e38, eq38, e40, eq40, e42, eq42]
                · first | (simp; done) | (simp; omega)
                simp [go_sem, stepT, ho, hmI, hbr, e0, eq0, e2, eq2, e4, eq4, e6, eq6, e8, eq8, e10, eq10, e12, eq12, e14, eq14, e16, eq16, e18, eq18, e20, eq20, e22, eq22, e24, eq24, e26, eq26, e28, eq28, e30, eq30, e32, eq32, e34, eq34, e36, eq36, e38, eq38, e40, eq40, e42, eq42]
          · have hbr : isBr x.op = false := by simpa using h
            clear h
            have hsb : stepB x s = true := by simp [stepB, ho, hmI, hbr]
            have hrun2 := (runT_step (reads := reads) (works := works) hx hsb).symm.trans hrun
            refine region_e T_ok (by decide) fun K hK => ?_
            simp [go_sem, insC, e0, eq0, e2, eq2, e4, eq4, e6, eq6, e8, eq8, e10, eq10, e12, eq12, e14, eq14, e16, eq16, e18, eq18, e20, eq20, e22, eq22, e24, eq24, e26, eq26, e28, eq28, e30, eq30, e32, eq32, e34, eq34, e36, eq36, e38, eq38, e40, eq40, e42, eq42]
            refine call_own (plain_fn w _ (by omega) (.ptr 12 0 0) rfl s.w x hok) rfl (by simp) (by simp [go_sem, e0, eq0, e2, eq2, e4, eq4, e6, eq6, e8, eq8, e10, eq10, e12, eq12, e14, eq14, e16, eq16, e18, eq18, e20, eq20, e22, eq22, e24, eq24, e26, eq26, e28, eq28, e30, eq30, e32, eq32, e34, eq34, e36, eq36, e38, eq38, e40, eq40, e42, eq42]) fun k9 hk9 => ?_
            simp [go_sem, insC, e0, eq0, e2, eq2, e4, eq4, e6, eq6, e8, eq8, e10, eq10, e12, eq12, e14, eq14, e16, eq16, e18, eq18, e20, eq20, e22, eq22, e24, eq24, e26, eq26, e28, eq28, e30, eq30, e32, eq32, e34, eq34, e36, eq36, e38, eq38, e40, eq40, e42, eq42]
            refine hK _ ?_; clear hK K
            refine hK3 _ ?_; try clear hK3 K3
            refine region_e T_ok (by decide) fun K hK => ?_
            simp [go_sem, hw1]
            refine hK _ ?_; clear hK K
            refine ⟨(i + 1, stepT reads works i x s, k9), ?_, ?_, ?_⟩
            · exact ⟨by omega, hrun2, hF2, by dsimp only at hKk ⊢; omega, hO2, by dsimp only; omega⟩
            · dsimp only; omega
            · refine Weaker.fz 1 0 ?_ ?_ ?_
              · simp [go_sem, stepT, ho, hmI, hbr, e0, eq0, e2, eq2, e4, eq4, e6, eq6, e8, eq8, e10, eq10, e12, eq12, e14, eq14, e16, eq16, e18, eq18, e20, eq20, e22, eq22, e24, eq24, e26, eq26, e28, eq28, e30, eq30, e32, eq32, e34, eq34, e36, eq36, e38, eq38, e40, eq40, e42, eq42]
              · first | (simp; done) | (simp; omega)
              simp [go_sem, stepT, ho, hmI, hbr, e0, eq0, e2, eq2, e4, eq4, e6, eq6, e8, eq8, e10, eq10, e12, eq12, e14, eq14, e16, eq16, e18, eq18, e20, eq20, e22, eq22, e24, eq24, e26, eq26, e28, eq28, e30, eq30, e32, eq32, e34, eq34, e36, eq36, e38, eq38, e40, eq40, e42, eq42]
  · simp at h
    obtain rfl : i = l.length := by omega
    have hR : (runT reads works 0 l ⟨y, f, 0, n⟩) = (s, true) := by rw [← hrun, List.drop_length]; rfl
    refine tr_exit ?_
    refine hK1 _ ?_; try clear hK1 K1
    refine region_k T_ok (by decide) fun K hK => ?_
    simp [go_sem]
    refine hK _ ?_; clear hK K
    refine tr_ret ⟨.inr rfl, ?_⟩
    rw [hR]
    simp [go_sem, insC, e0, eq0, e2, eq2, e4, eq4, e6, eq6, e8, eq8, e10, eq10, e12, eq12, e14, eq14, e16, eq16, e18, eq18, e20, eq20, e22, eq22, e24, eq24, e26, eq26, e28, eq28, e30, eq30, e32, eq32, e34, eq34, e36, eq36, e38, eq38, e40, eq40, e42, eq42]

end Go.Proofs.Ytokdphmnlcmbbaa
