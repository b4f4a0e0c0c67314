/- Flow: what threads do. -/
import Derived.Test.YtokdphmnlcmbbaaGflof
import Derived.Test.YtokdphmnlcmbbaaGfloe
import Derived.Test.YtokdphmnlcmbbaaW14
set_option linter.unusedVariables false
set_option linter.unusedSimpArgs false
namespace Go.Proofs.Ytokdphmnlcmbbaa
open Go Go.Sl Go.Proofs.Try

set_option maxRecDepth 20000 in
set_option maxHeartbeats 16000000 in
theorem flow_pf (t : Tst) (ht : t.ths.length ≤ 1000) (hl : ∀ x ∈ t.ths, x.length ≤ 1000) (hok : ∀ l ∈ t.ths, ∀ x ∈ l, InsOk x) (reads : List Vl) (works : List Bool) (hrl : nOps t ≤ reads.length) (hwl : nOps t ≤ works.length) : Pf Try.prog 10 [.rp t.cs 0, .ro 2 (vls reads), .ro 1 (bVs works)] (.rp (flowOf t reads works).cs 0) := by
  refine Pf.of_fz 2 (.cons (nl_rp t) (.cons (nl_vls _) (.cons (nl_bVs _) .nil))) (nl_flow _) ?_
  have hmle : nOps t ≤ 1000 * t.ths.length := by unfold nOps; rw [← opsT_len 0]; exact opsT_le 0 _ hl
  have hopl : (opsT 0 t.ths).length = nOps t := opsT_len 0 _
  have hleft0 : leftOps t 0 = nOps t := by unfold leftOps nOps; rw [List.drop_zero]
  have hflow : runO reads works (t.ths.drop 0) ⟨f0 (nOps t), [], [], true, 0⟩ = flowOf t reads works := rfl
  generalize nOps t = m at *
  have hm6 : m ≤ 1000000 := by omega
  have hm0 : (0 : Int) ≤ (m : Nat) := by omega
  have hm8 : (8 : Int) * (m : Nat) ≤ 281474976710656 := by omega
  have hm16 : (16 : Int) * (m : Nat) ≤ 281474976710656 := by omega
  have hmx : (m : Int) ≤ 9223372036854775807 := by omega
  refine fn_in T_ok func10 rfl rfl ntmps10 rfl (by simp) ?_
  refine region_k T_ok (by decide) fun K hK => ?_
  simp [go_sem]
  refine hK _ ?_; clear hK K
  refine region_k T_ok (by decide) fun K hK => ?_
  simp [go_sem]
  refine call_pf (ops_pf t ht hl) ?_
  simp [go_sem, hopl]
  refine hK _ ?_; clear hK K
  refine draw_k T_ok (by kernel_rfl) 12 [[], [0], [], [2], [], [4], [], [6], [], [8], [], [10], [0, 1, 2, 3, 4, 5, 6, 7, 8, 9, 10, 11], [0, 1, 2, 3, 4, 5, 6, 7, 8, 9, 10, 11, 12], [0, 1, 2, 3, 4, 5, 6, 7, 8, 9, 10, 11, 12, 13]] [(1, 2), (0, 3), (1, 3), (1, 4), (3, 4), (0, 5), (1, 5), (2, 5), (3, 5), (1, 6), (3, 6), (5, 6), (0, 7), (1, 7), (2, 7), (3, 7), (4, 7), (5, 7), (1, 8), (3, 8), (5, 8), (7, 8), (0, 9), (1, 9), (2, 9), (3, 9), (4, 9), (5, 9), (6, 9), (7, 9), (1, 10), (3, 10), (5, 10), (7, 10), (9, 10), (0, 11), (1, 11), (2, 11), (3, 11), (4, 11), (5, 11), (6, 11), (7, 11), (8, 11), (9, 11)] (by decide) (by decide) (by decide) fun K hK => ?_
  first | dsimp only [List.take, List.drop] | dsimp [List.take, List.drop]
  simp [go_sem, hm0, hm8, hm16, hmx]
  refine hK _ ?_; clear hK K
  refine region_k T_ok (by decide) fun K hK => ?_
  simp [go_sem]
  refine hK _ ?_; clear hK K
  refine seq_k fun K1 hK1 => ?_
  refine region_k T_ok (by decide) fun K hK => ?_
  simp [go_sem, Tst.cs]
  refine hK _ ?_; clear hK K
  refine tr_block ?_
  refine Tr.weaken (Weaker.ghostH (sz := 9) (es := [.agg [.sl 1 0 m, .sl 3 0 m, .sl 5 0 m, .sl 7 0 m, .sl 9 0 m, .sl 11 0 m, .val (.slice none 0 0), .val (.slice none 0 0), bV true]]) 12 16 [.agg [.sl 1 0 m, .sl 3 0 m, .sl 5 0 m, .sl 7 0 m, .sl 9 0 m, .sl 11 0 m, .val (.slice none 0 0), .sl 13 0 0, bV true]] (by simp [Sl.look]) (by simp) (by simp) (by simp [V.fits, V.cells, V.one]) (by simp only [List.flatMap_cons, List.flatMap_nil, V.cells, List.append_nil]; exact .same (.same (.same (.same (.same (.same (.same (.to (.same .nil)))))))))) ?_
  simp only [Sl.put, if_true, if_false, Nat.reduceEqDiff, reduceIte]
  refine Tr.weaken (Weaker.ghostH (sz := 9) (es := [.agg [.sl 1 0 m, .sl 3 0 m, .sl 5 0 m, .sl 7 0 m, .sl 9 0 m, .sl 11 0 m, .val (.slice none 0 0), .sl 13 0 0, bV true]]) 12 1 [.agg [.sl 1 0 m, .sl 3 0 m, .sl 5 0 m, .sl 7 0 m, .sl 9 0 m, .sl 11 0 m, .sl 14 0 0, .sl 13 0 0, bV true]] (by simp [Sl.look]) (by simp) (by simp) (by simp [V.fits, V.cells, V.one]) (by simp only [List.flatMap_cons, List.flatMap_nil, V.cells, List.append_nil]; exact .same (.same (.same (.same (.same (.same (.to (.same (.same .nil)))))))))) ?_
  simp only [Sl.put, if_true, if_false, Nat.reduceEqDiff, reduceIte]
  refine loop_p (α := Nat × Os' × Nat × Nat × Nat) (fun a => ⟨125, [(0, .rp t.cs 0), (1, .ro 2 (vls reads)), (2, .ro 1 (bVs works)), (8, .ptr 12 0 0), (38, .ro 1 (thrs t.ths)), (39, iV (t.ths.length : Nat)), (9, iV (a.2.1.k : Nat)), (40, iV (a.1 : Nat))], [(12, .rows 9 [.agg [.sl 1 0 m, .sl 3 0 m, .sl 5 0 m, .sl 7 0 m, .sl 9 0 m, .sl 11 0 m, .sl a.2.2.2.1 0 a.2.1.left.length, .sl a.2.2.2.2 0 a.2.1.regs.length, bV a.2.1.whole]]), (1, .rows 1 (iVs a.2.1.f.state)), (3, .rows 2 (vls a.2.1.f.write)), (5, .rows 1 (iVs a.2.1.f.pair)), (7, .rows 1 (uVs a.2.1.f.place)), (9, .rows 1 (uVs a.2.1.f.value)), (11, .rows 1 (uVs a.2.1.f.path)), (a.2.2.2.1, .rows 1 (uVs a.2.1.left)), (a.2.2.2.2, .rows 16 (regsRows a.2.1.regs))], a.2.2.1⟩) (fun a => a.1 ≤ t.ths.length ∧ runO reads works (t.ths.drop a.1) a.2.1 = flowOf t reads works ∧ FlOk m a.2.1.f ∧ a.2.1.k + leftOps t a.1 ≤ m ∧ a.2.1.left.length = a.1 ∧ a.2.1.regs.length = a.1 ∧ 12 < a.2.2.2.1 ∧ 12 < a.2.2.2.2 ∧ a.2.2.2.1 ≠ a.2.2.2.2 ∧ a.2.2.2.1 < a.2.2.1 ∧ a.2.2.2.2 < a.2.2.1) (fun a => t.ths.length - a.1) (0, ⟨f0 m, [], [], true, 0⟩, 15, 14, 13) ?_ ?_ ?_
  · exact ⟨Nat.zero_le _, hflow, f0_ok m, by dsimp only; omega, rfl, rfl, by dsimp only; omega, by dsimp only; omega, by dsimp only; omega, by dsimp only; omega, by dsimp only; omega⟩
  · refine Weaker.fz 1 0 ?_ ?_ ?_
    · simp [go_sem, Tst.cs, f0]
    · first | (simp; done) | (simp; omega)
    · simp [go_sem, f0, iVs_zeros, uVs_zeros, vls_zeros, uVs_nil, regsRows_nil]
  rintro ⟨i, s, j, rL, rR⟩ ⟨hi, hrun, hfl, hkm, hll, hrl2, hL12, hR12, hLR, hLj, hRj⟩
  dsimp only at hi hrun hfl hkm hll hrl2 hL12 hR12 hLR hLj hRj ⊢
  refine region_k T_ok (by decide) fun K hK => ?_
  simp [go_sem]
  refine hK _ ?_; clear hK K
  refine seq_k fun K2 hK2 => ?_
  refine cond_k rfl (fun h => ?_) (fun h => ?_)
  · simp at h
    have hI := h
    clear h
    have h' : i < (t.ths).length := by omega
    obtain ⟨l, hx, hx'⟩ := getAt h'
    have hi0 : (0 : Int) ≤ (i : Nat) := by omega
    have hlm := List.mem_of_getElem? hx
    have hll3 := hl l hlm
    have hst := leftOps_step hx
    have htr : s.regs.take i = s.regs := List.take_of_length_le (by omega)
    have htl : s.left.take i = s.left := List.take_of_length_le (by omega)
    have hw : IntKind.i64.wrap ((i : Nat) + 1) = (i : Nat) + 1 := wrap_i64 (by omega) (by omega)
    have e0 : ¬ rL = 0 := by omega
    have eq0 : ¬ 0 = rL := by omega
    have e2 : ¬ rL = 1 := by omega
    have eq2 : ¬ 1 = rL := by omega
    have e4 : ¬ rL = 2 := by omega
    have eq4 : ¬ 2 = rL := by omega
    have e6 : ¬ rL = 3 := by omega
    have eq6 : ¬ 3 = rL := by omega
    have e8 : ¬ rL = 4 := by omega
    have eq8 : ¬ 4 = rL := by omega
    have e10 : ¬ rL = 5 := by omega
    have eq10 : ¬ 5 = rL := by omega
    have e12 : ¬ rL = 6 := by omega
    have eq12 : ¬ 6 = rL := by omega
    have e14 : ¬ rL = 7 := by omega
    have eq14 : ¬ 7 = rL := by omega
    have e16 : ¬ rL = 8 := by omega
    have eq16 : ¬ 8 = rL := by omega
    have e18 : ¬ rL = 9 := by omega
    have eq18 : ¬ 9 = rL := by omega
    have e20 : ¬ rL = 10 := by omega
    have eq20 : ¬ 10 = rL := by omega
    have e22 : ¬ rL = 11 := by omega
    have eq22 : ¬ 11 = rL := by omega
    have e24 : ¬ rL = 12 := by omega
    have eq24 : ¬ 12 = rL := by omega
    have e26 : ¬ rR = 0 := by omega
    have eq26 : ¬ 0 = rR := by omega
    have e28 : ¬ rR = 1 := by omega
    have eq28 : ¬ 1 = rR := by omega
    have e30 : ¬ rR = 2 := by omega
    have eq30 : ¬ 2 = rR := by omega
    have e32 : ¬ rR = 3 := by omega
    have eq32 : ¬ 3 = rR := by omega
    have e34 : ¬ rR = 4 := by omega
    have eq34 : ¬ 4 = rR := by omega
    have e36 : ¬ rR = 5 := by omega
    have eq36 : ¬ 5 = rR := by omega
    have e38 : ¬ rR = 6 := by omega
    have eq38 : ¬ 6 = rR := by omega
    have e40 : ¬ rR = 7 := by omega
    have eq40 : ¬ 7 = rR := by omega
    have e42 : ¬ rR = 8 := by omega
    have eq42 : ¬ 8 = rR := by omega
    have e44 : ¬ rR = 9 := by omega
    have eq44 : ¬ 9 = rR := by omega
    have e46 : ¬ rR = 10 := by omega
    have eq46 : ¬ 10 = rR := by omega
    have e48 : ¬ rR = 11 := by omega
    have eq48 : ¬ 11 = rR := by omega
    have e50 : ¬ rR = 12 := by omega
    have eq50 : ¬ 12 = rR := by omega
    have e52 : ¬ j = 0 := by omega
    have eq52 : ¬ 0 = j := by omega
    have e54 : ¬ j = 1 := by omega
    have eq54 : ¬ 1 = j := by omega
    have e56 : ¬ j = 2 := by omega
    have eq56 : ¬ 2 = j := by omega
    have e58 : ¬ j = 3 := by omega
    have eq58 : ¬ 3 = j := by omega
    have e60 : ¬ j = 4 := by omega
    have eq60 : ¬ 4 = j := by omega
    have e62 : ¬ j = 5 := by omega
    have eq62 : ¬ 5 = j := by omega
    have e64 : ¬ j = 6 := by omega
    have eq64 : ¬ 6 = j := by omega
    have e66 : ¬ j = 7 := by omega
    have eq66 : ¬ 7 = j := by omega
    have e68 : ¬ j = 8 := by omega
    have eq68 : ¬ 8 = j := by omega
    have e70 : ¬ j = 9 := by omega
    have eq70 : ¬ 9 = j := by omega
    have e72 : ¬ j = 10 := by omega
    have eq72 : ¬ 10 = j := by omega
    have e74 : ¬ j = 11 := by omega
    have eq74 : ¬ 11 = j := by omega
    have e76 : ¬ j = 12 := by omega
    have eq76 : ¬ 12 = j := by omega
    have e78 : ¬ rL = rR := by omega
    have eq78 : ¬ rR = rL := by omega
    have e80 : ¬ rL = j := by omega
    have eq80 : ¬ j = rL := by omega
    have e82 : ¬ rR = j := by omega
    have eq82 : ¬ j = rR := by omega
    refine tr_skip ?_
    refine hK2 _ ?_; try clear hK2 K2
    refine seq_k fun K3 hK3 => ?_
    refine tr_block ?_
    refine region_k T_ok (by decide) fun K hK => ?_
    simp [go_sem, hI, hx, hx', hi0, h', e0, eq0, e2, eq2, e4, eq4, e6, eq6, e8, eq8, e10, eq10, e12, eq12, e14, eq14, e16, eq16, e18, eq18, e20, eq20, e22, eq22, e24, eq24, e26, eq26, e28, eq28, e30, eq30, e32, eq32, e34, eq34, e36, eq36, e38, eq38, e40, eq40, e42, eq42, e44, eq44, e46, eq46, e48, eq48, e50, eq50, e52, eq52, e54, eq54, e56, eq56, e58, eq58, e60, eq60, e62, eq62, e64, eq64, e66, eq66, e68, eq68, e70, eq70, e72, eq72, e74, eq74, e76, eq76, e78, eq78, e80, eq80, e82, eq82]
    refine hK _ ?_; clear hK K
    refine region_k T_ok (by decide) fun K hK => ?_
    simp [go_sem, e0, eq0, e2, eq2, e4, eq4, e6, eq6, e8, eq8, e10, eq10, e12, eq12, e14, eq14, e16, eq16, e18, eq18, e20, eq20, e22, eq22, e24, eq24, e26, eq26, e28, eq28, e30, eq30, e32, eq32, e34, eq34, e36, eq36, e38, eq38, e40, eq40, e42, eq42, e44, eq44, e46, eq46, e48, eq48, e50, eq50, e52, eq52, e54, eq54, e56, eq56, e58, eq58, e60, eq60, e62, eq62, e64, eq64, e66, eq66, e68, eq68, e70, eq70, e72, eq72, e74, eq74, e76, eq76, e78, eq78, e80, eq80, e82, eq82]
    refine ⟨wk_one rfl, ?_⟩
    refine hK _ ?_; clear hK K
    refine seq_k fun K4 hK4 => ?_
    refine region_k T_ok (by decide) fun K hK => ?_
    simp [go_sem]
    refine hK _ ?_; clear hK K
    refine tr_block ?_
    refine loop_p (α := Nat) (fun b => ⟨125, [(0, .rp t.cs 0), (1, .ro 2 (vls reads)), (2, .ro 1 (bVs works)), (8, .ptr 12 0 0), (38, .ro 1 (thrs t.ths)), (39, iV (t.ths.length : Nat)), (9, iV (s.k : Nat)), (40, iV (i : Nat)), (11, .ro 13 (inss l)), (12, .ptr j 0 0), (47, iV (b : Nat))], [(j, .rows 29 [.agg (wkC (.ptr 12 0 0) (wkI b))]), (12, .rows 9 [.agg [.sl 1 0 m, .sl 3 0 m, .sl 5 0 m, .sl 7 0 m, .sl 9 0 m, .sl 11 0 m, .sl rL 0 s.left.length, .sl rR 0 s.regs.length, bV s.whole]]), (1, .rows 1 (iVs s.f.state)), (3, .rows 2 (vls s.f.write)), (5, .rows 1 (iVs s.f.pair)), (7, .rows 1 (uVs s.f.place)), (9, .rows 1 (uVs s.f.value)), (11, .rows 1 (uVs s.f.path)), (rL, .rows 1 (uVs s.left)), (rR, .rows 16 (regsRows s.regs))], j + 1⟩) (fun b => b ≤ 8) (fun b => 8 - b) 0 ?_ ?_ ?_
    · omega
    · refine Weaker.fz 1 0 ?_ ?_ ?_
      · simp [go_sem, e0, eq0, e2, eq2, e4, eq4, e6, eq6, e8, eq8, e10, eq10, e12, eq12, e14, eq14, e16, eq16, e18, eq18, e20, eq20, e22, eq22, e24, eq24, e26, eq26, e28, eq28, e30, eq30, e32, eq32, e34, eq34, e36, eq36, e38, eq38, e40, eq40, e42, eq42, e44, eq44, e46, eq46, e48, eq48, e50, eq50, e52, eq52, e54, eq54, e56, eq56, e58, eq58, e60, eq60, e62, eq62, e64, eq64, e66, eq66, e68, eq68, e70, eq70, e72, eq72, e74, eq74, e76, eq76, e78, eq78, e80, eq80, e82, eq82]
      · first | (simp; done) | (simp; omega)
      · simp [go_sem, e0, eq0, e2, eq2, e4, eq4, e6, eq6, e8, eq8, e10, eq10, e12, eq12, e14, eq14, e16, eq16, e18, eq18, e20, eq20, e22, eq22, e24, eq24, e26, eq26, e28, eq28, e30, eq30, e32, eq32, e34, eq34, e36, eq36, e38, eq38, e40, eq40, e42, eq42, e44, eq44, e46, eq46, e48, eq48, e50, eq50, e52, eq52, e54, eq54, e56, eq56, e58, eq58, e60, eq60, e62, eq62, e64, eq64, e66, eq66, e68, eq68, e70, eq70, e72, eq72, e74, eq74, e76, eq76, e78, eq78, e80, eq80, e82, eq82]
    rintro b hb
    skip
    refine region_k T_ok (by decide) fun K hK => ?_
    simp [go_sem]
    refine hK _ ?_; clear hK K
    refine seq_k fun K5 hK5 => ?_
    refine cond_k rfl (fun h => ?_) (fun h => ?_)
    · simp at h
      have hI2 : (b : Int) < 8 := h
      clear h
      have h'2 : b < 8 := by omega
      have hi02 : (0 : Int) ≤ (b : Nat) := by omega
      have hw2 : IntKind.i64.wrap ((b : Nat) + 1) = (b : Nat) + 1 := wrap_i64 (by omega) (by omega)
      have hb162 : b * 2 + 2 ≤ 16 := by omega
      have hb292 : 1 + b * 2 + 1 ≤ 29 := by omega
      refine tr_skip ?_
      refine hK5 _ ?_; try clear hK5 K5
      refine seq_k fun K6 hK6 => ?_
      refine tr_block ?_
      refine region_k T_ok (by decide) fun K hK => ?_
      simp [go_sem]
      refine hK _ ?_; clear hK K
      refine region_e T_ok (by decide) fun K hK => ?_
      simp [go_sem, e0, eq0, e2, eq2, e4, eq4, e6, eq6, e8, eq8, e10, eq10, e12, eq12, e14, eq14, e16, eq16, e18, eq18, e20, eq20, e22, eq22, e24, eq24, e26, eq26, e28, eq28, e30, eq30, e32, eq32, e34, eq34, e36, eq36, e38, eq38, e40, eq40, e42, eq42, e44, eq44, e46, eq46, e48, eq48, e50, eq50, e52, eq52, e54, eq54, e56, eq56, e58, eq58, e60, eq60, e62, eq62, e64, eq64, e66, eq66, e68, eq68, e70, eq70, e72, eq72, e74, eq74, e76, eq76, e78, eq78, e80, eq80, e82, eq82, hI2, h'2, hi02, hb162, hb292]
      refine hK _ ?_; clear hK K
      refine hK6 _ ?_; try clear hK6 K6
      refine region_e T_ok (by decide) fun K hK => ?_
      simp [go_sem, hw2]
      refine hK _ ?_; clear hK K
      refine ⟨b + 1, ?_, ?_, ?_⟩
      · omega
      · omega
      · refine Weaker.fz 1 0 ?_ ?_ ?_
        · simp [go_sem, e0, eq0, e2, eq2, e4, eq4, e6, eq6, e8, eq8, e10, eq10, e12, eq12, e14, eq14, e16, eq16, e18, eq18, e20, eq20, e22, eq22, e24, eq24, e26, eq26, e28, eq28, e30, eq30, e32, eq32, e34, eq34, e36, eq36, e38, eq38, e40, eq40, e42, eq42, e44, eq44, e46, eq46, e48, eq48, e50, eq50, e52, eq52, e54, eq54, e56, eq56, e58, eq58, e60, eq60, e62, eq62, e64, eq64, e66, eq66, e68, eq68, e70, eq70, e72, eq72, e74, eq74, e76, eq76, e78, eq78, e80, eq80, e82, eq82]
        · first | (simp; done) | (simp; omega)
        simp [go_sem, wkI_step, e0, eq0, e2, eq2, e4, eq4, e6, eq6, e8, eq8, e10, eq10, e12, eq12, e14, eq14, e16, eq16, e18, eq18, e20, eq20, e22, eq22, e24, eq24, e26, eq26, e28, eq28, e30, eq30, e32, eq32, e34, eq34, e36, eq36, e38, eq38, e40, eq40, e42, eq42, e44, eq44, e46, eq46, e48, eq48, e50, eq50, e52, eq52, e54, eq54, e56, eq56, e58, eq58, e60, eq60, e62, eq62, e64, eq64, e66, eq66, e68, eq68, e70, eq70, e72, eq72, e74, eq74, e76, eq76, e78, eq78, e80, eq80, e82, eq82]
    · simp at h
      obtain rfl : b = 8 := by omega
      refine tr_exit ?_
      refine hK4 _ ?_; try clear hK4 K4
      refine seq_ex (fun k9 => ⟨125, [(0, .rp t.cs 0), (1, .ro 2 (vls reads)), (2, .ro 1 (bVs works)), (8, .ptr 12 0 0), (38, .ro 1 (thrs t.ths)), (39, iV (t.ths.length : Nat)), (9, iV (s.k : Nat)), (40, iV (i : Nat)), (11, .ro 13 (inss l)), (12, .ptr j 0 0)], [(j, .rows 29 [.agg (wkC (.ptr 12 0 0) (runT reads works 0 l ⟨w0, s.f, 0, s.k⟩).1.w)]), (12, .rows 9 [.agg [.sl 1 0 m, .sl 3 0 m, .sl 5 0 m, .sl 7 0 m, .sl 9 0 m, .sl 11 0 m, .sl rL 0 s.left.length, .sl rR 0 s.regs.length, bV (s.whole && (runT reads works 0 l ⟨w0, s.f, 0, s.k⟩).2)]]), (1, .rows 1 (iVs (runT reads works 0 l ⟨w0, s.f, 0, s.k⟩).1.f.state)), (3, .rows 2 (vls (runT reads works 0 l ⟨w0, s.f, 0, s.k⟩).1.f.write)), (5, .rows 1 (iVs (runT reads works 0 l ⟨w0, s.f, 0, s.k⟩).1.f.pair)), (7, .rows 1 (uVs (runT reads works 0 l ⟨w0, s.f, 0, s.k⟩).1.f.place)), (9, .rows 1 (uVs (runT reads works 0 l ⟨w0, s.f, 0, s.k⟩).1.f.value)), (11, .rows 1 (uVs (runT reads works 0 l ⟨w0, s.f, 0, s.k⟩).1.f.path)), (rL, .rows 1 (uVs s.left)), (rR, .rows 16 (regsRows s.regs))], k9⟩) (fun k9 => j + 1 ≤ k9) ?_ ?_
      · skip
        refine region_k T_ok (by decide) fun K hK => ?_
        simp [go_sem, e0, eq0, e2, eq2, e4, eq4, e6, eq6, e8, eq8, e10, eq10, e12, eq12, e14, eq14, e16, eq16, e18, eq18, e20, eq20, e22, eq22, e24, eq24, e26, eq26, e28, eq28, e30, eq30, e32, eq32, e34, eq34, e36, eq36, e38, eq38, e40, eq40, e42, eq42, e44, eq44, e46, eq46, e48, eq48, e50, eq50, e52, eq52, e54, eq54, e56, eq56, e58, eq58, e60, eq60, e62, eq62, e64, eq64, e66, eq66, e68, eq68, e70, eq70, e72, eq72, e74, eq74, e76, eq76, e78, eq78, e80, eq80, e82, eq82, wkI_8]
        refine call_own (thread_fn j _ (by omega) (by omega) m (.sl rL 0 s.left.length) (.sl rR 0 s.regs.length) (bV s.whole) w0 s.f hfl l (hok l hlm) (by omega) s.k (by omega) (by omega) reads works hrl hwl) rfl (by simp [e0, eq0, e2, eq2, e4, eq4, e6, eq6, e8, eq8, e10, eq10, e12, eq12, e14, eq14, e16, eq16, e18, eq18, e20, eq20, e22, eq22, e24, eq24, e26, eq26, e28, eq28, e30, eq30, e32, eq32, e34, eq34, e36, eq36, e38, eq38, e40, eq40, e42, eq42, e44, eq44, e46, eq46, e48, eq48, e50, eq50, e52, eq52, e54, eq54, e56, eq56, e58, eq58, e60, eq60, e62, eq62, e64, eq64, e66, eq66, e68, eq68, e70, eq70, e72, eq72, e74, eq74, e76, eq76, e78, eq78, e80, eq80, e82, eq82]) (by simp [go_sem, wkI_8, e0, eq0, e2, eq2, e4, eq4, e6, eq6, e8, eq8, e10, eq10, e12, eq12, e14, eq14, e16, eq16, e18, eq18, e20, eq20, e22, eq22, e24, eq24, e26, eq26, e28, eq28, e30, eq30, e32, eq32, e34, eq34, e36, eq36, e38, eq38, e40, eq40, e42, eq42, e44, eq44, e46, eq46, e48, eq48, e50, eq50, e52, eq52, e54, eq54, e56, eq56, e58, eq58, e60, eq60, e62, eq62, e64, eq64, e66, eq66, e68, eq68, e70, eq70, e72, eq72, e74, eq74, e76, eq76, e78, eq78, e80, eq80, e82, eq82]) fun k9 hk9 => ?_
        have a0 : ¬ k9 = 0 := by omega
        have aq0 : ¬ 0 = k9 := by omega
        have a2 : ¬ k9 = 1 := by omega
        have aq2 : ¬ 1 = k9 := by omega
        have a4 : ¬ k9 = 2 := by omega
        have aq4 : ¬ 2 = k9 := by omega
        have a6 : ¬ k9 = 3 := by omega
        have aq6 : ¬ 3 = k9 := by omega
        have a8 : ¬ k9 = 4 := by omega
        have aq8 : ¬ 4 = k9 := by omega
        have a10 : ¬ k9 = 5 := by omega
        have aq10 : ¬ 5 = k9 := by omega
        have a12 : ¬ k9 = 6 := by omega
        have aq12 : ¬ 6 = k9 := by omega
        have a14 : ¬ k9 = 7 := by omega
        have aq14 : ¬ 7 = k9 := by omega
        have a16 : ¬ k9 = 8 := by omega
        have aq16 : ¬ 8 = k9 := by omega
        have a18 : ¬ k9 = 9 := by omega
        have aq18 : ¬ 9 = k9 := by omega
        have a20 : ¬ k9 = 10 := by omega
        have aq20 : ¬ 10 = k9 := by omega
        have a22 : ¬ k9 = 11 := by omega
        have aq22 : ¬ 11 = k9 := by omega
        have a24 : ¬ k9 = 12 := by omega
        have aq24 : ¬ 12 = k9 := by omega
        have a26 : ¬ rL = k9 + 0 := by omega
        have aq26 : ¬ k9 + 0 = rL := by omega
        have a28 : ¬ rL = k9 + 9 := by omega
        have aq28 : ¬ k9 + 9 = rL := by omega
        have a30 : ¬ rL = k9 + 10 := by omega
        have aq30 : ¬ k9 + 10 = rL := by omega
        have a32 : ¬ rL = k9 + 20 := by omega
        have aq32 : ¬ k9 + 20 = rL := by omega
        have a34 : ¬ rL = k9 + 21 := by omega
        have aq34 : ¬ k9 + 21 = rL := by omega
        have a36 : ¬ rR = k9 + 0 := by omega
        have aq36 : ¬ k9 + 0 = rR := by omega
        have a38 : ¬ rR = k9 + 9 := by omega
        have aq38 : ¬ k9 + 9 = rR := by omega
        have a40 : ¬ rR = k9 + 10 := by omega
        have aq40 : ¬ k9 + 10 = rR := by omega
        have a42 : ¬ rR = k9 + 20 := by omega
        have aq42 : ¬ k9 + 20 = rR := by omega
        have a44 : ¬ rR = k9 + 21 := by omega
        have aq44 : ¬ k9 + 21 = rR := by omega
        have a46 : ¬ j = k9 + 0 := by omega
        have aq46 : ¬ k9 + 0 = j := by omega
        have a48 : ¬ j = k9 + 9 := by omega
        have aq48 : ¬ k9 + 9 = j := by omega
        have a50 : ¬ j = k9 + 10 := by omega
        have aq50 : ¬ k9 + 10 = j := by omega
        have a52 : ¬ j = k9 + 20 := by omega
        have aq52 : ¬ k9 + 20 = j := by omega
        have a54 : ¬ j = k9 + 21 := by omega
        have aq54 : ¬ k9 + 21 = j := by omega
        simp [go_sem, e0, eq0, e2, eq2, e4, eq4, e6, eq6, e8, eq8, e10, eq10, e12, eq12, e14, eq14, e16, eq16, e18, eq18, e20, eq20, e22, eq22, e24, eq24, e26, eq26, e28, eq28, e30, eq30, e32, eq32, e34, eq34, e36, eq36, e38, eq38, e40, eq40, e42, eq42, e44, eq44, e46, eq46, e48, eq48, e50, eq50, e52, eq52, e54, eq54, e56, eq56, e58, eq58, e60, eq60, e62, eq62, e64, eq64, e66, eq66, e68, eq68, e70, eq70, e72, eq72, e74, eq74, e76, eq76, e78, eq78, e80, eq80, e82, eq82]
        refine hK _ ?_; clear hK K
        refine cond_k rfl (fun h => ?_) (fun h => ?_)
        · have hR2 : (runT reads works 0 l ⟨w0, s.f, 0, s.k⟩).2 = false := by simpa using h
          clear h
          refine region_e T_ok (by decide) fun K hK => ?_
          simp [go_sem, e0, eq0, e2, eq2, e4, eq4, e6, eq6, e8, eq8, e10, eq10, e12, eq12, e14, eq14, e16, eq16, e18, eq18, e20, eq20, e22, eq22, e24, eq24, e26, eq26, e28, eq28, e30, eq30, e32, eq32, e34, eq34, e36, eq36, e38, eq38, e40, eq40, e42, eq42, e44, eq44, e46, eq46, e48, eq48, e50, eq50, e52, eq52, e54, eq54, e56, eq56, e58, eq58, e60, eq60, e62, eq62, e64, eq64, e66, eq66, e68, eq68, e70, eq70, e72, eq72, e74, eq74, e76, eq76, e78, eq78, e80, eq80, e82, eq82, a0, aq0, a2, aq2, a4, aq4, a6, aq6, a8, aq8, a10, aq10, a12, aq12, a14, aq14, a16, aq16, a18, aq18, a20, aq20, a22, aq22, a24, aq24, a26, aq26, a28, aq28, a30, aq30, a32, aq32, a34, aq34, a36, aq36, a38, aq38, a40, aq40, a42, aq42, a44, aq44, a46, aq46, a48, aq48, a50, aq50, a52, aq52, a54, aq54]
          refine hK _ ?_; clear hK K
          refine ⟨k9, by omega, ?_⟩
          refine Weaker.fzk 1 0 (by omega) ?_ ?_ ?_
          · simp [go_sem, e0, eq0, e2, eq2, e4, eq4, e6, eq6, e8, eq8, e10, eq10, e12, eq12, e14, eq14, e16, eq16, e18, eq18, e20, eq20, e22, eq22, e24, eq24, e26, eq26, e28, eq28, e30, eq30, e32, eq32, e34, eq34, e36, eq36, e38, eq38, e40, eq40, e42, eq42, e44, eq44, e46, eq46, e48, eq48, e50, eq50, e52, eq52, e54, eq54, e56, eq56, e58, eq58, e60, eq60, e62, eq62, e64, eq64, e66, eq66, e68, eq68, e70, eq70, e72, eq72, e74, eq74, e76, eq76, e78, eq78, e80, eq80, e82, eq82, a0, aq0, a2, aq2, a4, aq4, a6, aq6, a8, aq8, a10, aq10, a12, aq12, a14, aq14, a16, aq16, a18, aq18, a20, aq20, a22, aq22, a24, aq24, a26, aq26, a28, aq28, a30, aq30, a32, aq32, a34, aq34, a36, aq36, a38, aq38, a40, aq40, a42, aq42, a44, aq44, a46, aq46, a48, aq48, a50, aq50, a52, aq52, a54, aq54, hR2]
          · first | (simp; done) | (simp; omega)
          · simp [go_sem, e0, eq0, e2, eq2, e4, eq4, e6, eq6, e8, eq8, e10, eq10, e12, eq12, e14, eq14, e16, eq16, e18, eq18, e20, eq20, e22, eq22, e24, eq24, e26, eq26, e28, eq28, e30, eq30, e32, eq32, e34, eq34, e36, eq36, e38, eq38, e40, eq40, e42, eq42, e44, eq44, e46, eq46, e48, eq48, e50, eq50, e52, eq52, e54, eq54, e56, eq56, e58, eq58, e60, eq60, e62, eq62, e64, eq64, e66, eq66, e68, eq68, e70, eq70, e72, eq72, e74, eq74, e76, eq76, e78, eq78, e80, eq80, e82, eq82, a0, aq0, a2, aq2, a4, aq4, a6, aq6, a8, aq8, a10, aq10, a12, aq12, a14, aq14, a16, aq16, a18, aq18, a20, aq20, a22, aq22, a24, aq24, a26, aq26, a28, aq28, a30, aq30, a32, aq32, a34, aq34, a36, aq36, a38, aq38, a40, aq40, a42, aq42, a44, aq44, a46, aq46, a48, aq48, a50, aq50, a52, aq52, a54, aq54, hR2]
        · have hR2 : (runT reads works 0 l ⟨w0, s.f, 0, s.k⟩).2 = true := by simpa using h
          clear h
          refine tr_skip ?_
          refine ⟨k9, by omega, ?_⟩
          refine Weaker.fzk 1 0 (by omega) ?_ ?_ ?_
          · simp [go_sem, e0, eq0, e2, eq2, e4, eq4, e6, eq6, e8, eq8, e10, eq10, e12, eq12, e14, eq14, e16, eq16, e18, eq18, e20, eq20, e22, eq22, e24, eq24, e26, eq26, e28, eq28, e30, eq30, e32, eq32, e34, eq34, e36, eq36, e38, eq38, e40, eq40, e42, eq42, e44, eq44, e46, eq46, e48, eq48, e50, eq50, e52, eq52, e54, eq54, e56, eq56, e58, eq58, e60, eq60, e62, eq62, e64, eq64, e66, eq66, e68, eq68, e70, eq70, e72, eq72, e74, eq74, e76, eq76, e78, eq78, e80, eq80, e82, eq82, a0, aq0, a2, aq2, a4, aq4, a6, aq6, a8, aq8, a10, aq10, a12, aq12, a14, aq14, a16, aq16, a18, aq18, a20, aq20, a22, aq22, a24, aq24, a26, aq26, a28, aq28, a30, aq30, a32, aq32, a34, aq34, a36, aq36, a38, aq38, a40, aq40, a42, aq42, a44, aq44, a46, aq46, a48, aq48, a50, aq50, a52, aq52, a54, aq54, hR2]
          · first | (simp; done) | (simp; omega)
          · simp [go_sem, e0, eq0, e2, eq2, e4, eq4, e6, eq6, e8, eq8, e10, eq10, e12, eq12, e14, eq14, e16, eq16, e18, eq18, e20, eq20, e22, eq22, e24, eq24, e26, eq26, e28, eq28, e30, eq30, e32, eq32, e34, eq34, e36, eq36, e38, eq38, e40, eq40, e42, eq42, e44, eq44, e46, eq46, e48, eq48, e50, eq50, e52, eq52, e54, eq54, e56, eq56, e58, eq58, e60, eq60, e62, eq62, e64, eq64, e66, eq66, e68, eq68, e70, eq70, e72, eq72, e74, eq74, e76, eq76, e78, eq78, e80, eq80, e82, eq82, a0, aq0, a2, aq2, a4, aq4, a6, aq6, a8, aq8, a10, aq10, a12, aq12, a14, aq14, a16, aq16, a18, aq18, a20, aq20, a22, aq22, a24, aq24, a26, aq26, a28, aq28, a30, aq30, a32, aq32, a34, aq34, a36, aq36, a38, aq38, a40, aq40, a42, aq42, a44, aq44, a46, aq46, a48, aq48, a50, aq50, a52, aq52, a54, aq54, hR2]
      · intro k9 hk9
        have a0 : ¬ k9 = 0 := by omega
        have aq0 : ¬ 0 = k9 := by omega
        have a2 : ¬ k9 = 1 := by omega
        have aq2 : ¬ 1 = k9 := by omega
        have a4 : ¬ k9 = 2 := by omega
        have aq4 : ¬ 2 = k9 := by omega
        have a6 : ¬ k9 = 3 := by omega
        have aq6 : ¬ 3 = k9 := by omega
        have a8 : ¬ k9 = 4 := by omega
        have aq8 : ¬ 4 = k9 := by omega
        have a10 : ¬ k9 = 5 := by omega
        have aq10 : ¬ 5 = k9 := by omega
        have a12 : ¬ k9 = 6 := by omega
        have aq12 : ¬ 6 = k9 := by omega
        have a14 : ¬ k9 = 7 := by omega
        have aq14 : ¬ 7 = k9 := by omega
        have a16 : ¬ k9 = 8 := by omega
        have aq16 : ¬ 8 = k9 := by omega
        have a18 : ¬ k9 = 9 := by omega
        have aq18 : ¬ 9 = k9 := by omega
        have a20 : ¬ k9 = 10 := by omega
        have aq20 : ¬ 10 = k9 := by omega
        have a22 : ¬ k9 = 11 := by omega
        have aq22 : ¬ 11 = k9 := by omega
        have a24 : ¬ k9 = 12 := by omega
        have aq24 : ¬ 12 = k9 := by omega
        have a26 : ¬ rL = k9 + 0 := by omega
        have aq26 : ¬ k9 + 0 = rL := by omega
        have a28 : ¬ rL = k9 + 9 := by omega
        have aq28 : ¬ k9 + 9 = rL := by omega
        have a30 : ¬ rL = k9 + 10 := by omega
        have aq30 : ¬ k9 + 10 = rL := by omega
        have a32 : ¬ rL = k9 + 20 := by omega
        have aq32 : ¬ k9 + 20 = rL := by omega
        have a34 : ¬ rL = k9 + 21 := by omega
        have aq34 : ¬ k9 + 21 = rL := by omega
        have a36 : ¬ rR = k9 + 0 := by omega
        have aq36 : ¬ k9 + 0 = rR := by omega
        have a38 : ¬ rR = k9 + 9 := by omega
        have aq38 : ¬ k9 + 9 = rR := by omega
        have a40 : ¬ rR = k9 + 10 := by omega
        have aq40 : ¬ k9 + 10 = rR := by omega
        have a42 : ¬ rR = k9 + 20 := by omega
        have aq42 : ¬ k9 + 20 = rR := by omega
        have a44 : ¬ rR = k9 + 21 := by omega
        have aq44 : ¬ k9 + 21 = rR := by omega
        have a46 : ¬ j = k9 + 0 := by omega
        have aq46 : ¬ k9 + 0 = j := by omega
        have a48 : ¬ j = k9 + 9 := by omega
        have aq48 : ¬ k9 + 9 = j := by omega
        have a50 : ¬ j = k9 + 10 := by omega
        have aq50 : ¬ k9 + 10 = j := by omega
        have a52 : ¬ j = k9 + 20 := by omega
        have aq52 : ¬ k9 + 20 = j := by omega
        have a54 : ¬ j = k9 + 21 := by omega
        have aq54 : ¬ k9 + 21 = j := by omega
        refine draw_k T_ok (by kernel_rfl) 11 [[], [], [1], [1, 2], [1, 2, 3], [], [5], [5, 6], [5, 6, 7], [5, 6, 7, 8], [1, 2, 3, 4, 5, 6, 7, 8, 9], [0, 1, 2, 3, 4, 5, 6, 7, 8, 9, 10], [0, 1, 2, 3, 4, 5, 6, 7, 8, 9, 10, 11], [0, 1, 2, 3, 4, 5, 6, 7, 8, 9, 10, 11, 12]] [(0, 9), (1, 9), (2, 9), (3, 9), (4, 9), (0, 10)] (by decide) (by decide) (by decide) fun K hK => ?_
        first | dsimp only [List.take, List.drop] | dsimp [List.take, List.drop]
        simp [go_sem, e0, eq0, e2, eq2, e4, eq4, e6, eq6, e8, eq8, e10, eq10, e12, eq12, e14, eq14, e16, eq16, e18, eq18, e20, eq20, e22, eq22, e24, eq24, e26, eq26, e28, eq28, e30, eq30, e32, eq32, e34, eq34, e36, eq36, e38, eq38, e40, eq40, e42, eq42, e44, eq44, e46, eq46, e48, eq48, e50, eq50, e52, eq52, e54, eq54, e56, eq56, e58, eq58, e60, eq60, e62, eq62, e64, eq64, e66, eq66, e68, eq68, e70, eq70, e72, eq72, e74, eq74, e76, eq76, e78, eq78, e80, eq80, e82, eq82, a0, aq0, a2, aq2, a4, aq4, a6, aq6, a8, aq8, a10, aq10, a12, aq12, a14, aq14, a16, aq16, a18, aq18, a20, aq20, a22, aq22, a24, aq24, a26, aq26, a28, aq28, a30, aq30, a32, aq32, a34, aq34, a36, aq36, a38, aq38, a40, aq40, a42, aq42, a44, aq44, a46, aq46, a48, aq48, a50, aq50, a52, aq52, a54, aq54, hll, hrl2, htr]
        refine ⟨regs_one _, by omega, ?_⟩
        refine hK _ ?_; clear hK K
        refine draw_k T_ok (by kernel_rfl) 11 [[], [], [1], [1, 2], [1, 2, 3], [], [5], [5, 6], [5, 6, 7], [5, 6, 7, 8], [1, 2, 3, 4, 5, 6, 7, 8, 9], [0, 1, 2, 3, 4, 5, 6, 7, 8, 9, 10], [0, 1, 2, 3, 4, 5, 6, 7, 8, 9, 10, 11], [0, 1, 2, 3, 4, 5, 6, 7, 8, 9, 10, 11, 12]] [(0, 9), (1, 9), (2, 9), (3, 9), (4, 9), (0, 10)] (by decide) (by decide) (by decide) fun K hK => ?_
        first | dsimp only [List.take, List.drop] | dsimp [List.take, List.drop]
        simp [go_sem, e0, eq0, e2, eq2, e4, eq4, e6, eq6, e8, eq8, e10, eq10, e12, eq12, e14, eq14, e16, eq16, e18, eq18, e20, eq20, e22, eq22, e24, eq24, e26, eq26, e28, eq28, e30, eq30, e32, eq32, e34, eq34, e36, eq36, e38, eq38, e40, eq40, e42, eq42, e44, eq44, e46, eq46, e48, eq48, e50, eq50, e52, eq52, e54, eq54, e56, eq56, e58, eq58, e60, eq60, e62, eq62, e64, eq64, e66, eq66, e68, eq68, e70, eq70, e72, eq72, e74, eq74, e76, eq76, e78, eq78, e80, eq80, e82, eq82, a0, aq0, a2, aq2, a4, aq4, a6, aq6, a8, aq8, a10, aq10, a12, aq12, a14, aq14, a16, aq16, a18, aq18, a20, aq20, a22, aq22, a24, aq24, a26, aq26, a28, aq28, a30, aq30, a32, aq32, a34, aq34, a36, aq36, a38, aq38, a40, aq40, a42, aq42, a44, aq44, a46, aq46, a48, aq48, a50, aq50, a52, aq52, a54, aq54, hll, hrl2, htl]
        refine ⟨by omega, ?_⟩
        refine hK _ ?_; clear hK K
        refine seq_k fun K7 hK7 => ?_
        refine region_k T_ok (by decide) fun K hK => ?_
        simp [go_sem, e0, eq0, e2, eq2, e4, eq4, e6, eq6, e8, eq8, e10, eq10, e12, eq12, e14, eq14, e16, eq16, e18, eq18, e20, eq20, e22, eq22, e24, eq24, e26, eq26, e28, eq28, e30, eq30, e32, eq32, e34, eq34, e36, eq36, e38, eq38, e40, eq40, e42, eq42, e44, eq44, e46, eq46, e48, eq48, e50, eq50, e52, eq52, e54, eq54, e56, eq56, e58, eq58, e60, eq60, e62, eq62, e64, eq64, e66, eq66, e68, eq68, e70, eq70, e72, eq72, e74, eq74, e76, eq76, e78, eq78, e80, eq80, e82, eq82, a0, aq0, a2, aq2, a4, aq4, a6, aq6, a8, aq8, a10, aq10, a12, aq12, a14, aq14, a16, aq16, a18, aq18, a20, aq20, a22, aq22, a24, aq24, a26, aq26, a28, aq28, a30, aq30, a32, aq32, a34, aq34, a36, aq36, a38, aq38, a40, aq40, a42, aq42, a44, aq44, a46, aq46, a48, aq48, a50, aq50, a52, aq52, a54, aq54]
        refine hK _ ?_; clear hK K
        refine tr_block ?_
        refine loop_p (α := Nat × Nat) (fun b => ⟨125, [(0, .rp t.cs 0), (1, .ro 2 (vls reads)), (2, .ro 1 (bVs works)), (8, .ptr 12 0 0), (38, .ro 1 (thrs t.ths)), (39, iV (t.ths.length : Nat)), (9, iV (s.k : Nat)), (40, iV (i : Nat)), (11, .ro 13 (inss l)), (96, .agg (regsC (runT reads works 0 l ⟨w0, s.f, 0, s.k⟩).1.w.regs)), (97, iV (b.1 : Nat))], [(12, .rows 9 [.agg [.sl 1 0 m, .sl 3 0 m, .sl 5 0 m, .sl 7 0 m, .sl 9 0 m, .sl 11 0 m, .sl (k9 + 21) 0 (s.left.length + 1), .sl (k9 + 10) 0 (s.regs.length + 1), bV (whP s.whole (runT reads works 0 l ⟨w0, s.f, 0, s.k⟩).2 (runT reads works 0 l ⟨w0, s.f, 0, s.k⟩).1.w.regs b.1)]]), (1, .rows 1 (iVs (runT reads works 0 l ⟨w0, s.f, 0, s.k⟩).1.f.state)), (3, .rows 2 (vls (runT reads works 0 l ⟨w0, s.f, 0, s.k⟩).1.f.write)), (5, .rows 1 (iVs (runT reads works 0 l ⟨w0, s.f, 0, s.k⟩).1.f.pair)), (7, .rows 1 (uVs (runT reads works 0 l ⟨w0, s.f, 0, s.k⟩).1.f.place)), (9, .rows 1 (uVs (runT reads works 0 l ⟨w0, s.f, 0, s.k⟩).1.f.value)), (11, .rows 1 (uVs (runT reads works 0 l ⟨w0, s.f, 0, s.k⟩).1.f.path)), ((k9 + 21), .rows 1 (uVs (s.left ++ [(runT reads works 0 l ⟨w0, s.f, 0, s.k⟩).1.w.left]))), ((k9 + 10), .rows 16 (regsRows (s.regs ++ [(runT reads works 0 l ⟨w0, s.f, 0, s.k⟩).1.w.regs])))], b.2⟩) (fun b => b.1 ≤ 8 ∧ k9 + 22 ≤ b.2) (fun b => 8 - b.1) (0, k9 + 22) ?_ ?_ ?_
        · dsimp only; omega
        · refine Weaker.fz 1 0 ?_ ?_ ?_
          · simp [go_sem, e0, eq0, e2, eq2, e4, eq4, e6, eq6, e8, eq8, e10, eq10, e12, eq12, e14, eq14, e16, eq16, e18, eq18, e20, eq20, e22, eq22, e24, eq24, e26, eq26, e28, eq28, e30, eq30, e32, eq32, e34, eq34, e36, eq36, e38, eq38, e40, eq40, e42, eq42, e44, eq44, e46, eq46, e48, eq48, e50, eq50, e52, eq52, e54, eq54, e56, eq56, e58, eq58, e60, eq60, e62, eq62, e64, eq64, e66, eq66, e68, eq68, e70, eq70, e72, eq72, e74, eq74, e76, eq76, e78, eq78, e80, eq80, e82, eq82, a0, aq0, a2, aq2, a4, aq4, a6, aq6, a8, aq8, a10, aq10, a12, aq12, a14, aq14, a16, aq16, a18, aq18, a20, aq20, a22, aq22, a24, aq24, a26, aq26, a28, aq28, a30, aq30, a32, aq32, a34, aq34, a36, aq36, a38, aq38, a40, aq40, a42, aq42, a44, aq44, a46, aq46, a48, aq48, a50, aq50, a52, aq52, a54, aq54]
          · first | (simp; done) | (simp; omega)
          · intro p hp; simp only [List.mem_cons, List.not_mem_nil, or_false] at hp; rcases hp with rfl|rfl|rfl|rfl|rfl|rfl|rfl|rfl|rfl <;> simp [go_sem, whP_zero, regsRows_append, uVs_append, hll, hrl2, e0, eq0, e2, eq2, e4, eq4, e6, eq6, e8, eq8, e10, eq10, e12, eq12, e14, eq14, e16, eq16, e18, eq18, e20, eq20, e22, eq22, e24, eq24, e26, eq26, e28, eq28, e30, eq30, e32, eq32, e34, eq34, e36, eq36, e38, eq38, e40, eq40, e42, eq42, e44, eq44, e46, eq46, e48, eq48, e50, eq50, e52, eq52, e54, eq54, e56, eq56, e58, eq58, e60, eq60, e62, eq62, e64, eq64, e66, eq66, e68, eq68, e70, eq70, e72, eq72, e74, eq74, e76, eq76, e78, eq78, e80, eq80, e82, eq82, a0, aq0, a2, aq2, a4, aq4, a6, aq6, a8, aq8, a10, aq10, a12, aq12, a14, aq14, a16, aq16, a18, aq18, a20, aq20, a22, aq22, a24, aq24, a26, aq26, a28, aq28, a30, aq30, a32, aq32, a34, aq34, a36, aq36, a38, aq38, a40, aq40, a42, aq42, a44, aq44, a46, aq46, a48, aq48, a50, aq50, a52, aq52, a54, aq54]
        rintro ⟨b, c⟩ ⟨hb, hc⟩
        dsimp only at hb hc ⊢
        refine region_k T_ok (by decide) fun K hK => ?_
        simp [go_sem]
        refine hK _ ?_; clear hK K
        refine seq_k fun K8 hK8 => ?_
        refine cond_k rfl (fun h => ?_) (fun h => ?_)
        · simp at h
          have hI4 : (b : Int) < 8 := h
          clear h
          have h'4 : b < 8 := by omega
          have hi04 : (0 : Int) ≤ (b : Nat) := by omega
          have hw4 : IntKind.i64.wrap ((b : Nat) + 1) = (b : Nat) + 1 := wrap_i64 (by omega) (by omega)
          have hb164 : b * 2 + 2 ≤ 16 := by omega
          have hb294 : 1 + b * 2 + 1 ≤ 29 := by omega
          have b0 : ¬ c = 0 := by omega
          have bq0 : ¬ 0 = c := by omega
          have b2 : ¬ c = 1 := by omega
          have bq2 : ¬ 1 = c := by omega
          have b4 : ¬ c = 2 := by omega
          have bq4 : ¬ 2 = c := by omega
          have b6 : ¬ c = 3 := by omega
          have bq6 : ¬ 3 = c := by omega
          have b8 : ¬ c = 4 := by omega
          have bq8 : ¬ 4 = c := by omega
          have b10 : ¬ c = 5 := by omega
          have bq10 : ¬ 5 = c := by omega
          have b12 : ¬ c = 6 := by omega
          have bq12 : ¬ 6 = c := by omega
          have b14 : ¬ c = 7 := by omega
          have bq14 : ¬ 7 = c := by omega
          have b16 : ¬ c = 8 := by omega
          have bq16 : ¬ 8 = c := by omega
          have b18 : ¬ c = 9 := by omega
          have bq18 : ¬ 9 = c := by omega
          have b20 : ¬ c = 10 := by omega
          have bq20 : ¬ 10 = c := by omega
          have b22 : ¬ c = 11 := by omega
          have bq22 : ¬ 11 = c := by omega
          have b24 : ¬ c = 12 := by omega
          have bq24 : ¬ 12 = c := by omega
          have b26 : ¬ c = j := by omega
          have bq26 : ¬ j = c := by omega
          have b28 : ¬ c = k9 + 10 := by omega
          have bq28 : ¬ k9 + 10 = c := by omega
          have b30 : ¬ c = k9 + 21 := by omega
          have bq30 : ¬ k9 + 21 = c := by omega
          refine tr_skip ?_
          refine hK8 _ ?_; try clear hK8 K8
          refine seq_k fun K9 hK9 => ?_
          refine tr_block ?_
          refine region_k T_ok (by decide) fun K hK => ?_
          simp [go_sem, hI4, h'4, hi04, hb164, hb294, e0, eq0, e2, eq2, e4, eq4, e6, eq6, e8, eq8, e10, eq10, e12, eq12, e14, eq14, e16, eq16, e18, eq18, e20, eq20, e22, eq22, e24, eq24, e26, eq26, e28, eq28, e30, eq30, e32, eq32, e34, eq34, e36, eq36, e38, eq38, e40, eq40, e42, eq42, e44, eq44, e46, eq46, e48, eq48, e50, eq50, e52, eq52, e54, eq54, e56, eq56, e58, eq58, e60, eq60, e62, eq62, e64, eq64, e66, eq66, e68, eq68, e70, eq70, e72, eq72, e74, eq74, e76, eq76, e78, eq78, e80, eq80, e82, eq82, a0, aq0, a2, aq2, a4, aq4, a6, aq6, a8, aq8, a10, aq10, a12, aq12, a14, aq14, a16, aq16, a18, aq18, a20, aq20, a22, aq22, a24, aq24, a26, aq26, a28, aq28, a30, aq30, a32, aq32, a34, aq34, a36, aq36, a38, aq38, a40, aq40, a42, aq42, a44, aq44, a46, aq46, a48, aq48, a50, aq50, a52, aq52, a54, aq54, b0, bq0, b2, bq2, b4, bq4, b6, bq6, b8, bq8, b10, bq10, b12, bq12, b14, bq14, b16, bq16, b18, bq18, b20, bq20, b22, bq22, b24, bq24, b26, bq26, b28, bq28, b30, bq30]
          refine hK _ ?_; clear hK K
          refine region_e T_ok (by decide) fun K hK => ?_
          cases hW : (whP s.whole (runT reads works 0 l ⟨w0, s.f, 0, s.k⟩).2 (runT reads works 0 l ⟨w0, s.f, 0, s.k⟩).1.w.regs b)
          · simp [go_sem, hW, e0, eq0, e2, eq2, e4, eq4, e6, eq6, e8, eq8, e10, eq10, e12, eq12, e14, eq14, e16, eq16, e18, eq18, e20, eq20, e22, eq22, e24, eq24, e26, eq26, e28, eq28, e30, eq30, e32, eq32, e34, eq34, e36, eq36, e38, eq38, e40, eq40, e42, eq42, e44, eq44, e46, eq46, e48, eq48, e50, eq50, e52, eq52, e54, eq54, e56, eq56, e58, eq58, e60, eq60, e62, eq62, e64, eq64, e66, eq66, e68, eq68, e70, eq70, e72, eq72, e74, eq74, e76, eq76, e78, eq78, e80, eq80, e82, eq82, a0, aq0, a2, aq2, a4, aq4, a6, aq6, a8, aq8, a10, aq10, a12, aq12, a14, aq14, a16, aq16, a18, aq18, a20, aq20, a22, aq22, a24, aq24, a26, aq26, a28, aq28, a30, aq30, a32, aq32, a34, aq34, a36, aq36, a38, aq38, a40, aq40, a42, aq42, a44, aq44, a46, aq46, a48, aq48, a50, aq50, a52, aq52, a54, aq54, b0, bq0, b2, bq2, b4, bq4, b6, bq6, b8, bq8, b10, bq10, b12, bq12, b14, bq14, b16, bq16, b18, bq18, b20, bq20, b22, bq22, b24, bq24, b26, bq26, b28, bq28, b30, bq30]
            refine hK _ ?_; clear hK K
            refine hK9 _ ?_; try clear hK9 K9
            refine region_e T_ok (by decide) fun K hK => ?_
            simp [go_sem, hw4]
            refine hK _ ?_; clear hK K
            refine ⟨(b + 1, c + 1), ?_, ?_, ?_⟩
            · dsimp only; omega
            · dsimp only; omega
            · refine Weaker.fz 1 0 ?_ ?_ ?_
              · simp [go_sem, e0, eq0, e2, eq2, e4, eq4, e6, eq6, e8, eq8, e10, eq10, e12, eq12, e14, eq14, e16, eq16, e18, eq18, e20, eq20, e22, eq22, e24, eq24, e26, eq26, e28, eq28, e30, eq30, e32, eq32, e34, eq34, e36, eq36, e38, eq38, e40, eq40, e42, eq42, e44, eq44, e46, eq46, e48, eq48, e50, eq50, e52, eq52, e54, eq54, e56, eq56, e58, eq58, e60, eq60, e62, eq62, e64, eq64, e66, eq66, e68, eq68, e70, eq70, e72, eq72, e74, eq74, e76, eq76, e78, eq78, e80, eq80, e82, eq82, a0, aq0, a2, aq2, a4, aq4, a6, aq6, a8, aq8, a10, aq10, a12, aq12, a14, aq14, a16, aq16, a18, aq18, a20, aq20, a22, aq22, a24, aq24, a26, aq26, a28, aq28, a30, aq30, a32, aq32, a34, aq34, a36, aq36, a38, aq38, a40, aq40, a42, aq42, a44, aq44, a46, aq46, a48, aq48, a50, aq50, a52, aq52, a54, aq54, b0, bq0, b2, bq2, b4, bq4, b6, bq6, b8, bq8, b10, bq10, b12, bq12, b14, bq14, b16, bq16, b18, bq18, b20, bq20, b22, bq22, b24, bq24, b26, bq26, b28, bq28, b30, bq30]
              · first | (simp; done) | (simp; omega)
              simp [go_sem, whP_step, hW, e0, eq0, e2, eq2, e4, eq4, e6, eq6, e8, eq8, e10, eq10, e12, eq12, e14, eq14, e16, eq16, e18, eq18, e20, eq20, e22, eq22, e24, eq24, e26, eq26, e28, eq28, e30, eq30, e32, eq32, e34, eq34, e36, eq36, e38, eq38, e40, eq40, e42, eq42, e44, eq44, e46, eq46, e48, eq48, e50, eq50, e52, eq52, e54, eq54, e56, eq56, e58, eq58, e60, eq60, e62, eq62, e64, eq64, e66, eq66, e68, eq68, e70, eq70, e72, eq72, e74, eq74, e76, eq76, e78, eq78, e80, eq80, e82, eq82, a0, aq0, a2, aq2, a4, aq4, a6, aq6, a8, aq8, a10, aq10, a12, aq12, a14, aq14, a16, aq16, a18, aq18, a20, aq20, a22, aq22, a24, aq24, a26, aq26, a28, aq28, a30, aq30, a32, aq32, a34, aq34, a36, aq36, a38, aq38, a40, aq40, a42, aq42, a44, aq44, a46, aq46, a48, aq48, a50, aq50, a52, aq52, a54, aq54, b0, bq0, b2, bq2, b4, bq4, b6, bq6, b8, bq8, b10, bq10, b12, bq12, b14, bq14, b16, bq16, b18, bq18, b20, bq20, b22, bq22, b24, bq24, b26, bq26, b28, bq28, b30, bq30]
          · simp [go_sem, hW, e0, eq0, e2, eq2, e4, eq4, e6, eq6, e8, eq8, e10, eq10, e12, eq12, e14, eq14, e16, eq16, e18, eq18, e20, eq20, e22, eq22, e24, eq24, e26, eq26, e28, eq28, e30, eq30, e32, eq32, e34, eq34, e36, eq36, e38, eq38, e40, eq40, e42, eq42, e44, eq44, e46, eq46, e48, eq48, e50, eq50, e52, eq52, e54, eq54, e56, eq56, e58, eq58, e60, eq60, e62, eq62, e64, eq64, e66, eq66, e68, eq68, e70, eq70, e72, eq72, e74, eq74, e76, eq76, e78, eq78, e80, eq80, e82, eq82, a0, aq0, a2, aq2, a4, aq4, a6, aq6, a8, aq8, a10, aq10, a12, aq12, a14, aq14, a16, aq16, a18, aq18, a20, aq20, a22, aq22, a24, aq24, a26, aq26, a28, aq28, a30, aq30, a32, aq32, a34, aq34, a36, aq36, a38, aq38, a40, aq40, a42, aq42, a44, aq44, a46, aq46, a48, aq48, a50, aq50, a52, aq52, a54, aq54, b0, bq0, b2, bq2, b4, bq4, b6, bq6, b8, bq8, b10, bq10, b12, bq12, b14, bq14, b16, bq16, b18, bq18, b20, bq20, b22, bq22, b24, bq24, b26, bq26, b28, bq28, b30, bq30]
            refine hK _ ?_; clear hK K
            refine hK9 _ ?_; try clear hK9 K9
            refine region_e T_ok (by decide) fun K hK => ?_
            simp [go_sem, hw4]
            refine hK _ ?_; clear hK K
            refine ⟨(b + 1, c + 1), ?_, ?_, ?_⟩
            · dsimp only; omega
            · dsimp only; omega
            · refine Weaker.fz 1 0 ?_ ?_ ?_
              · simp [go_sem, e0, eq0, e2, eq2, e4, eq4, e6, eq6, e8, eq8, e10, eq10, e12, eq12, e14, eq14, e16, eq16, e18, eq18, e20, eq20, e22, eq22, e24, eq24, e26, eq26, e28, eq28, e30, eq30, e32, eq32, e34, eq34, e36, eq36, e38, eq38, e40, eq40, e42, eq42, e44, eq44, e46, eq46, e48, eq48, e50, eq50, e52, eq52, e54, eq54, e56, eq56, e58, eq58, e60, eq60, e62, eq62, e64, eq64, e66, eq66, e68, eq68, e70, eq70, e72, eq72, e74, eq74, e76, eq76, e78, eq78, e80, eq80, e82, eq82, a0, aq0, a2, aq2, a4, aq4, a6, aq6, a8, aq8, a10, aq10, a12, aq12, a14, aq14, a16, aq16, a18, aq18, a20, aq20, a22, aq22, a24, aq24, a26, aq26, a28, aq28, a30, aq30, a32, aq32, a34, aq34, a36, aq36, a38, aq38, a40, aq40, a42, aq42, a44, aq44, a46, aq46, a48, aq48, a50, aq50, a52, aq52, a54, aq54, b0, bq0, b2, bq2, b4, bq4, b6, bq6, b8, bq8, b10, bq10, b12, bq12, b14, bq14, b16, bq16, b18, bq18, b20, bq20, b22, bq22, b24, bq24, b26, bq26, b28, bq28, b30, bq30]
              · first | (simp; done) | (simp; omega)
              simp [go_sem, whP_step, hW, e0, eq0, e2, eq2, e4, eq4, e6, eq6, e8, eq8, e10, eq10, e12, eq12, e14, eq14, e16, eq16, e18, eq18, e20, eq20, e22, eq22, e24, eq24, e26, eq26, e28, eq28, e30, eq30, e32, eq32, e34, eq34, e36, eq36, e38, eq38, e40, eq40, e42, eq42, e44, eq44, e46, eq46, e48, eq48, e50, eq50, e52, eq52, e54, eq54, e56, eq56, e58, eq58, e60, eq60, e62, eq62, e64, eq64, e66, eq66, e68, eq68, e70, eq70, e72, eq72, e74, eq74, e76, eq76, e78, eq78, e80, eq80, e82, eq82, a0, aq0, a2, aq2, a4, aq4, a6, aq6, a8, aq8, a10, aq10, a12, aq12, a14, aq14, a16, aq16, a18, aq18, a20, aq20, a22, aq22, a24, aq24, a26, aq26, a28, aq28, a30, aq30, a32, aq32, a34, aq34, a36, aq36, a38, aq38, a40, aq40, a42, aq42, a44, aq44, a46, aq46, a48, aq48, a50, aq50, a52, aq52, a54, aq54, b0, bq0, b2, bq2, b4, bq4, b6, bq6, b8, bq8, b10, bq10, b12, bq12, b14, bq14, b16, bq16, b18, bq18, b20, bq20, b22, bq22, b24, bq24, b26, bq26, b28, bq28, b30, bq30]
        · simp at h
          obtain rfl : b = 8 := by omega
          refine tr_exit ?_
          refine hK7 _ ?_; try clear hK7 K7
          refine region_k T_ok (by decide) fun K hK => ?_
          simp [go_sem]
          refine hK _ ?_; clear hK K
          refine tr_block ?_
          refine loop_p (α := Nat × Nat) (fun b => ⟨125, [(0, .rp t.cs 0), (1, .ro 2 (vls reads)), (2, .ro 1 (bVs works)), (8, .ptr 12 0 0), (38, .ro 1 (thrs t.ths)), (39, iV (t.ths.length : Nat)), (112, .ro 13 (inss l)), (113, iV (l.length : Nat)), (114, iV (b.1 : Nat)), (9, iV (kP s.k l b.1 : Nat)), (40, iV (i : Nat))], [(12, .rows 9 [.agg [.sl 1 0 m, .sl 3 0 m, .sl 5 0 m, .sl 7 0 m, .sl 9 0 m, .sl 11 0 m, .sl (k9 + 21) 0 (s.left.length + 1), .sl (k9 + 10) 0 (s.regs.length + 1), bV (whP s.whole (runT reads works 0 l ⟨w0, s.f, 0, s.k⟩).2 (runT reads works 0 l ⟨w0, s.f, 0, s.k⟩).1.w.regs 8)]]), (1, .rows 1 (iVs (runT reads works 0 l ⟨w0, s.f, 0, s.k⟩).1.f.state)), (3, .rows 2 (vls (runT reads works 0 l ⟨w0, s.f, 0, s.k⟩).1.f.write)), (5, .rows 1 (iVs (runT reads works 0 l ⟨w0, s.f, 0, s.k⟩).1.f.pair)), (7, .rows 1 (uVs (runT reads works 0 l ⟨w0, s.f, 0, s.k⟩).1.f.place)), (9, .rows 1 (uVs (runT reads works 0 l ⟨w0, s.f, 0, s.k⟩).1.f.value)), (11, .rows 1 (uVs (runT reads works 0 l ⟨w0, s.f, 0, s.k⟩).1.f.path)), ((k9 + 21), .rows 1 (uVs (s.left ++ [(runT reads works 0 l ⟨w0, s.f, 0, s.k⟩).1.w.left]))), ((k9 + 10), .rows 16 (regsRows (s.regs ++ [(runT reads works 0 l ⟨w0, s.f, 0, s.k⟩).1.w.regs])))], b.2⟩) (fun b => b.1 ≤ l.length ∧ k9 + 22 ≤ b.2) (fun b => l.length - b.1) (0, c) ?_ ?_ ?_
          · dsimp only; omega
          · refine Weaker.fz 1 0 ?_ ?_ ?_
            · simp [go_sem, kP_zero, e0, eq0, e2, eq2, e4, eq4, e6, eq6, e8, eq8, e10, eq10, e12, eq12, e14, eq14, e16, eq16, e18, eq18, e20, eq20, e22, eq22, e24, eq24, e26, eq26, e28, eq28, e30, eq30, e32, eq32, e34, eq34, e36, eq36, e38, eq38, e40, eq40, e42, eq42, e44, eq44, e46, eq46, e48, eq48, e50, eq50, e52, eq52, e54, eq54, e56, eq56, e58, eq58, e60, eq60, e62, eq62, e64, eq64, e66, eq66, e68, eq68, e70, eq70, e72, eq72, e74, eq74, e76, eq76, e78, eq78, e80, eq80, e82, eq82, a0, aq0, a2, aq2, a4, aq4, a6, aq6, a8, aq8, a10, aq10, a12, aq12, a14, aq14, a16, aq16, a18, aq18, a20, aq20, a22, aq22, a24, aq24, a26, aq26, a28, aq28, a30, aq30, a32, aq32, a34, aq34, a36, aq36, a38, aq38, a40, aq40, a42, aq42, a44, aq44, a46, aq46, a48, aq48, a50, aq50, a52, aq52, a54, aq54]
            · first | (simp; done) | (simp; omega)
            · simp [go_sem, e0, eq0, e2, eq2, e4, eq4, e6, eq6, e8, eq8, e10, eq10, e12, eq12, e14, eq14, e16, eq16, e18, eq18, e20, eq20, e22, eq22, e24, eq24, e26, eq26, e28, eq28, e30, eq30, e32, eq32, e34, eq34, e36, eq36, e38, eq38, e40, eq40, e42, eq42, e44, eq44, e46, eq46, e48, eq48, e50, eq50, e52, eq52, e54, eq54, e56, eq56, e58, eq58, e60, eq60, e62, eq62, e64, eq64, e66, eq66, e68, eq68, e70, eq70, e72, eq72, e74, eq74, e76, eq76, e78, eq78, e80, eq80, e82, eq82, a0, aq0, a2, aq2, a4, aq4, a6, aq6, a8, aq8, a10, aq10, a12, aq12, a14, aq14, a16, aq16, a18, aq18, a20, aq20, a22, aq22, a24, aq24, a26, aq26, a28, aq28, a30, aq30, a32, aq32, a34, aq34, a36, aq36, a38, aq38, a40, aq40, a42, aq42, a44, aq44, a46, aq46, a48, aq48, a50, aq50, a52, aq52, a54, aq54]
          rintro ⟨b, c6⟩ ⟨hb6, hc6⟩
          dsimp only at hb6 hc6 ⊢
          refine region_k T_ok (by decide) fun K hK => ?_
          simp [go_sem]
          refine hK _ ?_; clear hK K
          refine seq_k fun K10 hK10 => ?_
          refine cond_k rfl (fun h => ?_) (fun h => ?_)
          · simp at h
            have hI6 := h
            clear h
            have h'6 : b < (l).length := by omega
            obtain ⟨x, hx6, hx'6⟩ := getAt h'6
            have hi06 : (0 : Int) ≤ (b : Nat) := by omega
            have hw6 : IntKind.i64.wrap ((b : Nat) + 1) = (b : Nat) + 1 := wrap_i64 (by omega) (by omega)
            have d0 : ¬ c6 = 0 := by omega
            have dq0 : ¬ 0 = c6 := by omega
            have d2 : ¬ c6 = 1 := by omega
            have dq2 : ¬ 1 = c6 := by omega
            have d4 : ¬ c6 = 2 := by omega
            have dq4 : ¬ 2 = c6 := by omega
            have d6 : ¬ c6 = 3 := by omega
            have dq6 : ¬ 3 = c6 := by omega
            have d8 : ¬ c6 = 4 := by omega
            have dq8 : ¬ 4 = c6 := by omega
            have d10 : ¬ c6 = 5 := by omega
            have dq10 : ¬ 5 = c6 := by omega
            have d12 : ¬ c6 = 6 := by omega
            have dq12 : ¬ 6 = c6 := by omega
            have d14 : ¬ c6 = 7 := by omega
            have dq14 : ¬ 7 = c6 := by omega
            have d16 : ¬ c6 = 8 := by omega
            have dq16 : ¬ 8 = c6 := by omega
            have d18 : ¬ c6 = 9 := by omega
            have dq18 : ¬ 9 = c6 := by omega
            have d20 : ¬ c6 = 10 := by omega
            have dq20 : ¬ 10 = c6 := by omega
            have d22 : ¬ c6 = 11 := by omega
            have dq22 : ¬ 11 = c6 := by omega
            have d24 : ¬ c6 = 12 := by omega
            have dq24 : ¬ 12 = c6 := by omega
            have d26 : ¬ c6 = k9 + 10 := by omega
            have dq26 : ¬ k9 + 10 = c6 := by omega
            have d28 : ¬ c6 = k9 + 21 := by omega
            have dq28 : ¬ k9 + 21 = c6 := by omega
            refine tr_skip ?_
            refine hK10 _ ?_; try clear hK10 K10
            refine seq_k fun K11 hK11 => ?_
            refine tr_block ?_
            refine region_k T_ok (by decide) fun K hK => ?_
            simp [go_sem, hI6, hx6, hx'6, hi06, h'6, insC, e0, eq0, e2, eq2, e4, eq4, e6, eq6, e8, eq8, e10, eq10, e12, eq12, e14, eq14, e16, eq16, e18, eq18, e20, eq20, e22, eq22, e24, eq24, e26, eq26, e28, eq28, e30, eq30, e32, eq32, e34, eq34, e36, eq36, e38, eq38, e40, eq40, e42, eq42, e44, eq44, e46, eq46, e48, eq48, e50, eq50, e52, eq52, e54, eq54, e56, eq56, e58, eq58, e60, eq60, e62, eq62, e64, eq64, e66, eq66, e68, eq68, e70, eq70, e72, eq72, e74, eq74, e76, eq76, e78, eq78, e80, eq80, e82, eq82, a0, aq0, a2, aq2, a4, aq4, a6, aq6, a8, aq8, a10, aq10, a12, aq12, a14, aq14, a16, aq16, a18, aq18, a20, aq20, a22, aq22, a24, aq24, a26, aq26, a28, aq28, a30, aq30, a32, aq32, a34, aq34, a36, aq36, a38, aq38, a40, aq40, a42, aq42, a44, aq44, a46, aq46, a48, aq48, a50, aq50, a52, aq52, a54, aq54, d0, dq0, d2, dq2, d4, dq4, d6, dq6, d8, dq8, d10, dq10, d12, dq12, d14, dq14, d16, dq16, d18, dq18, d20, dq20, d22, dq22, d24, dq24, d26, dq26, d28, dq28]
            refine hK _ ?_; clear hK K
            refine region_k T_ok (by decide) fun K hK => ?_
            simp [go_sem, insC, e0, eq0, e2, eq2, e4, eq4, e6, eq6, e8, eq8, e10, eq10, e12, eq12, e14, eq14, e16, eq16, e18, eq18, e20, eq20, e22, eq22, e24, eq24, e26, eq26, e28, eq28, e30, eq30, e32, eq32, e34, eq34, e36, eq36, e38, eq38, e40, eq40, e42, eq42, e44, eq44, e46, eq46, e48, eq48, e50, eq50, e52, eq52, e54, eq54, e56, eq56, e58, eq58, e60, eq60, e62, eq62, e64, eq64, e66, eq66, e68, eq68, e70, eq70, e72, eq72, e74, eq74, e76, eq76, e78, eq78, e80, eq80, e82, eq82, a0, aq0, a2, aq2, a4, aq4, a6, aq6, a8, aq8, a10, aq10, a12, aq12, a14, aq14, a16, aq16, a18, aq18, a20, aq20, a22, aq22, a24, aq24, a26, aq26, a28, aq28, a30, aq30, a32, aq32, a34, aq34, a36, aq36, a38, aq38, a40, aq40, a42, aq42, a44, aq44, a46, aq46, a48, aq48, a50, aq50, a52, aq52, a54, aq54, d0, dq0, d2, dq2, d4, dq4, d6, dq6, d8, dq8, d10, dq10, d12, dq12, d14, dq14, d16, dq16, d18, dq18, d20, dq20, d22, dq22, d24, dq24, d26, dq26, d28, dq28]
            refine call_pf (ismem_pf x) ?_
            simp [go_sem]
            refine hK _ ?_; clear hK K
            refine cond_k rfl (fun h => ?_) (fun h => ?_)
            · have hm : memI x = true := h
              clear h
              have hkl := kP_le s.k l b
              have hwk : IntKind.i64.wrap ((kP s.k l b : Nat) + 1) = (kP s.k l b : Nat) + 1 := wrap_i64 (by omega) (by omega)
              refine region_e T_ok (by decide) fun K hK => ?_
              simp [go_sem, hwk]
              refine hK _ ?_; clear hK K
              refine hK11 _ ?_; try clear hK11 K11
              refine region_e T_ok (by decide) fun K hK => ?_
              simp [go_sem, hw6]
              refine hK _ ?_; clear hK K
              refine ⟨(b + 1, c6 + 1), ?_, ?_, ?_⟩
              · dsimp only; omega
              · dsimp only; omega
              · refine Weaker.fz 1 0 ?_ ?_ ?_
                · simp [go_sem, kP_yes hx6 hm, e0, eq0, e2, eq2, e4, eq4, e6, eq6, e8, eq8, e10, eq10, e12, eq12, e14, eq14, e16, eq16, e18, eq18, e20, eq20, e22, eq22, e24, eq24, e26, eq26, e28, eq28, e30, eq30, e32, eq32, e34, eq34, e36, eq36, e38, eq38, e40, eq40, e42, eq42, e44, eq44, e46, eq46, e48, eq48, e50, eq50, e52, eq52, e54, eq54, e56, eq56, e58, eq58, e60, eq60, e62, eq62, e64, eq64, e66, eq66, e68, eq68, e70, eq70, e72, eq72, e74, eq74, e76, eq76, e78, eq78, e80, eq80, e82, eq82, a0, aq0, a2, aq2, a4, aq4, a6, aq6, a8, aq8, a10, aq10, a12, aq12, a14, aq14, a16, aq16, a18, aq18, a20, aq20, a22, aq22, a24, aq24, a26, aq26, a28, aq28, a30, aq30, a32, aq32, a34, aq34, a36, aq36, a38, aq38, a40, aq40, a42, aq42, a44, aq44, a46, aq46, a48, aq48, a50, aq50, a52, aq52, a54, aq54, d0, dq0, d2, dq2, d4, dq4, d6, dq6, d8, dq8, d10, dq10, d12, dq12, d14, dq14, d16, dq16, d18, dq18, d20, dq20, d22, dq22, d24, dq24, d26, dq26, d28, dq28]
                · first | (simp; done) | (simp; omega)
                simp [go_sem, e0, eq0, e2, eq2, e4, eq4, e6, eq6, e8, eq8, e10, eq10, e12, eq12, e14, eq14, e16, eq16, e18, eq18, e20, eq20, e22, eq22, e24, eq24, e26, eq26, e28, eq28, e30, eq30, e32, eq32, e34, eq34, e36, eq36, e38, eq38, e40, eq40, e42, eq42, e44, eq44, e46, eq46, e48, eq48, e50, eq50, e52, eq52, e54, eq54, e56, eq56, e58, eq58, e60, eq60, e62, eq62, e64, eq64, e66, eq66, e68, eq68, e70, eq70, e72, eq72, e74, eq74, e76, eq76, e78, eq78, e80, eq80, e82, eq82, a0, aq0, a2, aq2, a4, aq4, a6, aq6, a8, aq8, a10, aq10, a12, aq12, a14, aq14, a16, aq16, a18, aq18, a20, aq20, a22, aq22, a24, aq24, a26, aq26, a28, aq28, a30, aq30, a32, aq32, a34, aq34, a36, aq36, a38, aq38, a40, aq40, a42, aq42, a44, aq44, a46, aq46, a48, aq48, a50, aq50, a52, aq52, a54, aq54, d0, dq0, d2, dq2, d4, dq4, d6, dq6, d8, dq8, d10, dq10, d12, dq12, d14, dq14, d16, dq16, d18, dq18, d20, dq20, d22, dq22, d24, dq24, d26, dq26, d28, dq28]
            · have hm : memI x = false := by simpa [memI] using h
              clear h
              refine tr_skip ?_
              refine hK11 _ ?_; try clear hK11 K11
              refine region_e T_ok (by decide) fun K hK => ?_
              simp [go_sem, hw6]
              refine hK _ ?_; clear hK K
              refine ⟨(b + 1, c6 + 1), ?_, ?_, ?_⟩
              · dsimp only; omega
              · dsimp only; omega
              · refine Weaker.fz 1 0 ?_ ?_ ?_
                · simp [go_sem, kP_no hx6 hm, e0, eq0, e2, eq2, e4, eq4, e6, eq6, e8, eq8, e10, eq10, e12, eq12, e14, eq14, e16, eq16, e18, eq18, e20, eq20, e22, eq22, e24, eq24, e26, eq26, e28, eq28, e30, eq30, e32, eq32, e34, eq34, e36, eq36, e38, eq38, e40, eq40, e42, eq42, e44, eq44, e46, eq46, e48, eq48, e50, eq50, e52, eq52, e54, eq54, e56, eq56, e58, eq58, e60, eq60, e62, eq62, e64, eq64, e66, eq66, e68, eq68, e70, eq70, e72, eq72, e74, eq74, e76, eq76, e78, eq78, e80, eq80, e82, eq82, a0, aq0, a2, aq2, a4, aq4, a6, aq6, a8, aq8, a10, aq10, a12, aq12, a14, aq14, a16, aq16, a18, aq18, a20, aq20, a22, aq22, a24, aq24, a26, aq26, a28, aq28, a30, aq30, a32, aq32, a34, aq34, a36, aq36, a38, aq38, a40, aq40, a42, aq42, a44, aq44, a46, aq46, a48, aq48, a50, aq50, a52, aq52, a54, aq54, d0, dq0, d2, dq2, d4, dq4, d6, dq6, d8, dq8, d10, dq10, d12, dq12, d14, dq14, d16, dq16, d18, dq18, d20, dq20, d22, dq22, d24, dq24, d26, dq26, d28, dq28]
                · first | (simp; done) | (simp; omega)
                simp [go_sem, e0, eq0, e2, eq2, e4, eq4, e6, eq6, e8, eq8, e10, eq10, e12, eq12, e14, eq14, e16, eq16, e18, eq18, e20, eq20, e22, eq22, e24, eq24, e26, eq26, e28, eq28, e30, eq30, e32, eq32, e34, eq34, e36, eq36, e38, eq38, e40, eq40, e42, eq42, e44, eq44, e46, eq46, e48, eq48, e50, eq50, e52, eq52, e54, eq54, e56, eq56, e58, eq58, e60, eq60, e62, eq62, e64, eq64, e66, eq66, e68, eq68, e70, eq70, e72, eq72, e74, eq74, e76, eq76, e78, eq78, e80, eq80, e82, eq82, a0, aq0, a2, aq2, a4, aq4, a6, aq6, a8, aq8, a10, aq10, a12, aq12, a14, aq14, a16, aq16, a18, aq18, a20, aq20, a22, aq22, a24, aq24, a26, aq26, a28, aq28, a30, aq30, a32, aq32, a34, aq34, a36, aq36, a38, aq38, a40, aq40, a42, aq42, a44, aq44, a46, aq46, a48, aq48, a50, aq50, a52, aq52, a54, aq54, d0, dq0, d2, dq2, d4, dq4, d6, dq6, d8, dq8, d10, dq10, d12, dq12, d14, dq14, d16, dq16, d18, dq18, d20, dq20, d22, dq22, d24, dq24, d26, dq26, d28, dq28]
          · simp at h
            obtain rfl : b = l.length := by omega
            refine tr_exit ?_
            refine hK3 _ ?_; try clear hK3 K3
            refine region_e T_ok (by decide) fun K hK => ?_
            simp [go_sem, hw]
            refine hK _ ?_; clear hK K
            refine ⟨(i + 1, stepO reads works l s, c6, k9 + 21, k9 + 10), ?_, ?_, ?_⟩
            · exact ⟨by omega, (runO_step hx).symm.trans hrun, stepO_ok hfl, by show s.k + memL l + leftOps t (i + 1) ≤ m; omega, by show (s.left ++ [_]).length = _; simp [hll], by show (s.regs ++ [_]).length = _; simp [hrl2], by dsimp only; omega, by dsimp only; omega, by dsimp only; omega, by dsimp only; omega, by dsimp only; omega⟩
            · dsimp only; omega
            · refine Weaker.fz 1 0 ?_ ?_ ?_
              · simp [go_sem, stepO, kP_all, e0, eq0, e2, eq2, e4, eq4, e6, eq6, e8, eq8, e10, eq10, e12, eq12, e14, eq14, e16, eq16, e18, eq18, e20, eq20, e22, eq22, e24, eq24, e26, eq26, e28, eq28, e30, eq30, e32, eq32, e34, eq34, e36, eq36, e38, eq38, e40, eq40, e42, eq42, e44, eq44, e46, eq46, e48, eq48, e50, eq50, e52, eq52, e54, eq54, e56, eq56, e58, eq58, e60, eq60, e62, eq62, e64, eq64, e66, eq66, e68, eq68, e70, eq70, e72, eq72, e74, eq74, e76, eq76, e78, eq78, e80, eq80, e82, eq82]
              · first | (simp; done) | (simp; omega)
              simp [go_sem, stepO, whP_8, e0, eq0, e2, eq2, e4, eq4, e6, eq6, e8, eq8, e10, eq10, e12, eq12, e14, eq14, e16, eq16, e18, eq18, e20, eq20, e22, eq22, e24, eq24, e26, eq26, e28, eq28, e30, eq30, e32, eq32, e34, eq34, e36, eq36, e38, eq38, e40, eq40, e42, eq42, e44, eq44, e46, eq46, e48, eq48, e50, eq50, e52, eq52, e54, eq54, e56, eq56, e58, eq58, e60, eq60, e62, eq62, e64, eq64, e66, eq66, e68, eq68, e70, eq70, e72, eq72, e74, eq74, e76, eq76, e78, eq78, e80, eq80, e82, eq82, a0, aq0, a2, aq2, a4, aq4, a6, aq6, a8, aq8, a10, aq10, a12, aq12, a14, aq14, a16, aq16, a18, aq18, a20, aq20, a22, aq22, a24, aq24, a26, aq26, a28, aq28, a30, aq30, a32, aq32, a34, aq34, a36, aq36, a38, aq38, a40, aq40, a42, aq42, a44, aq44, a46, aq46, a48, aq48, a50, aq50, a52, aq52, a54, aq54]
  · simp at h
    obtain rfl : i = t.ths.length := by omega
    rw [List.drop_length] at hrun
    replace hrun : s = flowOf t reads works := hrun
    obtain ⟨l1, l2, l3, l4, l5, l6⟩ := id hfl
    have e0 : ¬ rL = 0 := by omega
    have eq0 : ¬ 0 = rL := by omega
    have e2 : ¬ rL = 1 := by omega
    have eq2 : ¬ 1 = rL := by omega
    have e4 : ¬ rL = 2 := by omega
    have eq4 : ¬ 2 = rL := by omega
    have e6 : ¬ rL = 3 := by omega
    have eq6 : ¬ 3 = rL := by omega
    have e8 : ¬ rL = 4 := by omega
    have eq8 : ¬ 4 = rL := by omega
    have e10 : ¬ rL = 5 := by omega
    have eq10 : ¬ 5 = rL := by omega
    have e12 : ¬ rL = 6 := by omega
    have eq12 : ¬ 6 = rL := by omega
    have e14 : ¬ rL = 7 := by omega
    have eq14 : ¬ 7 = rL := by omega
    have e16 : ¬ rL = 8 := by omega
    have eq16 : ¬ 8 = rL := by omega
    have e18 : ¬ rL = 9 := by omega
    have eq18 : ¬ 9 = rL := by omega
    have e20 : ¬ rL = 10 := by omega
    have eq20 : ¬ 10 = rL := by omega
    have e22 : ¬ rL = 11 := by omega
    have eq22 : ¬ 11 = rL := by omega
    have e24 : ¬ rL = 12 := by omega
    have eq24 : ¬ 12 = rL := by omega
    have e26 : ¬ rR = 0 := by omega
    have eq26 : ¬ 0 = rR := by omega
    have e28 : ¬ rR = 1 := by omega
    have eq28 : ¬ 1 = rR := by omega
    have e30 : ¬ rR = 2 := by omega
    have eq30 : ¬ 2 = rR := by omega
    have e32 : ¬ rR = 3 := by omega
    have eq32 : ¬ 3 = rR := by omega
    have e34 : ¬ rR = 4 := by omega
    have eq34 : ¬ 4 = rR := by omega
    have e36 : ¬ rR = 5 := by omega
    have eq36 : ¬ 5 = rR := by omega
    have e38 : ¬ rR = 6 := by omega
    have eq38 : ¬ 6 = rR := by omega
    have e40 : ¬ rR = 7 := by omega
    have eq40 : ¬ 7 = rR := by omega
    have e42 : ¬ rR = 8 := by omega
    have eq42 : ¬ 8 = rR := by omega
    have e44 : ¬ rR = 9 := by omega
    have eq44 : ¬ 9 = rR := by omega
    have e46 : ¬ rR = 10 := by omega
    have eq46 : ¬ 10 = rR := by omega
    have e48 : ¬ rR = 11 := by omega
    have eq48 : ¬ 11 = rR := by omega
    have e50 : ¬ rR = 12 := by omega
    have eq50 : ¬ 12 = rR := by omega
    have e52 : ¬ j = 0 := by omega
    have eq52 : ¬ 0 = j := by omega
    have e54 : ¬ j = 1 := by omega
    have eq54 : ¬ 1 = j := by omega
    have e56 : ¬ j = 2 := by omega
    have eq56 : ¬ 2 = j := by omega
    have e58 : ¬ j = 3 := by omega
    have eq58 : ¬ 3 = j := by omega
    have e60 : ¬ j = 4 := by omega
    have eq60 : ¬ 4 = j := by omega
    have e62 : ¬ j = 5 := by omega
    have eq62 : ¬ 5 = j := by omega
    have e64 : ¬ j = 6 := by omega
    have eq64 : ¬ 6 = j := by omega
    have e66 : ¬ j = 7 := by omega
    have eq66 : ¬ 7 = j := by omega
    have e68 : ¬ j = 8 := by omega
    have eq68 : ¬ 8 = j := by omega
    have e70 : ¬ j = 9 := by omega
    have eq70 : ¬ 9 = j := by omega
    have e72 : ¬ j = 10 := by omega
    have eq72 : ¬ 10 = j := by omega
    have e74 : ¬ j = 11 := by omega
    have eq74 : ¬ 11 = j := by omega
    have e76 : ¬ j = 12 := by omega
    have eq76 : ¬ 12 = j := by omega
    have e78 : ¬ rL = rR := by omega
    have eq78 : ¬ rR = rL := by omega
    have e80 : ¬ rL = j := by omega
    have eq80 : ¬ j = rL := by omega
    have e82 : ¬ rR = j := by omega
    have eq82 : ¬ j = rR := by omega
    refine tr_exit ?_
    refine hK1 _ ?_; try clear hK1 K1
    refine region_k T_ok (by decide) fun K hK => ?_
    simp [go_sem]
    refine hK _ ?_; clear hK K
    refine tr_ret ⟨.inr rfl, ?_⟩
    have t1 : s.f.state.take m = s.f.state := List.take_of_length_le (by omega)
    have t2 : s.f.write.take m = s.f.write := List.take_of_length_le (by omega)
    have t3 : s.f.pair.take m = s.f.pair := List.take_of_length_le (by omega)
    have t4 : s.f.place.take m = s.f.place := List.take_of_length_le (by omega)
    have t5 : s.f.value.take m = s.f.value := List.take_of_length_le (by omega)
    have t6 : s.f.path.take m = s.f.path := List.take_of_length_le (by omega)
    simp [go_sem, ← hrun, Os'.cs, t1, t2, t3, t4, t5, t6, l1, l2, l3, l4, l5, l6, e0, eq0, e2, eq2, e4, eq4, e6, eq6, e8, eq8, e10, eq10, e12, eq12, e14, eq14, e16, eq16, e18, eq18, e20, eq20, e22, eq22, e24, eq24, e26, eq26, e28, eq28, e30, eq30, e32, eq32, e34, eq34, e36, eq36, e38, eq38, e40, eq40, e42, eq42, e44, eq44, e46, eq46, e48, eq48, e50, eq50, e52, eq52, e54, eq54, e56, eq56, e58, eq58, e60, eq60, e62, eq62, e64, eq64, e66, eq66, e68, eq68, e70, eq70, e72, eq72, e74, eq74, e76, eq76, e78, eq78, e80, eq80, e82, eq82]

end Go.Proofs.Ytokdphmnlcmbbaa
