/- Flow: the walk of the law's Given. -/
import Derived.Test.YtokdphmnlcmbbaaGflof
import Derived.Test.YtokdphmnlcmbbaaW17
import Derived.Test.YtokdphmnlcmbbaaSl21
set_option linter.unusedVariables false
set_option linter.unusedSimpArgs false
namespace Go.Proofs.Ytokdphmnlcmbbaa
open Go Go.Sl Go.Proofs.Try

set_option maxRecDepth 20000 in
set_option maxHeartbeats 4000000 in
theorem given_pf (t : Tst) (ht : t.ths.length ≤ 1000) (hl : ∀ x ∈ t.ths, x.length ≤ 1000) (reads : List Vl) (works : List Bool) : Pf Try.prog 16 [.agg t.cs, .ro 2 (vls reads), .ro 1 (bVs works)] (.tup [.ro 2 (vls (givA reads (nOps t))), .ro 1 (bVs (givB works (nOps t))), .ro 3 (rvs (givA reads (nOps t)))]) := by
  refine Pf.of_fz 2 (.cons (.agg (nl_tst t)) (.cons (nl_vls _) (.cons (nl_bVs _) .nil))) (.tup (.cons (nl_vls _) (.cons (nl_bVs _) (.cons (nl_rvs _) .nil)))) ?_
  have hmle : nOps t ≤ 1000 * t.ths.length := by unfold nOps; rw [← opsT_len 0]; exact opsT_le 0 _ hl
  have hopl : (opsT 0 t.ths).length = nOps t := opsT_len 0 _
  generalize nOps t = n at *
  have hm6 : n ≤ 1000000 := by omega
  have hm0 : (0 : Int) ≤ (n : Nat) := by omega
  have hm8 : (8 : Int) * (n : Nat) ≤ 281474976710656 := by omega
  have hm16 : (16 : Int) * (n : Nat) ≤ 281474976710656 := by omega
  have hm40 : (40 : Int) * (n : Nat) ≤ 281474976710656 := by omega
  have hm1 : (n : Int) ≤ 281474976710656 := by omega
  have hmx : (n : Int) ≤ 9223372036854775807 := by omega
  refine fn_in T_ok func16 rfl rfl ntmps16 rfl (by simp) ?_
  refine region_k T_ok (by decide) fun K hK => ?_
  simp [go_sem, Tst.cs]
  refine hK _ ?_; clear hK K
  refine region_k T_ok (by decide) fun K hK => ?_
  simp [go_sem]
  refine call_fz [] [.rp t.cs 0] 1 0 (ops_pf t ht hl) (by simp [go_sem, Tst.cs]) (by simp) (by simp) ?_
  simp [go_sem, hopl]
  refine hK _ ?_; clear hK K
  refine region_k T_ok (by decide) fun K hK => ?_
  simp [go_sem, hm0, hm16, hmx]
  refine hK _ ?_; clear hK K
  refine region_k T_ok (by decide) fun K hK => ?_
  simp [go_sem, hm0, hm1, hmx]
  refine hK _ ?_; clear hK K
  refine region_k T_ok (by decide) fun K hK => ?_
  simp [go_sem, hm0, hm40, hmx]
  refine hK _ ?_; clear hK K
  refine seq_k fun K1 hK1 => ?_
  refine region_k T_ok (by decide) fun K hK => ?_
  simp [go_sem]
  refine hK _ ?_; clear hK K
  refine tr_block ?_
  refine loop_p (α := Nat × Nat) (fun a => ⟨73, [(1, .ro 2 (vls reads)), (2, .ro 1 (bVs works)), (9, iV (n : Nat)), (10, .sl 1 0 n), (11, .sl 2 0 n), (12, .sl 3 0 n), (13, iV (a.1 : Nat))], [(1, .rows 2 (vls (tab n (gaN reads a.1)))), (2, .rows 1 (bVs (tab n (gbN works a.1)))), (3, .rows 3 (rvs (tab n (gaN reads a.1))))], a.2⟩) (fun a => a.1 ≤ n ∧ 4 ≤ a.2) (fun a => n - a.1) (0, 4) ?_ ?_ ?_
  · dsimp only; omega
  · refine Weaker.fz 1 0 ?_ ?_ ?_
    · simp [go_sem]
    · first | (simp; done) | (simp; omega)
    · simp [go_sem, gaN_zero, gbN_zero, tab_const, vls_zeros2, bVs_zeros, rvs_zeros]
  rintro ⟨i, j⟩ ⟨hi, hj⟩
  dsimp only at hi hj ⊢
  refine seq_k fun K2 hK2 => ?_
  refine region_k T_ok (by decide) fun K hK => ?_
  simp [go_sem]
  refine hK _ ?_; clear hK K
  refine cond_k rfl (fun h => ?_) (fun h => ?_)
  · simp at h
    have hiI := h
    clear h
    have h' : i < n := by omega
    have hi0 : (0 : Int) ≤ (i : Nat) := by omega
    have hw : IntKind.i64.wrap ((i : Nat) + 1) = (i : Nat) + 1 := wrap_i64 (by omega) (by omega)
    have han := tab_at (f := gaN reads i) h'
    have nI : True := trivial
    have hat : True := trivial
    have hgi : giv reads i = ⟨(giv reads i).k, (giv reads i).v⟩ := rfl
    have han2 := tab_at (f := gaN reads (i + 1)) h'
    refine tr_skip ?_
    refine hK2 _ ?_; try clear hK2 K2
    refine seq_k fun K3 hK3 => ?_
    refine tr_block ?_
    refine seq_to ⟨73, [(1, .ro 2 (vls reads)), (2, .ro 1 (bVs works)), (9, iV (n : Nat)), (10, .sl 1 0 n), (11, .sl 2 0 n), (12, .sl 3 0 n), (13, iV (i : Nat))], [(1, .rows 2 (vls (tab n (gaN reads (i + 1))))), (2, .rows 1 (bVs (tab n (gbN works i)))), (3, .rows 3 (rvs (tab n (gaN reads i))))], j⟩ ?_ ?_
    · skip
      refine region_to T_ok (by decide) ⟨73, [(1, .ro 2 (vls reads)), (2, .ro 1 (bVs works)), (9, iV (n : Nat)), (10, .sl 1 0 n), (11, .sl 2 0 n), (12, .sl 3 0 n), (13, iV (i : Nat)), (37, bV (reads.getD i zV).k)], [(1, .rows 2 (vls (tab n (gaN reads i)))), (2, .rows 1 (bVs (tab n (gbN works i)))), (3, .rows 3 (rvs (tab n (gaN reads i))))], j⟩ ?_ ?_
      · by_cases c1 : i < reads.length
        · have c1I : (i : Int) < (reads.length : Nat) := by omega
          obtain ⟨r, hr, hr'⟩ := getAt c1
          simp [go_sem, c1, c1I, hr, hr', hi0]
          refine Weaker.fz 1 0 ?_ ?_ ?_
          · simp [go_sem, c1, c1I, hr, hr', hi0]
          · first | (simp; done) | (simp; omega)
          · simp [go_sem, c1, c1I, hr, hr', hi0]
        · have c1I : ¬ (i : Int) < (reads.length : Nat) := by omega
          have c1n : reads[i]? = none := List.getElem?_eq_none (by omega)
          simp [go_sem, c1, c1I, c1n, zV]
          refine Weaker.fz 1 0 ?_ ?_ ?_
          · simp [go_sem, c1, c1I, c1n, zV]
          · first | (simp; done) | (simp; omega)
          · simp [go_sem, c1, c1I, c1n, zV]
      · skip
        refine cond_k rfl (fun h => ?_) (fun h => ?_)
        · have hk : (reads.getD i zV).k = true := h
          clear h
          have hil : i < reads.length := Classical.byContradiction fun hc => by simp [List.getD, List.getElem?_eq_none (by omega : reads.length ≤ i), zV] at hk
          obtain ⟨r, hr, hr'⟩ := getAt hil
          have hilI : (i : Int) < (reads.length : Nat) := by omega
          have hgr : giv reads i = ⟨r.k, r.v⟩ := by unfold giv; rw [if_pos hk]; simp [List.getD, hr]
          refine region_e T_ok (by decide) fun K hK => ?_
          simp [go_sem, hr, hr', hil, hilI, hi0, hiI, h', hm0]
          refine hK _ ?_; clear hK K
          refine Weaker.fzk 1 0 (by omega) ?_ ?_ ?_
          · simp [go_sem, tab_set, gaN_yes hgr]
          · first | (simp; done) | (simp; omega)
          · simp [go_sem, tab_set, gaN_yes hgr]
        · have hk : (reads.getD i zV).k = false := by simpa using h
          have hgz : giv reads i = zV := by unfold giv; rw [if_neg (by simp only [hk]; decide)]
          refine tr_skip ?_
          refine Weaker.fzk 1 0 (by omega) ?_ ?_ ?_
          · simp [go_sem, tab_set, gaN_no hgz]
          · first | (simp; done) | (simp; omega)
          · simp [go_sem, tab_set, gaN_no hgz]
    · skip
      refine seq_to ⟨73, [(1, .ro 2 (vls reads)), (2, .ro 1 (bVs works)), (9, iV (n : Nat)), (10, .sl 1 0 n), (11, .sl 2 0 n), (12, .sl 3 0 n), (13, iV (i : Nat))], [(1, .rows 2 (vls (tab n (gaN reads (i + 1))))), (2, .rows 1 (bVs (tab n (gbN works (i + 1))))), (3, .rows 3 (rvs (tab n (gaN reads i))))], j⟩ ?_ ?_
      · skip
        refine region_k T_ok (by decide) fun K hK => ?_
        simp [go_sem]
        refine hK _ ?_; clear hK K
        refine cond_k rfl (fun h => ?_) (fun h => ?_)
        · have hilI2 := h
          simp at hilI2
          clear h
          have hil2 : i < works.length := by omega
          obtain ⟨b, hb, hb'⟩ := getAt hil2
          have hgb : works.getD i false = b := by simp [List.getD, hb]
          refine region_e T_ok (by decide) fun K hK => ?_
          simp [go_sem, hb, hb', hil2, hilI2, hi0, hiI, h']
          refine hK _ ?_; clear hK K
          refine Weaker.fzk 1 0 (by omega) ?_ ?_ ?_
          · simp [go_sem, tab_set, gbN_yes hgb]
          · first | (simp; done) | (simp; omega)
          · simp [go_sem, tab_set, gbN_yes hgb]
        · simp at h
          have hnb : works.length ≤ i := by omega
          refine tr_skip ?_
          refine Weaker.fzk 1 0 (by omega) ?_ ?_ ?_
          · simp [go_sem, tab_set, gbN_no hnb]
          · first | (simp; done) | (simp; omega)
          · simp [go_sem, tab_set, gbN_no hnb]
      · skip
        refine draw_e T_ok (by kernel_rfl) 13 [[], [], [], [], [2, 3], [2, 3, 4], [2, 3, 4, 5], [], [], [7, 8], [7, 8, 9], [7, 8, 9, 10], [2, 3, 4, 5, 6, 7, 8, 9, 10, 11], [0, 1, 2, 3, 4, 5, 6, 7, 8, 9, 10, 11, 12], [0, 1, 2, 3, 4, 5, 6, 7, 8, 9, 10, 11, 12, 13]] [] (by decide) (by decide) (by decide) fun K hK => ?_
        first | dsimp only [List.take, List.drop] | dsimp [List.take, List.drop]
        simp [go_sem, hi0, hiI, h', han2]
        refine hK _ ?_; clear hK K
        refine hK3 _ ?_; try clear hK3 K3
        refine region_e T_ok (by decide) fun K hK => ?_
        simp [go_sem, hw]
        refine hK _ ?_; clear hK K
        refine ⟨(i + 1, j + 13), ?_, ?_, ?_⟩
        · dsimp only; omega
        · dsimp only; omega
        · refine Weaker.fz 1 0 ?_ ?_ ?_
          · simp [go_sem]
          · first | (simp; done) | (simp; omega)
          simp [go_sem, tab_set, gaN_self, gaN_yes hgi]
  · simp at h
    obtain rfl : i = n := by omega
    refine tr_exit ?_
    refine hK1 _ ?_; try clear hK1 K1
    refine region_k T_ok (by decide) fun K hK => ?_
    simp [go_sem]
    refine hK _ ?_; clear hK K
    refine tr_ret ⟨.inr rfl, ?_⟩
    simp [go_sem, givA, givB]

end Go.Proofs.Ytokdphmnlcmbbaa
