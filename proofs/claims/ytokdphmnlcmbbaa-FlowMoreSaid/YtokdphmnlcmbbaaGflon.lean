/- Flow: the walk of FlowMore. -/
import Derived.Test.YtokdphmnlcmbbaaGlitj
import Derived.Test.YtokdphmnlcmbbaaGlitf
import Derived.Test.YtokdphmnlcmbbaaGflom
import Derived.Test.YtokdphmnlcmbbaaGfloh
import Derived.Test.YtokdphmnlcmbbaaW19
set_option linter.unusedVariables false
set_option linter.unusedSimpArgs false
namespace Go.Proofs.Ytokdphmnlcmbbaa
open Go Go.Sl Go.Proofs.Try

theorem few_nm {t : Tst} : ∀ l ∈ (few t).locs, l.name.size ≤ 1000000 := fun l hl => by
  obtain ⟨x, _, rfl⟩ := List.mem_map.1 hl
  exact Nat.le_trans (cutS_le _ _) (by omega)
theorem more_two {T : Tst} (hc : chkErr T = 0) (hw : tstWf T) (reads : List Vl) (works : List Bool) (more : List Int) : ∃ F G : Os', Pf Try.prog 10 [.rp T.cs 0, .ro 2 (vls (givA reads (nOps T))), .ro 1 (bVs (givB works (nOps T)))] (.rp F.cs 0) ∧
    Pf Try.prog 10 [.rp T.cs 0, .ro 2 (vls (filA (givA reads (nOps T)) more (nOps T))), .ro 1 (bVs (givB works (nOps T)))] (.rp G.cs 0) ∧ G.whole = true ∧ FRel (nOps T) (nOps T) (nOps T) F.f G.f := by
  obtain ⟨g1, g2, g3⟩ := good_ok hc hw
  obtain ⟨h1, h2⟩ := flow_more (t := T) (reads := givA reads (nOps T)) (reads' := filA (givA reads (nOps T)) more (nOps T)) (works := givB works (nOps T)) fil_le fil_kn
  exact ⟨_, _, flow_pf T g1 g2 g3 _ _ (by rw [givA_len]; omega) (by rw [givB_len]; omega), flow_pf T g1 g2 g3 _ _ (by rw [filA_len]; omega) (by rw [givB_len]; omega), h1, h2⟩
theorem ifif {α : Type} {p : Prop} [Decidable p] {a b c : α} : (if p then a else if p then b else c) = if p then a else c := by by_cases h : p <;> simp [h]
theorem int_bne (a b : Int) : (a != b) = !decide (a = b) := by rw [bne, int_beq]
theorem getD_at {α : Type} {l : List α} {i : Nat} {x : α} (d : α) (h : l[i]? = some x) : l.getD i d = x := by simp [List.getD, h]

set_option maxRecDepth 100000 in
set_option maxHeartbeats 16000000 in
theorem flowMore_pf (t : Tst) (hs : ∀ l ∈ t.locs, l.name.size ≤ 9223372036854775807) (hwf : tstWf t) (reads : List Vl) (works : List Bool) (more : List Int) : Pf Try.prog 6 [.agg t.cs, .ro 2 (vls reads), .ro 1 (bVs works), .ro 1 (uVs more)] (bV true) := by
  refine Pf.of_fn (.cons (.agg (nl_tst t)) (.cons (nl_vls _) (.cons (nl_bVs _) (.cons (nl_uVs _) .nil)))) (.val _) ?_
  have hnm : ∀ l ∈ (few t).locs, l.name.size ≤ 1000000 := few_nm
  have hfew := few_pf t hs
  have hwT := few_wf hwf
  generalize few t = T at hnm hfew hwT
  refine fn_in T_ok func6 rfl rfl ntmps6 rfl (by simp) ?_
  refine region_k T_ok (by decide) fun K hK => ?_
  simp [go_sem, Tst.cs]
  refine hK _ ?_; clear hK K
  refine region_k T_ok (by decide) fun K hK => ?_
  simp [go_sem]
  refine call_pf (hfew) ?_
  simp [go_sem, Tst.cs]
  refine hK _ ?_; clear hK K
  refine seq_k fun K1 hK1 => ?_
  refine Tr.weaken (Weaker.fz (H' := []) (t' := [(1, .ro 2 (vls reads)), (2, .ro 1 (bVs works)), (3, .ro 1 (uVs more)), (4, .rp T.cs 0)]) 1 0 ?_ ?_ ?_) ?_
  · simp [go_sem, Tst.cs]
  · simp
  · simp
  refine region_k T_ok (by decide) fun K hK => ?_
  simp [go_sem]
  refine call_pf (awake13) ?_
  simp [go_sem]
  refine call_pf (Check_pf T hnm) ?_
  simp [go_sem]
  refine hK _ ?_; clear hK K
  refine cond_k rfl (fun h => ?_) (fun h => ?_)
  · skip
    refine region_k T_ok (by decide) fun K hK => ?_
    simp [go_sem]
    refine call_pf (awake13) ?_
    simp [go_sem]
    refine hK _ ?_; clear hK K
    refine tr_ret ⟨.inr rfl, ?_⟩
    simp [go_sem]
  · have hc : chkErr T = 0 := by simpa using h
    obtain ⟨g1, g2, g3⟩ := good_ok hc hwT
    obtain ⟨F, G, hF, hG, hGw, hr⟩ := more_two hc hwT reads works more
    have hgiv := given_pf T g1 g2 reads works
    have hal := givA_len reads (nOps T)
    have hmle : nOps T ≤ 1000 * T.ths.length := by unfold nOps; rw [← opsT_len 0]; exact opsT_le 0 _ g2
    generalize nOps T = n at *
    generalize givA reads n = a at *
    generalize givB works n = b at *
    have htab : tab n (filV a more 0) = a := by rw [filV_zero, ← hal]; exact tab_self a zV
    have hn6 : n ≤ 1000000 := by omega
    have hn1 : n * 16 ≤ 140737488355328 := by omega
    have r1 := hr.of.l1
    have r2 := hr.of.l2
    have s1 := hr.og.l1
    have s2 := hr.og.l2
    clear hmle hc g1 g2 g3 hwT
    refine tr_skip ?_
    refine hK1 _ ?_; try clear hK1 K1
    refine region_k T_ok (by decide) fun K hK => ?_
    simp [go_sem, Tst.cs]
    refine call_pf (hgiv) ?_
    simp [go_sem]
    refine hK _ ?_; clear hK K
    refine region_k T_ok (by decide) fun K hK => ?_
    simp [go_sem]
    refine call_pf (hF) ?_
    simp [go_sem]
    refine hK _ ?_; clear hK K
    refine region_k T_ok (by decide) fun K hK => ?_
    simp [go_sem, hal, hn1]
    refine hK _ ?_; clear hK K
    refine seq_k fun K2 hK2 => ?_
    refine region_k T_ok (by decide) fun K hK => ?_
    simp [go_sem]
    refine hK _ ?_; clear hK K
    refine tr_block ?_
    refine loop_p (α := Nat × Nat) (fun q => ⟨173, [(1, .ro 2 (vls reads)), (2, .ro 1 (bVs works)), (3, .ro 1 (uVs more)), (4, .rp T.cs 0), (9, .ro 2 (vls a)), (10, .ro 1 (bVs b)), (12, .rp F.cs 0), (13, .sl 2 0 n), (40, .sl 2 0 n), (41, iV (n : Nat)), (42, iV (q.1 : Nat))], [(2, .rows 2 (vls (tab n (filV a more q.1))))], 3⟩) (fun q => q.1 ≤ n) (fun q => n - q.1) (0, 0) ?_ ?_ ?_
    · dsimp only; omega
    · refine Weaker.fz 1 0 ?_ ?_ ?_
      · simp [go_sem]
      · first | (simp; done) | (simp; omega)
      · simp [go_sem, htab]
    rintro ⟨i, j⟩ hi
    dsimp only at hi ⊢
    refine region_k T_ok (by decide) fun K hK => ?_
    simp [go_sem]
    refine hK _ ?_; clear hK K
    refine seq_k fun K3 hK3 => ?_
    refine cond_k rfl (fun h => ?_) (fun h => ?_)
    · simp at h
      have hI : (i : Int) < (n : Nat) := by omega
      have h' : i < n := by omega
      clear h
      obtain ⟨x, hx, hx'⟩ := getAt (show i < a.length by omega)
      have hi0 : (0 : Int) ≤ (i : Nat) := by omega
      have hw : IntKind.i64.wrap ((i : Nat) + 1) = (i : Nat) + 1 := wrap_i64 (by omega) (by omega)
      have hat := tab_at (f := filV a more i) h'
      have hself : filV a more i i = x := by rw [filV_self, getD_at zV hx]
      rw [hself] at hat
      refine tr_skip ?_
      refine hK3 _ ?_; try clear hK3 K3
      refine seq_k fun K4 hK4 => ?_
      refine tr_block ?_
      refine region_k T_ok (by decide) fun K hK => ?_
      simp [go_sem]
      refine hK _ ?_; clear hK K
      refine region_k T_ok (by decide) fun K hK => ?_
      simp [go_sem, hI, hi0, h', hat, hself]
      refine hK _ ?_; clear hK K
      refine cond_k rfl (fun h => ?_) (fun h => ?_)
      · have hk : x.k = false := by simpa [hself] using h
        clear h
        refine region_k T_ok (by decide) fun K hK => ?_
        simp [go_sem, hI, hi0, h', hat, hself]
        refine hK _ ?_; clear hK K
        refine region_k T_ok (by decide) fun K hK => ?_
        simp [go_sem]
        refine hK _ ?_; clear hK K
        refine cond_k rfl (fun h => ?_) (fun h => ?_)
        · have hm := h
          simp at hm
          obtain ⟨m, hm2, hm'⟩ := getAt (show i < more.length by omega)
          have hmI : (i : Int) < (more.length : Nat) := by omega
          have hfy : filV a more (i + 1) i = ⟨true, m⟩ := by unfold filV; rw [if_pos ⟨by omega, by rw [getD_at zV hx]; exact hk⟩, getD_at _ hm2]
          refine region_e T_ok (by decide) fun K hK => ?_
          simp [go_sem, hI, hi0, h', hat, hmI, hm2, hm', hm, tab_set]
          refine hK _ ?_; clear hK K
          refine hK4 _ ?_; try clear hK4 K4
          refine region_e T_ok (by decide) fun K hK => ?_
          simp [go_sem, hw]
          refine hK _ ?_; clear hK K
          refine ⟨(i + 1, 0), ?_, ?_, ?_⟩
          · dsimp only; omega
          · dsimp only; omega
          · refine Weaker.fz 1 0 ?_ ?_ ?_
            · simp [go_sem]
            · first | (simp; done) | (simp; omega)
            simp [go_sem, tab_set, ifif, filV_yes hfy]
        · simp at h
          have hfy : filV a more (i + 1) i = ⟨true, x.v⟩ := by unfold filV; rw [if_pos ⟨by omega, by rw [getD_at zV hx]; exact hk⟩, getD_at zV hx]; simp [List.getD, List.getElem?_eq_none (by omega : more.length ≤ i)]
          refine tr_skip ?_
          refine hK4 _ ?_; try clear hK4 K4
          refine region_e T_ok (by decide) fun K hK => ?_
          simp [go_sem, hw]
          refine hK _ ?_; clear hK K
          refine ⟨(i + 1, 0), ?_, ?_, ?_⟩
          · dsimp only; omega
          · dsimp only; omega
          · refine Weaker.fz 1 0 ?_ ?_ ?_
            · simp [go_sem]
            · first | (simp; done) | (simp; omega)
            simp [go_sem, tab_set, hself, filV_yes hfy]
      · have hk : x.k = true := by simpa [hself] using h
        have hfn := filV_no (more := more) (i := i) (show (a.getD i zV).k = true by rw [getD_at zV hx]; exact hk)
        refine tr_skip ?_
        refine hK4 _ ?_; try clear hK4 K4
        refine region_e T_ok (by decide) fun K hK => ?_
        simp [go_sem, hw]
        refine hK _ ?_; clear hK K
        refine ⟨(i + 1, 0), ?_, ?_, ?_⟩
        · dsimp only; omega
        · dsimp only; omega
        · refine Weaker.fz 1 0 ?_ ?_ ?_
          · simp [go_sem]
          · first | (simp; done) | (simp; omega)
          simp [go_sem, hfn]
    · simp at h
      obtain rfl : n = i := by omega
      refine tr_exit ?_
      refine hK2 _ ?_; try clear hK2 K2
      refine region_k T_ok (by decide) fun K hK => ?_
      simp [go_sem]
      refine call_fz [] [.rp T.cs 0, .ro 2 (vls (filA a more n)), .ro 1 (bVs b)] 1 0 hG (by simp [go_sem, filA]) (by simp) (by simp) ?_
      simp [go_sem]
      refine hK _ ?_; clear hK K
      refine seq_k fun K5 hK5 => ?_
      refine region_k T_ok (by decide) fun K hK => ?_
      simp [go_sem, hGw, r1, s1, hal]
      refine hK _ ?_; clear hK K
      refine cond_k rfl (fun h => ?_) (fun h => ?_)
      · simp at h
      · clear h
        refine tr_skip ?_
        refine hK5 _ ?_; try clear hK5 K5
        refine seq_k fun K6 hK6 => ?_
        refine region_k T_ok (by decide) fun K hK => ?_
        simp [go_sem, hal]
        refine hK _ ?_; clear hK K
        refine tr_block ?_
        refine loop_p (α := Nat × Nat) (fun q => ⟨173, [(1, .ro 2 (vls reads)), (2, .ro 1 (bVs works)), (3, .ro 1 (uVs more)), (4, .rp T.cs 0), (9, .ro 2 (vls a)), (10, .ro 1 (bVs b)), (12, .rp F.cs 0), (15, .rp G.cs 0), (105, iV (n : Nat)), (106, iV (q.1 : Nat))], [], q.2⟩) (fun q => q.1 ≤ n) (fun q => n - q.1) (0, 3) ?_ ?_ ?_
        · dsimp only; omega
        · refine Weaker.fz 1 0 ?_ ?_ ?_
          · simp [go_sem]
          · first | (simp; done) | (simp; omega)
          · simp [go_sem]
        rintro ⟨i, j⟩ hi
        dsimp only at hi ⊢
        refine region_k T_ok (by decide) fun K hK => ?_
        simp [go_sem]
        refine hK _ ?_; clear hK K
        refine seq_k fun K7 hK7 => ?_
        refine cond_k rfl (fun h => ?_) (fun h => ?_)
        · simp at h
          have hI : (i : Int) < (n : Nat) := by omega
          have h' : i < n := by omega
          clear h
          have hi0 : (0 : Int) ≤ (i : Nat) := by omega
          have hw : IntKind.i64.wrap ((i : Nat) + 1) = (i : Nat) + 1 := wrap_i64 (by omega) (by omega)
          obtain ⟨fs, hfs, hfs'⟩ := getAt (show i < F.f.state.length by omega)
          obtain ⟨gs, hgs, hgs'⟩ := getAt (show i < G.f.state.length by omega)
          obtain ⟨fw, hfw, hfw'⟩ := getAt (show i < F.f.write.length by omega)
          obtain ⟨gw, hgw, hgw'⟩ := getAt (show i < G.f.write.length by omega)
          have kg : ¬ gs = 0 := by have := hr.g0 i h'; rwa [getD_at 0 hgs] at this
          have kf : ¬ fs = 0 → fs = gs := by have := hr.s i; rwa [getD_at 0 hfs, getD_at 0 hgs] at this
          have kw : fw.k = true → fw = gw := by have := hr.w i; rwa [getD_at zV hfw, getD_at zV hgw] at this
          refine tr_skip ?_
          refine hK7 _ ?_; try clear hK7 K7
          refine seq_k fun K8 hK8 => ?_
          refine tr_block ?_
          refine region_k T_ok (by decide) fun K hK => ?_
          simp [go_sem]
          refine hK _ ?_; clear hK K
          refine draw_to T_ok (by kernel_rfl) 59 [[], [0], [0, 1], [0, 1, 2], [], [0, 1, 2, 3, 4], [0, 1, 2, 3, 4, 5], [0, 1, 2, 3, 4, 5, 6], [0, 1, 2, 3, 4, 5, 6, 7], [0, 1, 2, 3, 4, 5, 6, 7, 8], [0, 1, 2, 3, 4, 5, 6, 7, 8, 9], [0, 1, 2, 3, 4, 5, 6, 7, 8, 9, 10], [0, 1, 2, 3, 4, 5, 6, 7, 8, 9, 10, 11], [0, 1, 2, 3, 4, 5, 6, 7, 8], [0, 1, 2, 3, 4, 5, 6, 7, 8, 9, 10, 11, 12, 13], [0, 1, 2, 3, 4, 5, 6, 7, 8, 9, 10, 11, 12, 13, 14], [0, 1, 2, 3, 4, 5, 6, 7, 8, 9, 10, 11, 12, 13, 14, 15], [0, 1, 2, 3, 4, 5, 6, 7, 8, 9, 10, 11, 12, 13, 14, 15, 16], [0, 1, 2, 3, 4, 5, 6, 7, 8, 9, 10, 11, 12, 13, 14, 15, 16, 17], [0, 1, 2, 3, 4, 5, 6, 7, 8, 9, 10, 11, 12, 13, 14, 15, 16, 17, 18], [0, 1, 2, 3, 4, 5, 6, 7, 8, 9, 10, 11, 12, 13, 14, 15, 16, 17, 18, 19], [0, 1, 2, 3, 4, 5, 6, 7, 8, 9, 10, 11, 12, 13, 14, 15, 16, 17, 18, 19, 20], [0, 1, 2, 3, 4, 5, 6, 7, 8, 9, 10, 11, 12, 13, 14, 15, 16, 17], [0, 1, 2, 3, 4, 5, 6, 7, 8, 9, 10, 11, 12, 13, 14, 15, 16, 17, 18, 19, 20, 21, 22], [0, 1, 2, 3, 4, 5, 6, 7, 8, 9, 10, 11, 12, 13, 14, 15, 16, 17, 18, 19, 20, 21, 22, 23], [0, 1, 2, 3, 4, 5, 6, 7, 8, 9, 10, 11, 12, 13, 14, 15, 16, 17], [0, 1, 2, 3, 4, 5, 6, 7, 8, 9, 10, 11, 12, 13, 14, 15, 16, 17, 25], [0, 1, 2, 3, 4, 5, 6, 7, 8, 9, 10, 11, 12, 13, 14, 15, 16, 17, 25, 26], [0, 1, 2, 3, 4, 5, 6, 7, 8, 9, 10, 11, 12, 13, 14, 15, 16, 17, 25, 26, 27], [0, 1, 2, 3, 4, 5, 6, 7, 8, 9, 10, 11, 12, 13, 14, 15, 16, 17], [0, 1, 2, 3, 4, 5, 6, 7, 8, 9, 10, 11, 12, 13, 14, 15, 16, 17, 25, 26, 27, 28, 29], [0, 1, 2, 3, 4, 5, 6, 7, 8, 9, 10, 11, 12, 13, 14, 15, 16, 17, 25, 26, 27, 28, 29, 30], [0, 1, 2, 3, 4, 5, 6, 7, 8, 9, 10, 11, 12, 13, 14, 15, 16, 17, 18, 19, 20, 21, 22, 23, 24, 25, 26, 27, 28, 29, 30, 31], [0, 1, 2, 3, 4, 5, 6, 7, 8, 9, 10, 11, 12, 13, 14, 15, 16, 17, 18, 19, 20, 21, 22, 23, 24, 25, 26, 27, 28, 29, 30, 31, 32], [0, 1, 2, 3, 4, 5, 6, 7, 8, 9, 10, 11, 12, 13, 14, 15, 16, 17, 18, 19, 20, 21, 22, 23, 24, 25, 26, 27, 28, 29, 30, 31, 32, 33], [0, 1, 2, 3, 4, 5, 6, 7, 8, 9, 10, 11, 12, 13, 14, 15, 16, 17, 18, 19, 20, 21, 22, 23, 24, 25, 26, 27, 28, 29, 30, 31, 32, 33, 34], [0, 1, 2, 3, 4, 5, 6, 7, 8, 9, 10, 11, 12, 13, 14, 15, 16, 17, 18, 19, 20, 21, 22, 23, 24, 25, 26, 27, 28, 29, 30, 31, 32, 33, 34, 35], [0, 1, 2, 3, 4, 5, 6, 7, 8, 9, 10, 11, 12, 13, 14, 15, 16, 17, 18, 19, 20, 21, 22, 23, 24, 25, 26, 27, 28, 29, 30, 31, 32, 33, 34, 35, 36], [0, 1, 2, 3, 4, 5, 6, 7, 8, 9, 10, 11, 12, 13, 14, 15, 16, 17, 18, 19, 20, 21, 22, 23, 24, 25, 26, 27, 28, 29, 30, 31, 32, 33, 34, 35, 36, 37], [0, 1, 2, 3, 4, 5, 6, 7, 8, 9, 10, 11, 12, 13, 14, 15, 16, 17, 18, 19, 20, 21, 22, 23, 24, 25, 26, 27, 28, 29, 30, 31, 32, 33, 34, 35, 36, 37, 38], [0, 1, 2, 3, 4, 5, 6, 7, 8, 9, 10, 11, 12, 13, 14, 15, 16, 17, 18, 19, 20, 21, 22, 23, 24, 25, 26, 27, 28, 29, 30, 31, 32, 33, 34, 35], [0, 1, 2, 3, 4, 5, 6, 7, 8, 9, 10, 11, 12, 13, 14, 15, 16, 17, 18, 19, 20, 21, 22, 23, 24, 25, 26, 27, 28, 29, 30, 31, 32, 33, 34, 35, 36, 37, 38, 39, 40], [0, 1, 2, 3, 4, 5, 6, 7, 8, 9, 10, 11, 12, 13, 14, 15, 16, 17, 18, 19, 20, 21, 22, 23, 24, 25, 26, 27, 28, 29, 30, 31, 32, 33, 34, 35, 36, 37, 38, 39, 40, 41], [0, 1, 2, 3, 4, 5, 6, 7, 8, 9, 10, 11, 12, 13, 14, 15, 16, 17, 18, 19, 20, 21, 22, 23, 24, 25, 26, 27, 28, 29, 30, 31, 32, 33, 34, 35, 36, 37, 38, 39, 40, 41, 42], [0, 1, 2, 3, 4, 5, 6, 7, 8, 9, 10, 11, 12, 13, 14, 15, 16, 17, 18, 19, 20, 21, 22, 23, 24, 25, 26, 27, 28, 29, 30, 31, 32, 33, 34, 35, 36, 37, 38, 39, 40, 41, 42, 43], [0, 1, 2, 3, 4, 5, 6, 7, 8, 9, 10, 11, 12, 13, 14, 15, 16, 17, 18, 19, 20, 21, 22, 23, 24, 25, 26, 27, 28, 29, 30, 31, 32, 33, 34, 35, 36, 37, 38, 39, 40, 41, 42, 43, 44], [0, 1, 2, 3, 4, 5, 6, 7, 8, 9, 10, 11, 12, 13, 14, 15, 16, 17, 18, 19, 20, 21, 22, 23, 24, 25, 26, 27, 28, 29, 30, 31, 32, 33, 34, 35, 36, 37, 38, 39, 40, 41, 42, 43, 44, 45], [0, 1, 2, 3, 4, 5, 6, 7, 8, 9, 10, 11, 12, 13, 14, 15, 16, 17, 18, 19, 20, 21, 22, 23, 24, 25, 26, 27, 28, 29, 30, 31, 32, 33, 34, 35, 36, 37, 38, 39, 40, 41, 42, 43, 44, 45, 46], [0, 1, 2, 3, 4, 5, 6, 7, 8, 9, 10, 11, 12, 13, 14, 15, 16, 17, 18, 19, 20, 21, 22, 23, 24, 25, 26, 27, 28, 29, 30, 31, 32, 33, 34, 35, 36, 37, 38, 39, 40, 41, 42, 43, 44, 45, 46, 47], [0, 1, 2, 3, 4, 5, 6, 7, 8, 9, 10, 11, 12, 13, 14, 15, 16, 17, 18, 19, 20, 21, 22, 23, 24, 25, 26, 27, 28, 29, 30, 31, 32, 33, 34, 35, 36, 37, 38, 39, 40, 41, 42, 43, 44], [0, 1, 2, 3, 4, 5, 6, 7, 8, 9, 10, 11, 12, 13, 14, 15, 16, 17, 18, 19, 20, 21, 22, 23, 24, 25, 26, 27, 28, 29, 30, 31, 32, 33, 34, 35, 36, 37, 38, 39, 40, 41, 42, 43, 44, 45, 46, 47, 48, 49], [0, 1, 2, 3, 4, 5, 6, 7, 8, 9, 10, 11, 12, 13, 14, 15, 16, 17, 18, 19, 20, 21, 22, 23, 24, 25, 26, 27, 28, 29, 30, 31, 32, 33, 34, 35, 36, 37, 38, 39, 40, 41, 42, 43, 44, 45, 46, 47, 48, 49, 50], [0, 1, 2, 3, 4, 5, 6, 7, 8, 9, 10, 11, 12, 13, 14, 15, 16, 17, 18, 19, 20, 21, 22, 23, 24, 25, 26, 27, 28, 29, 30, 31, 32, 33, 34, 35, 36, 37, 38, 39, 40, 41, 42, 43, 44], [0, 1, 2, 3, 4, 5, 6, 7, 8, 9, 10, 11, 12, 13, 14, 15, 16, 17, 18, 19, 20, 21, 22, 23, 24, 25, 26, 27, 28, 29, 30, 31, 32, 33, 34, 35, 36, 37, 38, 39, 40, 41, 42, 43, 44, 52], [0, 1, 2, 3, 4, 5, 6, 7, 8, 9, 10, 11, 12, 13, 14, 15, 16, 17, 18, 19, 20, 21, 22, 23, 24, 25, 26, 27, 28, 29, 30, 31, 32, 33, 34, 35, 36, 37, 38, 39, 40, 41, 42, 43, 44, 52, 53], [0, 1, 2, 3, 4, 5, 6, 7, 8, 9, 10, 11, 12, 13, 14, 15, 16, 17, 18, 19, 20, 21, 22, 23, 24, 25, 26, 27, 28, 29, 30, 31, 32, 33, 34, 35, 36, 37, 38, 39, 40, 41, 42, 43, 44, 52, 53, 54], [0, 1, 2, 3, 4, 5, 6, 7, 8, 9, 10, 11, 12, 13, 14, 15, 16, 17, 18, 19, 20, 21, 22, 23, 24, 25, 26, 27, 28, 29, 30, 31, 32, 33, 34, 35, 36, 37, 38, 39, 40, 41, 42, 43, 44], [0, 1, 2, 3, 4, 5, 6, 7, 8, 9, 10, 11, 12, 13, 14, 15, 16, 17, 18, 19, 20, 21, 22, 23, 24, 25, 26, 27, 28, 29, 30, 31, 32, 33, 34, 35, 36, 37, 38, 39, 40, 41, 42, 43, 44, 52, 53, 54, 55, 56], [0, 1, 2, 3, 4, 5, 6, 7, 8, 9, 10, 11, 12, 13, 14, 15, 16, 17, 18, 19, 20, 21, 22, 23, 24, 25, 26, 27, 28, 29, 30, 31, 32, 33, 34, 35, 36, 37, 38, 39, 40, 41, 42, 43, 44, 52, 53, 54, 55, 56, 57], [0, 1, 2, 3, 4, 5, 6, 7, 8, 9, 10, 11, 12, 13, 14, 15, 16, 17, 18, 19, 20, 21, 22, 23, 24, 25, 26, 27, 28, 29, 30, 31, 32, 33, 34, 35, 36, 37, 38, 39, 40, 41, 42, 43, 44, 45, 46, 47, 48, 49, 50, 51, 52, 53, 54, 55, 56, 57, 58], [0, 1, 2, 3, 4, 5, 6, 7, 8, 9, 10, 11, 12, 13, 14, 15, 16, 17, 18, 19, 20, 21, 22, 23, 24, 25, 26, 27, 28, 29, 30, 31, 32, 33, 34, 35, 36, 37, 38, 39, 40, 41, 42, 43, 44, 45, 46, 47, 48, 49, 50, 51, 52, 53, 54, 55, 56, 57, 58, 59], [0, 1, 2, 3, 4, 5, 6, 7, 8, 9, 10, 11, 12, 13, 14, 15, 16, 17, 18, 19, 20, 21, 22, 23, 24, 25, 26, 27, 28, 29, 30, 31, 32, 33, 34, 35, 36, 37, 38, 39, 40, 41, 42, 43, 44, 45, 46, 47, 48, 49, 50, 51, 52, 53, 54, 55, 56, 57, 58, 59, 60]] [] (by decide) (by decide) (by decide) ⟨173, [(1, .ro 2 (vls reads)), (2, .ro 1 (bVs works)), (3, .ro 1 (uVs more)), (4, .rp T.cs 0), (9, .ro 2 (vls a)), (10, .ro 1 (bVs b)), (12, .rp F.cs 0), (15, .rp G.cs 0), (105, iV (n : Nat)), (106, iV (i : Nat)), (170, bV false)], [], j + 59⟩ ?_ ?_
          · first | dsimp only [List.take, List.drop] | dsimp [List.take, List.drop]
            by_cases c1 : fs = 0
            · by_cases c2 : fw.k = true
              · have ew := (kw c2).symm
                simp [go_sem, c1, c2, hI, hi0, h', r1, r2, s1, s2, hfs, hgs, hfw, hgw, hfs', hgs', hfw', hgw', kg, int_beq, int_bne, ew]
                refine Weaker.fz 1 0 ?_ ?_ ?_
                · simp [go_sem, c1, c2, ew]
                · first | (simp; done) | (simp; omega)
                · simp [go_sem, c1, c2, ew]
              · simp [go_sem, c1, c2, hI, hi0, h', r1, r2, s1, s2, hfs, hgs, hfw, hgw, hfs', hgs', hfw', hgw', kg, int_beq, int_bne]
                refine Weaker.fz 1 0 ?_ ?_ ?_
                · simp [go_sem, c1, c2]
                · first | (simp; done) | (simp; omega)
                · simp [go_sem, c1, c2]
            · by_cases c2 : fw.k = true
              · have ew := (kw c2).symm
                have ef := kf c1
                simp [go_sem, c1, c2, hI, hi0, h', r1, r2, s1, s2, hfs, hgs, hfw, hgw, hfs', hgs', hfw', hgw', kg, int_beq, int_bne, ef, ew]
                refine Weaker.fz 1 0 ?_ ?_ ?_
                · simp [go_sem, c1, c2, ef, ew]
                · first | (simp; done) | (simp; omega)
                · simp [go_sem, c1, c2, ef, ew]
              · have ef := kf c1
                simp [go_sem, c1, c2, hI, hi0, h', r1, r2, s1, s2, hfs, hgs, hfw, hgw, hfs', hgs', hfw', hgw', kg, int_beq, int_bne, ef]
                refine Weaker.fz 1 0 ?_ ?_ ?_
                · simp [go_sem, c1, c2, ef]
                · first | (simp; done) | (simp; omega)
                · simp [go_sem, c1, c2, ef]
          · skip
            refine cond_k rfl (fun h => ?_) (fun h => ?_)
            · simp at h
            · clear h
              refine tr_skip ?_
              refine hK8 _ ?_; try clear hK8 K8
              refine region_e T_ok (by decide) fun K hK => ?_
              simp [go_sem, hw]
              refine hK _ ?_; clear hK K
              refine ⟨(i + 1, j + 59), ?_, ?_, ?_⟩
              · dsimp only; omega
              · dsimp only; omega
              · refine Weaker.fz 1 0 ?_ ?_ ?_
                · simp [go_sem]
                · first | (simp; done) | (simp; omega)
                simp [go_sem]
        · simp at h
          refine tr_exit ?_
          refine hK6 _ ?_; try clear hK6 K6
          refine region_k T_ok (by decide) fun K hK => ?_
          simp [go_sem]
          refine call_pf (awake13) ?_
          simp [go_sem]
          refine hK _ ?_; clear hK K
          refine tr_ret ⟨.inr rfl, ?_⟩
          simp [go_sem]

end Go.Proofs.Ytokdphmnlcmbbaa
