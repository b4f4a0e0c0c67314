/- Litmus tests: the walk of Check of the package litmus. -/
import Derived.Test.YtokdphmnlcmbbaaGlite
import Derived.Test.YtokdphmnlcmbbaaGlitc
set_option linter.unusedVariables false
set_option linter.unusedSimpArgs false
namespace Go.Proofs.Ytokdphmnlcmbbaa
open Go Go.Sl Go.Proofs.Try

set_option maxRecDepth 100000 in
set_option maxHeartbeats 16000000 in
theorem Check_pf (t : Tst) (hn : ∀ l ∈ t.locs, l.name.size ≤ 1000000) : Pf Try.prog 12 [.rp t.cs 0] (iV (chkErr t)) := by
  refine Pf.of_fn (.cons (nl_rp t) .nil) (.val _) ?_
  refine fn_in T_ok func12 rfl rfl ntmps12 rfl (by simp) ?_
  refine region_k T_ok (by decide) fun K hK => ?_
  simp [go_sem]
  refine hK _ ?_; clear hK K
  refine seq_k fun K1 hK1 => ?_
  refine region_k T_ok (by decide) fun K hK => ?_
  simp [go_sem]
  refine call_pf (sizes_pf t) ?_
  simp [go_sem]
  refine hK _ ?_; clear hK K
  refine region_k T_ok (by decide) fun K hK => ?_
  simp [go_sem]
  refine hK _ ?_; clear hK K
  refine cond_k rfl (fun h => ?_) (fun h => ?_)
  · simp at h
    have hs := h
    refine region_k T_ok (by decide) fun K hK => ?_
    simp [go_sem]
    refine hK _ ?_; clear hK K
    refine tr_ret ⟨.inr rfl, ?_⟩
    simp [go_sem, chkErr, hs]
  · simp at h
    have hz := h
    obtain ⟨_, b1, b2, b3, b4, _⟩ := sizeErr_zero hz
    refine tr_skip ?_
    refine hK1 _ ?_; try clear hK1 K1
    refine seq_k fun K2 hK2 => ?_
    refine region_k T_ok (by decide) fun K hK => ?_
    simp [go_sem, Tst.cs]
    refine hK _ ?_; clear hK K
    refine tr_block ?_
    refine loop_p (α := Nat × Nat) (fun a => ⟨111, [(0, .rp t.cs 0), (22, .ro 2 (inis t.locs)), (23, iV (t.locs.length : Nat)), (24, iV (a.1 : Nat))], [], a.2⟩) (fun a => a.1 ≤ t.locs.length ∧ fe (locErr t) 0 t.locs = fe (locErr t) a.1 (t.locs.drop a.1)) (fun a => t.locs.length - a.1) (0, 0) ?_ ?_ ?_
    · exact ⟨by dsimp only; omega, rfl⟩
    · refine Weaker.fz 1 0 ?_ ?_ ?_
      · simp [go_sem, Tst.cs]
      · first | (simp; done) | (simp; omega)
      · simp [go_sem]
    rintro ⟨i, j⟩ ⟨hi, hf⟩
    dsimp only at hi hf ⊢
    refine region_k T_ok (by decide) fun K hK => ?_
    simp [go_sem]
    refine hK _ ?_; clear hK K
    refine seq_k fun K3 hK3 => ?_
    refine cond_k rfl (fun h => ?_) (fun h => ?_)
    · simp at h
      have hI := h
      clear h
      have h' : i < (t.locs).length := by omega
      obtain ⟨l, hx, hx'⟩ := getAt h'
      have hi0 : (0 : Int) ≤ (i : Nat) := by omega
      have hw : IntKind.i64.wrap ((i : Nat) + 1) = (i : Nat) + 1 := wrap_i64 (by omega) (by omega)
      have hnm := hn l (List.mem_of_getElem? hx)
      refine tr_skip ?_
      refine hK3 _ ?_; try clear hK3 K3
      refine seq_k fun K4 hK4 => ?_
      refine tr_block ?_
      refine region_k T_ok (by decide) fun K hK => ?_
      simp [go_sem, hI, hx, hx', hi0, h', iniC, Ini.cs]
      refine hK _ ?_; clear hK K
      refine seq_k fun K5 hK5 => ?_
      refine region_k T_ok (by decide) fun K hK => ?_
      simp [go_sem, iniC, Ini.cs]
      refine call_pf (name_pf _ (by omega)) ?_
      simp [go_sem]
      refine hK _ ?_; clear hK K
      refine cond_k rfl (fun h => ?_) (fun h => ?_)
      · simp at h
        have hg : locErr t i l = 11 := by simp [locErr, h]
        have hl : fe (locErr t) 0 t.locs = 11 := by rw [hf, fe_bad hx (by rw [hg]; decide), hg]
        refine region_k T_ok (by decide) fun K hK => ?_
        simp [go_sem]
        refine hK _ ?_; clear hK K
        refine tr_ret ⟨.inr rfl, ?_⟩
        simp [go_sem, chkErr, hz, hl]
      · simp at h
        have hnk := h
        refine tr_skip ?_
        refine hK5 _ ?_; try clear hK5 K5
        refine draw_to T_ok (by kernel_rfl) 14 [[], [0], [0, 1], [0, 1, 2], [0, 1, 2, 3], [0, 1, 2], [0, 1, 2, 5], [0, 1, 2, 5, 6], [0, 1, 2, 5, 6, 7], [0, 1, 2], [0, 1, 2, 9], [0, 1, 2, 5, 6, 7, 8, 9, 10], [0, 1, 2, 5, 6, 7, 8, 9, 10, 11], [0, 1, 2, 5, 6, 7, 8, 9, 10, 11, 12], [0, 1, 2, 3, 4, 5, 6, 7, 8, 9, 10, 11, 12, 13], [0, 1, 2, 3, 4, 5, 6, 7, 8, 9, 10, 11, 12, 13, 14]] [] (by decide) (by decide) (by decide) ⟨111, [(0, .rp t.cs 0), (22, .ro 2 (inis t.locs)), (23, iV (t.locs.length : Nat)), (24, iV (i : Nat)), (48, bV (prevLe t i l))], [], j + 15⟩ ?_ ?_
        · first | dsimp only [List.take, List.drop] | dsimp [List.take, List.drop]
          by_cases c1 : 0 < i
          · obtain ⟨p, hp, hp'⟩ := getAt (show i - 1 < t.locs.length by omega)
            have hw1 : IntKind.i64.wrap ((i : Int) - 1) = ((i - 1 : Nat) : Int) := by rw [wrap_i64 (by omega) (by omega)]; omega
            have hb1 : ((i - 1 : Nat) : Int) < (t.locs.length : Nat) := by omega
            have hb0 : (0 : Int) ≤ ((i - 1 : Nat) : Int) := by omega
            have hb2 : i - 1 < t.locs.length := by omega
            have cI : (0 : Int) < (i : Nat) := by omega
            simp [go_sem, c1, Tst.cs, iniC, Ini.cs, hp, hp', hw1, hb1, hb0, hb2, cI]
            refine Weaker.fz 1 0 ?_ ?_ ?_
            · simp [go_sem, c1, prevLe, strLe, Tst.cs, hp, hp', hw1, hb1, hb0, hb2, cI]
            · first | (simp; done) | (simp; omega)
            · simp [go_sem, c1, prevLe, strLe, Tst.cs, hp, hp', hw1, hb1, hb0, hb2, cI]
          · have cI : ¬ (0 : Int) < (i : Nat) := by omega
            simp [go_sem, c1, Tst.cs, iniC, Ini.cs, cI]
            refine Weaker.fz 1 0 ?_ ?_ ?_
            · simp [go_sem, c1, prevLe, strLe, Tst.cs, cI]
            · first | (simp; done) | (simp; omega)
            · simp [go_sem, c1, prevLe, strLe, Tst.cs, cI]
        · skip
          refine cond_k rfl (fun h => ?_) (fun h => ?_)
          · have hg : locErr t i l = 16 := by simp [locErr, hnk, h]
            have hl : fe (locErr t) 0 t.locs = 16 := by rw [hf, fe_bad hx (by rw [hg]; decide), hg]
            refine region_k T_ok (by decide) fun K hK => ?_
            simp [go_sem]
            refine hK _ ?_; clear hK K
            refine tr_ret ⟨.inr rfl, ?_⟩
            simp [go_sem, chkErr, hz, hl]
          · have hg : locErr t i l = 0 := by simp [locErr, hnk, h]
            refine tr_skip ?_
            refine hK4 _ ?_; try clear hK4 K4
            refine region_e T_ok (by decide) fun K hK => ?_
            simp [go_sem, hw]
            refine hK _ ?_; clear hK K
            refine ⟨(i + 1, j + 15), ?_, ?_, ?_⟩
            · exact ⟨by dsimp only; omega, by dsimp only; rw [hf, fe_good hx hg]⟩
            · dsimp only; omega
            · refine Weaker.fz 1 0 ?_ ?_ ?_
              · simp [go_sem]
              · first | (simp; done) | (simp; omega)
              simp [go_sem]
    · simp at h
      obtain rfl : i = t.locs.length := by omega
      rw [fe_end] at hf
      have hl := hf
      clear hf
      refine tr_exit ?_
      refine hK2 _ ?_; try clear hK2 K2
      refine seq_k fun K6 hK6 => ?_
      refine region_k T_ok (by decide) fun K hK => ?_
      simp [go_sem, Tst.cs]
      refine hK _ ?_; clear hK K
      refine tr_block ?_
      refine loop_p (α := Nat × Nat) (fun a => ⟨111, [(0, .rp t.cs 0), (53, .ro 1 (thrs t.ths)), (54, iV (t.ths.length : Nat)), (55, iV (a.1 : Nat))], [], a.2⟩) (fun a => a.1 ≤ t.ths.length ∧ fe (thrErr t) 0 t.ths = fe (thrErr t) a.1 (t.ths.drop a.1)) (fun a => t.ths.length - a.1) (0, j) ?_ ?_ ?_
      · exact ⟨by dsimp only; omega, rfl⟩
      · refine Weaker.fz 1 0 ?_ ?_ ?_
        · simp [go_sem, Tst.cs]
        · first | (simp; done) | (simp; omega)
        · simp [go_sem]
      rintro ⟨i, j⟩ ⟨hi, hf⟩
      dsimp only at hi hf ⊢
      refine region_k T_ok (by decide) fun K hK => ?_
      simp [go_sem]
      refine hK _ ?_; clear hK K
      refine seq_k fun K7 hK7 => ?_
      refine cond_k rfl (fun h => ?_) (fun h => ?_)
      · simp at h
        have hI := h
        clear h
        have h' : i < (t.ths).length := by omega
        obtain ⟨l, hx, hx'⟩ := getAt h'
        have hi0 : (0 : Int) ≤ (i : Nat) := by omega
        have hw : IntKind.i64.wrap ((i : Nat) + 1) = (i : Nat) + 1 := wrap_i64 (by omega) (by omega)
        have hll := b4 l (List.mem_of_getElem? hx)
        refine tr_skip ?_
        refine hK7 _ ?_; try clear hK7 K7
        refine seq_k fun K8 hK8 => ?_
        refine tr_block ?_
        refine region_k T_ok (by decide) fun K hK => ?_
        simp [go_sem, hI, hx, hx', hi0, h']
        refine hK _ ?_; clear hK K
        refine region_k T_ok (by decide) fun K hK => ?_
        simp [go_sem]
        refine hK _ ?_; clear hK K
        refine tr_block ?_
        refine loop_p (α := Nat × Nat) (fun b => ⟨111, [(0, .rp t.cs 0), (7, .ro 13 (inss l)), (53, .ro 1 (thrs t.ths)), (54, iV (t.ths.length : Nat)), (55, iV (i : Nat)), (59, .ro 13 (inss l)), (60, iV (l.length : Nat)), (61, iV (b.1 : Nat))], [], b.2⟩) (fun b => b.1 ≤ l.length ∧ fe (fun i x => insErr t.locs.length ((l.length : Int) - i - 1) x) 0 l = fe (fun i x => insErr t.locs.length ((l.length : Int) - i - 1) x) b.1 (l.drop b.1)) (fun b => l.length - b.1) (0, j) ?_ ?_ ?_
        · exact ⟨by dsimp only; omega, rfl⟩
        · refine Weaker.fz 1 0 ?_ ?_ ?_
          · simp [go_sem]
          · first | (simp; done) | (simp; omega)
          · simp [go_sem]
        rintro ⟨b, c⟩ ⟨hib, hfb⟩
        dsimp only at hib hfb ⊢
        refine region_k T_ok (by decide) fun K hK => ?_
        simp [go_sem]
        refine hK _ ?_; clear hK K
        refine seq_k fun K9 hK9 => ?_
        refine cond_k rfl (fun h => ?_) (fun h => ?_)
        · simp at h
          have hIb := h
          clear h
          have h'b : b < (l).length := by omega
          obtain ⟨x, hxb, hx'b⟩ := getAt h'b
          have hi0b : (0 : Int) ≤ (b : Nat) := by omega
          have hwb : IntKind.i64.wrap ((b : Nat) + 1) = (b : Nat) + 1 := wrap_i64 (by omega) (by omega)
          have hwl1 : IntKind.i64.wrap ((l.length : Int) - (b : Int)) = (l.length : Int) - b := wrap_i64 (by omega) (by omega)
          have hwl2 : IntKind.i64.wrap ((l.length : Int) - (b : Int) - 1) = (l.length : Int) - b - 1 := wrap_i64 (by omega) (by omega)
          refine tr_skip ?_
          refine hK9 _ ?_; try clear hK9 K9
          refine seq_k fun K10 hK10 => ?_
          refine tr_block ?_
          refine region_k T_ok (by decide) fun K hK => ?_
          simp [go_sem, hIb, hxb, hx'b, hi0b, h'b, insC]
          refine hK _ ?_; clear hK K
          refine region_k T_ok (by decide) fun K hK => ?_
          simp [go_sem, hwl1, hwl2]
          refine call_pf (check_pf t x _) ?_
          simp [go_sem]
          refine hK _ ?_; clear hK K
          refine region_k T_ok (by decide) fun K hK => ?_
          simp [go_sem]
          refine hK _ ?_; clear hK K
          refine cond_k rfl (fun h => ?_) (fun h => ?_)
          · simp at h
            have hgx : fe (fun i x => insErr t.locs.length ((l.length : Int) - i - 1) x) 0 l = insErr t.locs.length ((l.length : Int) - b - 1) x := by rw [hfb, fe_bad hxb h]
            have hg : thrErr t i l = insErr t.locs.length ((l.length : Int) - b - 1) x := hgx
            have ht : fe (thrErr t) 0 t.ths = insErr t.locs.length ((l.length : Int) - b - 1) x := by rw [hf, fe_bad hx (by rw [hg]; exact h), hg]
            refine region_k T_ok (by decide) fun K hK => ?_
            simp [go_sem]
            refine hK _ ?_; clear hK K
            refine tr_ret ⟨.inr rfl, ?_⟩
            simp [go_sem, chkErr, hz, hl, ht, h]
          · simp at h
            have hgb := h
            refine tr_skip ?_
            refine hK10 _ ?_; try clear hK10 K10
            refine region_e T_ok (by decide) fun K hK => ?_
            simp [go_sem, hwb]
            refine hK _ ?_; clear hK K
            refine ⟨(b + 1, c + 1), ?_, ?_, ?_⟩
            · exact ⟨by dsimp only; omega, by dsimp only; rw [hfb, fe_good hxb hgb]⟩
            · dsimp only; omega
            · refine Weaker.fz 1 0 ?_ ?_ ?_
              · simp [go_sem]
              · first | (simp; done) | (simp; omega)
              simp [go_sem]
        · simp at h
          obtain rfl : b = l.length := by omega
          rw [fe_end] at hfb
          have hg : thrErr t i l = 0 := hfb
          refine tr_exit ?_
          refine hK8 _ ?_; try clear hK8 K8
          refine region_e T_ok (by decide) fun K hK => ?_
          simp [go_sem, hw]
          refine hK _ ?_; clear hK K
          refine ⟨(i + 1, c), ?_, ?_, ?_⟩
          · exact ⟨by dsimp only; omega, by dsimp only; rw [hf, fe_good hx hg]⟩
          · dsimp only; omega
          · refine Weaker.fz 1 0 ?_ ?_ ?_
            · simp [go_sem]
            · first | (simp; done) | (simp; omega)
            simp [go_sem]
      · simp at h
        obtain rfl : i = t.ths.length := by omega
        rw [fe_end] at hf
        have ht := hf
        clear hf
        refine tr_exit ?_
        refine hK6 _ ?_; try clear hK6 K6
        refine seq_k fun K11 hK11 => ?_
        refine region_k T_ok (by decide) fun K hK => ?_
        simp [go_sem, Tst.cs]
        refine hK _ ?_; clear hK K
        refine tr_block ?_
        refine loop_p (α := Nat × Nat) (fun a => ⟨111, [(0, .rp t.cs 0), (82, .ro 3 (atms t.asks)), (83, iV (t.asks.length : Nat)), (84, iV (a.1 : Nat))], [], a.2⟩) (fun a => a.1 ≤ t.asks.length ∧ fe (askErr2 t) 0 t.asks = fe (askErr2 t) a.1 (t.asks.drop a.1)) (fun a => t.asks.length - a.1) (0, j) ?_ ?_ ?_
        · exact ⟨by dsimp only; omega, rfl⟩
        · refine Weaker.fz 1 0 ?_ ?_ ?_
          · simp [go_sem, Tst.cs]
          · first | (simp; done) | (simp; omega)
          · simp [go_sem]
        rintro ⟨i, j⟩ ⟨hi, hf⟩
        dsimp only at hi hf ⊢
        refine region_k T_ok (by decide) fun K hK => ?_
        simp [go_sem]
        refine hK _ ?_; clear hK K
        refine seq_k fun K12 hK12 => ?_
        refine cond_k rfl (fun h => ?_) (fun h => ?_)
        · simp at h
          have hI := h
          clear h
          have h' : i < (t.asks).length := by omega
          obtain ⟨a, hx, hx'⟩ := getAt h'
          have hi0 : (0 : Int) ≤ (i : Nat) := by omega
          have hw : IntKind.i64.wrap ((i : Nat) + 1) = (i : Nat) + 1 := wrap_i64 (by omega) (by omega)
          refine tr_skip ?_
          refine hK12 _ ?_; try clear hK12 K12
          refine seq_k fun K13 hK13 => ?_
          refine tr_block ?_
          refine region_k T_ok (by decide) fun K hK => ?_
          simp [go_sem, hI, hx, hx', hi0, h', atmC, Atm.cs]
          refine hK _ ?_; clear hK K
          refine seq_k fun K14 hK14 => ?_
          refine region_k T_ok (by decide) fun K hK => ?_
          simp [go_sem, atmC, Atm.cs]
          refine call_pf (checkAsk_pf t a) ?_
          simp [go_sem]
          refine hK _ ?_; clear hK K
          refine region_k T_ok (by decide) fun K hK => ?_
          simp [go_sem]
          refine hK _ ?_; clear hK K
          refine cond_k rfl (fun h => ?_) (fun h => ?_)
          · simp at h
            have hg : askErr2 t i a = askErr t a := by simp [askErr2, h]
            have ha : fe (askErr2 t) 0 t.asks = askErr t a := by rw [hf, fe_bad hx (by rw [hg]; exact h), hg]
            refine region_k T_ok (by decide) fun K hK => ?_
            simp [go_sem]
            refine hK _ ?_; clear hK K
            refine tr_ret ⟨.inr rfl, ?_⟩
            simp [go_sem, chkErr, hz, hl, ht, ha, h]
          · simp at h
            have hak := h
            refine tr_skip ?_
            refine hK14 _ ?_; try clear hK14 K14
            refine draw_to T_ok (by kernel_rfl) 12 [[], [0], [0, 1], [0, 1, 2], [0, 1, 2, 3], [0, 1, 2, 3, 4], [0, 1, 2, 3, 4, 5], [0, 1, 2], [0, 1, 2, 7], [0, 1, 2, 3, 4, 5, 6, 7, 8], [0, 1, 2, 3, 4, 5, 6, 7, 8, 9], [0, 1, 2], [0, 1, 2, 3, 4, 5, 6, 7, 8, 9, 10, 11], [0, 1, 2, 3, 4, 5, 6, 7, 8, 9, 10, 11, 12], [0, 1, 2, 3, 4, 5, 6, 7, 8, 9, 10, 11, 12, 13]] [] (by decide) (by decide) (by decide) ⟨111, [(0, .rp t.cs 0), (82, .ro 3 (atms t.asks)), (83, iV (t.asks.length : Nat)), (84, iV (i : Nat)), (109, bV (prevAsk t i a))], [], j + 13⟩ ?_ ?_
            · first | dsimp only [List.take, List.drop] | dsimp [List.take, List.drop]
              by_cases c1 : 0 < i
              · obtain ⟨p, hp, hp'⟩ := getAt (show i - 1 < t.asks.length by omega)
                have hw1 : IntKind.i64.wrap ((i : Int) - 1) = ((i - 1 : Nat) : Int) := by rw [wrap_i64 (by omega) (by omega)]; omega
                have hb1 : ((i - 1 : Nat) : Int) < (t.asks.length : Nat) := by omega
                have hb0 : (0 : Int) ≤ ((i - 1 : Nat) : Int) := by omega
                have hb2 : i - 1 < t.asks.length := by omega
                have cI : (0 : Int) < (i : Nat) := by omega
                simp [go_sem, c1, Tst.cs, atmC, Atm.cs, hp, hp', hw1, hb1, hb0, hb2, cI]
                refine call_pf (before_pf p a) ?_
                simp [go_sem, c1, Tst.cs, atmC, Atm.cs, hp, hp', hw1, hb1, hb0, hb2, cI]
                refine Weaker.fz 1 0 ?_ ?_ ?_
                · simp [go_sem, c1, prevAsk, Tst.cs, hp, hp', hw1, hb1, hb0, hb2, cI]
                · first | (simp; done) | (simp; omega)
                · simp [go_sem, c1, prevAsk, Tst.cs, hp, hp', hw1, hb1, hb0, hb2, cI]
              · have cI : ¬ (0 : Int) < (i : Nat) := by omega
                simp [go_sem, c1, Tst.cs, atmC, Atm.cs, cI]
                refine Weaker.fz 1 0 ?_ ?_ ?_
                · simp [go_sem, c1, prevAsk, Tst.cs, cI]
                · first | (simp; done) | (simp; omega)
                · simp [go_sem, c1, prevAsk, Tst.cs, cI]
            · skip
              refine cond_k rfl (fun h => ?_) (fun h => ?_)
              · have hg : askErr2 t i a = 16 := by simp [askErr2, hak, h]
                have ha : fe (askErr2 t) 0 t.asks = 16 := by rw [hf, fe_bad hx (by rw [hg]; decide), hg]
                refine region_k T_ok (by decide) fun K hK => ?_
                simp [go_sem]
                refine hK _ ?_; clear hK K
                refine tr_ret ⟨.inr rfl, ?_⟩
                simp [go_sem, chkErr, hz, hl, ht, ha]
              · have hg : askErr2 t i a = 0 := by simp [askErr2, hak, h]
                refine tr_skip ?_
                refine hK13 _ ?_; try clear hK13 K13
                refine region_e T_ok (by decide) fun K hK => ?_
                simp [go_sem, hw]
                refine hK _ ?_; clear hK K
                refine ⟨(i + 1, j + 13), ?_, ?_, ?_⟩
                · exact ⟨by dsimp only; omega, by dsimp only; rw [hf, fe_good hx hg]⟩
                · dsimp only; omega
                · refine Weaker.fz 1 0 ?_ ?_ ?_
                  · simp [go_sem]
                  · first | (simp; done) | (simp; omega)
                  simp [go_sem]
        · simp at h
          obtain rfl : i = t.asks.length := by omega
          rw [fe_end] at hf
          have ha := hf
          clear hf
          refine tr_exit ?_
          refine hK11 _ ?_; try clear hK11 K11
          refine region_k T_ok (by decide) fun K hK => ?_
          simp [go_sem]
          refine hK _ ?_; clear hK K
          refine tr_ret ⟨.inr rfl, ?_⟩
          simp [go_sem, chkErr, hz, hl, ht, ha]

end Go.Proofs.Ytokdphmnlcmbbaa
