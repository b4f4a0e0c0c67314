/- Litmus tests: the walks of the package litmus, the second part. -/
import Derived.Test.YtokdphmnlcmbbaaGlita
set_option linter.unusedVariables false
set_option linter.unusedSimpArgs false
namespace Go.Proofs.Ytokdphmnlcmbbaa
open Go Go.Sl Go.Proofs.Try

set_option maxRecDepth 100000 in
set_option maxHeartbeats 8000000 in
theorem checkAsk_pf (t : Tst) (a : Atm) : Pf Try.prog 30 [.rp t.cs 0, atmC a] (iV (askErr t a)) := by
  refine Pf.of_fn (.cons (nl_rp t) (.cons (nl_atmC a) .nil)) (.val _) ?_
  refine fn_in T_ok func30 rfl rfl ntmps30 rfl (by simp) ?_
  refine region_k T_ok (by decide) fun K hK => ?_
  simp [go_sem, atmC, Atm.cs, Tst.cs]
  refine hK _ ?_; clear hK K
  refine region_k T_ok (by decide) fun K hK => ?_
  simp [go_sem, atmC, Atm.cs, Tst.cs]
  refine hK _ ?_; clear hK K
  refine seq_k fun K1 hK1 => ?_
  refine region_k T_ok (by decide) fun K hK => ?_
  simp [go_sem, atmC, Atm.cs, Tst.cs]
  refine hK _ ?_; clear hK K
  refine cond_k rfl (fun h => ?_) (fun h => ?_)
  · simp at h
    have hth := h
    refine region_e T_ok (by decide) fun K hK => ?_
    simp [go_sem]
    refine hK _ ?_; clear hK K
    refine hK1 _ ?_; try clear hK1 K1
    refine seq_k fun K2 hK2 => ?_
    refine draw_to T_ok (by kernel_rfl) 22 [[], [0], [0, 1], [0, 1, 2], [0, 1, 2, 3], [0, 1, 2, 3, 4], [0, 1, 2, 3], [0, 1, 2, 3, 6], [0, 1, 2, 3, 6, 7], [0, 1, 2, 3, 6, 7, 8], [0, 1, 2, 3, 6, 7, 8, 9], [0, 1, 2, 3, 4, 5, 6, 7, 8, 9, 10], [0, 1, 2, 3, 4, 5, 6, 7, 8, 9, 10, 11], [0, 1, 2, 3, 4, 5, 6, 7, 8, 9, 10, 11, 12], [0, 1, 2, 3, 4, 5, 6, 7, 8, 9, 10, 11, 12, 13], [0, 1, 2, 3, 4, 5, 6, 7, 8, 9, 10, 11, 12, 13, 14], [0, 1, 2, 3, 4, 5, 6, 7, 8, 9, 10, 11, 12, 13, 14, 15], [0, 1, 2, 3, 4, 5, 6, 7, 8, 9, 10, 11, 12, 13, 14, 15, 16], [0, 1, 2, 3, 4, 5, 6, 7, 8, 9, 10, 11, 12, 13, 14, 15, 16, 17], [0, 1, 2, 3, 4, 5, 6, 7, 8, 9, 10, 11, 12, 13, 14, 15, 16, 17, 18], [0, 1, 2, 3, 4, 5, 6, 7, 8, 9, 10, 11, 12, 13, 14, 15, 16, 17, 18, 19], [0, 1, 2, 3, 4, 5, 6, 7, 8, 9, 10, 11, 12, 13, 14, 15, 16, 17, 18], [0, 1, 2, 3, 4, 5, 6, 7, 8, 9, 10, 11, 12, 13, 14, 15, 16, 17, 18, 19, 20, 21], [0, 1, 2, 3, 4, 5, 6, 7, 8, 9, 10, 11, 12, 13, 14, 15, 16, 17, 18, 19, 20, 21, 22]] [] (by decide) (by decide) (by decide) ⟨38, [(37, bV (askBad t a))], [], 23⟩ ?_ ?_
    · first | dsimp only [List.take, List.drop] | dsimp [List.take, List.drop]
      by_cases c1 : a.th < -1
      · simp [go_sem, c1, atmC, Atm.cs, Tst.cs]
        refine Weaker.fz 1 0 ?_ ?_ ?_
        · simp [go_sem, c1, askBad, askLim, hth]
        · first | (simp; done) | (simp; omega)
        · simp [go_sem, c1, askBad, askLim, hth]
      · by_cases c2 : (t.ths.length : Int) ≤ a.th
        · simp [go_sem, c1, c2, atmC, Atm.cs, Tst.cs]
          refine Weaker.fz 1 0 ?_ ?_ ?_
          · simp [go_sem, c1, c2, askBad, askLim, hth]
          · first | (simp; done) | (simp; omega)
          · simp [go_sem, c1, c2, askBad, askLim, hth]
        · by_cases c3 : a.at_ < 0
          · simp [go_sem, c1, c2, c3, atmC, Atm.cs, Tst.cs]
            refine Weaker.fz 1 0 ?_ ?_ ?_
            · simp [go_sem, c1, c2, c3, askBad, askLim, hth]
            · first | (simp; done) | (simp; omega)
            · simp [go_sem, c1, c2, c3, askBad, askLim, hth]
          · by_cases c4 : 8 ≤ a.at_
            · simp [go_sem, c1, c2, c3, c4, atmC, Atm.cs, Tst.cs]
              refine Weaker.fz 1 0 ?_ ?_ ?_
              · simp [go_sem, c1, c2, c3, c4, askBad, askLim, hth]
              · first | (simp; done) | (simp; omega)
              · simp [go_sem, c1, c2, c3, c4, askBad, askLim, hth]
            · simp [go_sem, c1, c2, c3, c4, atmC, Atm.cs, Tst.cs]
              refine Weaker.fz 1 0 ?_ ?_ ?_
              · simp [go_sem, c1, c2, c3, c4, askBad, askLim, hth]
              · first | (simp; done) | (simp; omega)
              · simp [go_sem, c1, c2, c3, c4, askBad, askLim, hth]
    · skip
      refine cond_k rfl (fun h => ?_) (fun h => ?_)
      · have hb := h
        refine region_k T_ok (by decide) fun K hK => ?_
        simp [go_sem]
        refine hK _ ?_; clear hK K
        refine tr_ret ⟨.inr rfl, ?_⟩
        simp [go_sem, askErr, hb]
      · have hb := h
        refine tr_skip ?_
        refine hK2 _ ?_; try clear hK2 K2
        refine region_k T_ok (by decide) fun K hK => ?_
        simp [go_sem]
        refine hK _ ?_; clear hK K
        refine tr_ret ⟨.inr rfl, ?_⟩
        simp [go_sem, askErr, hb]
  · simp at h
    have hth : ¬ 0 ≤ a.th := by omega
    refine tr_skip ?_
    refine hK1 _ ?_; try clear hK1 K1
    refine seq_k fun K3 hK3 => ?_
    refine draw_to T_ok (by kernel_rfl) 22 [[], [0], [0, 1], [0, 1, 2], [0, 1, 2, 3], [0, 1, 2, 3, 4], [0, 1, 2, 3], [0, 1, 2, 3, 6], [0, 1, 2, 3, 6, 7], [0, 1, 2, 3, 6, 7, 8], [0, 1, 2, 3, 6, 7, 8, 9], [0, 1, 2, 3, 4, 5, 6, 7, 8, 9, 10], [0, 1, 2, 3, 4, 5, 6, 7, 8, 9, 10, 11], [0, 1, 2, 3, 4, 5, 6, 7, 8, 9, 10, 11, 12], [0, 1, 2, 3, 4, 5, 6, 7, 8, 9, 10, 11, 12, 13], [0, 1, 2, 3, 4, 5, 6, 7, 8, 9, 10, 11, 12, 13, 14], [0, 1, 2, 3, 4, 5, 6, 7, 8, 9, 10, 11, 12, 13, 14, 15], [0, 1, 2, 3, 4, 5, 6, 7, 8, 9, 10, 11, 12, 13, 14, 15, 16], [0, 1, 2, 3, 4, 5, 6, 7, 8, 9, 10, 11, 12, 13, 14, 15, 16, 17], [0, 1, 2, 3, 4, 5, 6, 7, 8, 9, 10, 11, 12, 13, 14, 15, 16, 17, 18], [0, 1, 2, 3, 4, 5, 6, 7, 8, 9, 10, 11, 12, 13, 14, 15, 16, 17, 18, 19], [0, 1, 2, 3, 4, 5, 6, 7, 8, 9, 10, 11, 12, 13, 14, 15, 16, 17, 18], [0, 1, 2, 3, 4, 5, 6, 7, 8, 9, 10, 11, 12, 13, 14, 15, 16, 17, 18, 19, 20, 21], [0, 1, 2, 3, 4, 5, 6, 7, 8, 9, 10, 11, 12, 13, 14, 15, 16, 17, 18, 19, 20, 21, 22]] [] (by decide) (by decide) (by decide) ⟨38, [(37, bV (askBad t a))], [], 23⟩ ?_ ?_
    · first | dsimp only [List.take, List.drop] | dsimp [List.take, List.drop]
      by_cases c1 : a.th < -1
      · simp [go_sem, c1, atmC, Atm.cs, Tst.cs]
        refine Weaker.fz 1 0 ?_ ?_ ?_
        · simp [go_sem, c1, askBad, askLim, hth]
        · first | (simp; done) | (simp; omega)
        · simp [go_sem, c1, askBad, askLim, hth]
      · by_cases c2 : (t.ths.length : Int) ≤ a.th
        · simp [go_sem, c1, c2, atmC, Atm.cs, Tst.cs]
          refine Weaker.fz 1 0 ?_ ?_ ?_
          · simp [go_sem, c1, c2, askBad, askLim, hth]
          · first | (simp; done) | (simp; omega)
          · simp [go_sem, c1, c2, askBad, askLim, hth]
        · by_cases c3 : a.at_ < 0
          · simp [go_sem, c1, c2, c3, atmC, Atm.cs, Tst.cs]
            refine Weaker.fz 1 0 ?_ ?_ ?_
            · simp [go_sem, c1, c2, c3, askBad, askLim, hth]
            · first | (simp; done) | (simp; omega)
            · simp [go_sem, c1, c2, c3, askBad, askLim, hth]
          · by_cases c4 : (t.locs.length : Int) ≤ a.at_
            · simp [go_sem, c1, c2, c3, c4, atmC, Atm.cs, Tst.cs]
              refine Weaker.fz 1 0 ?_ ?_ ?_
              · simp [go_sem, c1, c2, c3, c4, askBad, askLim, hth]
              · first | (simp; done) | (simp; omega)
              · simp [go_sem, c1, c2, c3, c4, askBad, askLim, hth]
            · simp [go_sem, c1, c2, c3, c4, atmC, Atm.cs, Tst.cs]
              refine Weaker.fz 1 0 ?_ ?_ ?_
              · simp [go_sem, c1, c2, c3, c4, askBad, askLim, hth]
              · first | (simp; done) | (simp; omega)
              · simp [go_sem, c1, c2, c3, c4, askBad, askLim, hth]
    · skip
      refine cond_k rfl (fun h => ?_) (fun h => ?_)
      · have hb := h
        refine region_k T_ok (by decide) fun K hK => ?_
        simp [go_sem]
        refine hK _ ?_; clear hK K
        refine tr_ret ⟨.inr rfl, ?_⟩
        simp [go_sem, askErr, hb]
      · have hb := h
        refine tr_skip ?_
        refine hK3 _ ?_; try clear hK3 K3
        refine region_k T_ok (by decide) fun K hK => ?_
        simp [go_sem]
        refine hK _ ?_; clear hK K
        refine tr_ret ⟨.inr rfl, ?_⟩
        simp [go_sem, askErr, hb]

theorem events_pf (t : Tst) (ht : t.ths.length ≤ 1000) (hl : ∀ x ∈ t.ths, x.length ≤ 1000) (he : events t.ths ≤ 1000000) : Pf Try.prog 40 [.rp t.cs 0] (iV (events t.ths : Nat)) := by
  refine Pf.of_fn (.cons (nl_rp t) .nil) (.val _) ?_
  refine fn_in T_ok func40 rfl rfl ntmps40 rfl (by simp) ?_
  refine region_k T_ok (by decide) fun K hK => ?_
  simp [go_sem]
  refine hK _ ?_; clear hK K
  refine region_k T_ok (by decide) fun K hK => ?_
  simp [go_sem]
  refine hK _ ?_; clear hK K
  refine seq_k fun K1 hK1 => ?_
  refine region_k T_ok (by decide) fun K hK => ?_
  simp [go_sem, Tst.cs]
  refine hK _ ?_; clear hK K
  refine tr_block ?_
  refine loop_p (α := Nat × Nat) (fun a => ⟨37, [(3, iV (events (t.ths.take a.1) : Nat)), (12, .ro 1 (thrs t.ths)), (13, iV (t.ths.length : Nat)), (14, iV (a.1 : Nat))], [], a.2⟩) (fun a => a.1 ≤ t.ths.length) (fun a => t.ths.length - a.1) (0, 0) ?_ ?_ ?_
  · dsimp only; omega
  · refine Weaker.fz 1 0 ?_ ?_ ?_
    · simp [go_sem, events]
    · first | (simp; done) | (simp; omega)
    · simp [go_sem]
  rintro ⟨i, j⟩ hi
  dsimp only at hi ⊢
  refine region_k T_ok (by decide) fun K hK => ?_
  simp [go_sem]
  refine hK _ ?_; clear hK K
  refine seq_k fun K2 hK2 => ?_
  refine cond_k rfl (fun h => ?_) (fun h => ?_)
  · simp at h
    have hI := h
    clear h
    have h' : i < (t.ths).length := by omega
    obtain ⟨l, hx, hx'⟩ := getAt h'
    have hi0 : (0 : Int) ≤ (i : Nat) := by omega
    have hw : IntKind.i64.wrap ((i : Nat) + 1) = (i : Nat) + 1 := wrap_i64 (by omega) (by omega)
    have hll := hl l (List.mem_of_getElem? hx)
    refine tr_skip ?_
    refine hK2 _ ?_; try clear hK2 K2
    refine seq_k fun K3 hK3 => ?_
    refine tr_block ?_
    refine region_k T_ok (by decide) fun K hK => ?_
    simp [go_sem, hI, hx, hx', hi0, h']
    refine hK _ ?_; clear hK K
    refine region_k T_ok (by decide) fun K hK => ?_
    simp [go_sem, hI, hx, hx', hi0, h']
    refine hK _ ?_; clear hK K
    refine tr_block ?_
    refine loop_p (α := Nat × Nat) (fun b => ⟨37, [(3, iV (evP t.ths i l b.1 : Nat)), (12, .ro 1 (thrs t.ths)), (13, iV (t.ths.length : Nat)), (14, iV (i : Nat)), (18, .ro 13 (inss l)), (19, iV (l.length : Nat)), (20, iV (b.1 : Nat))], [], b.2⟩) (fun b => b.1 ≤ l.length) (fun b => l.length - b.1) (0, j) ?_ ?_ ?_
    · dsimp only; omega
    · refine Weaker.fz 1 0 ?_ ?_ ?_
      · simp [go_sem, evP_zero]
      · first | (simp; done) | (simp; omega)
      · simp [go_sem]
    rintro ⟨b, c⟩ hib
    dsimp only at hib ⊢
    refine region_k T_ok (by decide) fun K hK => ?_
    simp [go_sem]
    refine hK _ ?_; clear hK K
    refine seq_k fun K4 hK4 => ?_
    refine cond_k rfl (fun h => ?_) (fun h => ?_)
    · simp at h
      have hIb := h
      clear h
      have h'b : b < (l).length := by omega
      obtain ⟨x, hxb, hx'b⟩ := getAt h'b
      have hi0b : (0 : Int) ≤ (b : Nat) := by omega
      have hwb : IntKind.i64.wrap ((b : Nat) + 1) = (b : Nat) + 1 := wrap_i64 (by omega) (by omega)
      have hle := evP_le hx hxb
      refine tr_skip ?_
      refine hK4 _ ?_; try clear hK4 K4
      refine seq_k fun K5 hK5 => ?_
      refine tr_block ?_
      refine region_k T_ok (by decide) fun K hK => ?_
      simp [go_sem, hIb, hxb, hx'b, hi0b, h'b, insC, Ins.cs]
      refine hK _ ?_; clear hK K
      refine region_k T_ok (by decide) fun K hK => ?_
      simp [go_sem, insC, Ins.cs]
      refine call_pf (of_pf x) ?_
      simp [go_sem]
      refine hK _ ?_; clear hK K
      refine seq_to ⟨37, [(3, iV (evP t.ths i l b + (rdB x.op).toNat : Nat)), (8, .ptr (c + 1) 0 0), (12, .ro 1 (thrs t.ths)), (13, iV (t.ths.length : Nat)), (14, iV (i : Nat)), (18, .ro 13 (inss l)), (19, iV (l.length : Nat)), (20, iV (b : Nat))], [(c + 1, .rows 2 [.agg [bV (rdB x.op), bV (wrB x.op)]])], c + 2⟩ ?_ ?_
      · skip
        refine region_k T_ok (by decide) fun K hK => ?_
        simp [go_sem]
        refine hK _ ?_; clear hK K
        refine cond_k rfl (fun h => ?_) (fun h => ?_)
        · have hr := h
          rw [hr] at hle
          simp only [Bool.toNat_true] at hle
          have hwr : IntKind.i64.wrap (((evP t.ths i l b : Nat) : Int) + 1) = ((evP t.ths i l b : Nat) : Int) + 1 := wrap_i64 (by omega) (by omega)
          refine region_e T_ok (by decide) fun K hK => ?_
          simp [go_sem, hwr]
          refine hK _ ?_; clear hK K
          refine Weaker.fzk 1 0 (by omega) ?_ ?_ ?_
          · simp [go_sem, hr]
          · first | (simp; done) | (simp; omega)
          · simp [go_sem, hr]
        · have hr := h
          have hwr : True := trivial
          refine tr_skip ?_
          refine Weaker.fzk 1 0 (by omega) ?_ ?_ ?_
          · simp [go_sem, hr]
          · first | (simp; done) | (simp; omega)
          · simp [go_sem, hr]
      · skip
        refine region_k T_ok (by decide) fun K hK => ?_
        simp [go_sem]
        refine hK _ ?_; clear hK K
        refine cond_k rfl (fun h => ?_) (fun h => ?_)
        · have hw2 := h
          rw [hw2] at hle
          simp only [Bool.toNat_true] at hle
          have hwr2 : IntKind.i64.wrap (((evP t.ths i l b : Nat) : Int) + (((rdB x.op).toNat : Nat) : Int) + 1) = ((evP t.ths i l b : Nat) : Int) + (((rdB x.op).toNat : Nat) : Int) + 1 := wrap_i64 (by omega) (by omega)
          refine region_e T_ok (by decide) fun K hK => ?_
          simp [go_sem, hwr2]
          refine hK _ ?_; clear hK K
          refine hK5 _ ?_; try clear hK5 K5
          refine region_e T_ok (by decide) fun K hK => ?_
          simp [go_sem, hwb]
          refine hK _ ?_; clear hK K
          refine ⟨(b + 1, c + 2), ?_, ?_, ?_⟩
          · dsimp only; omega
          · dsimp only; omega
          · refine Weaker.fz 1 0 ?_ ?_ ?_
            · simp [go_sem, evP_step hxb, hw2]
            · first | (simp; done) | (simp; omega)
            simp [go_sem]
        · have hw2 := h
          refine tr_skip ?_
          refine hK5 _ ?_; try clear hK5 K5
          refine region_e T_ok (by decide) fun K hK => ?_
          simp [go_sem, hwb]
          refine hK _ ?_; clear hK K
          refine ⟨(b + 1, c + 2), ?_, ?_, ?_⟩
          · dsimp only; omega
          · dsimp only; omega
          · refine Weaker.fz 1 0 ?_ ?_ ?_
            · simp [go_sem, evP_step hxb, hw2]
            · first | (simp; done) | (simp; omega)
            simp [go_sem]
    · simp at h
      obtain rfl : b = l.length := by omega
      refine tr_exit ?_
      refine hK3 _ ?_; try clear hK3 K3
      refine region_e T_ok (by decide) fun K hK => ?_
      simp [go_sem, hw]
      refine hK _ ?_; clear hK K
      refine ⟨(i + 1, c), ?_, ?_, ?_⟩
      · dsimp only; omega
      · dsimp only; omega
      · refine Weaker.fz 1 0 ?_ ?_ ?_
        · simp [go_sem, evP_end hx]
        · first | (simp; done) | (simp; omega)
        simp [go_sem]
  · simp at h
    obtain rfl : i = t.ths.length := by omega
    refine tr_exit ?_
    refine hK1 _ ?_; try clear hK1 K1
    refine region_k T_ok (by decide) fun K hK => ?_
    simp [go_sem]
    refine hK _ ?_; clear hK K
    refine tr_ret ⟨.inr rfl, ?_⟩
    simp [go_sem]

end Go.Proofs.Ytokdphmnlcmbbaa
