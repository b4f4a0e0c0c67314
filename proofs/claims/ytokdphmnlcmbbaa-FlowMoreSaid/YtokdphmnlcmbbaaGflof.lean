/- Flow: the Ops of a test. -/
import Derived.Test.YtokdphmnlcmbbaaGlita
import Derived.Test.YtokdphmnlcmbbaaW13
set_option linter.unusedVariables false
set_option linter.unusedSimpArgs false
namespace Go.Proofs.Ytokdphmnlcmbbaa
open Go Go.Sl Go.Proofs.Try

set_option maxHeartbeats 4000000 in
theorem ops_pf (t : Tst) (ht : t.ths.length ≤ 1000) (hl : ∀ x ∈ t.ths, x.length ≤ 1000) : Pf Try.prog 14 [.rp t.cs 0] (.ro 2 (opsC (opsT 0 t.ths))) := by
  refine Pf.of_fz 1 (.cons (nl_rp t) .nil) (nl_opsC _) ?_
  refine fn_in T_ok func14 rfl rfl ntmps14 rfl (by simp) ?_
  refine region_k T_ok (by decide) fun K hK => ?_
  simp [go_sem]
  refine hK _ ?_; clear hK K
  refine region_k T_ok (by decide) fun K hK => ?_
  simp [go_sem]
  refine hK _ ?_; clear hK K
  refine seq_k fun K1 hK1 => ?_
  refine region_k T_ok (by decide) fun K hK => ?_
  simp [go_sem, Tst.cs]
  refine hK _ ?_; clear hK K
  refine tr_block ?_
  refine Tr.weaken (Weaker.ghost 3 2 rfl) ?_
  refine loop_p (α := Nat × Nat × Nat) (fun a => ⟨36, [(11, .ro 1 (thrs t.ths)), (12, iV (t.ths.length : Nat)), (13, iV (a.1 : Nat)), (3, .sl a.2.1 0 (opO t.ths a.1).length)], [(a.2.1, .rows 2 (opsC (opO t.ths a.1)))], a.2.1 + a.2.2 + 1⟩) (fun a => a.1 ≤ t.ths.length) (fun a => t.ths.length - a.1) (0, 0, 0) ?_ ?_ ?_
  · dsimp only; omega
  · refine Weaker.fz 1 0 ?_ ?_ ?_
    · simp [go_sem, opO_zero, Tst.cs]
    · first | (simp; done) | (simp; omega)
    · simp [go_sem, opO_zero, opsC_nil]
  rintro ⟨i, r, c⟩ hi
  dsimp only at hi ⊢
  refine region_k T_ok (by decide) fun K hK => ?_
  simp [go_sem]
  refine hK _ ?_; clear hK K
  refine seq_k fun K2 hK2 => ?_
  refine cond_k rfl (fun h => ?_) (fun h => ?_)
  · simp at h
    have hI := h
    clear h
    have h' : i < (t.ths).length := by omega
    obtain ⟨l, hx, hx'⟩ := getAt h'
    have hi0 : (0 : Int) ≤ (i : Nat) := by omega
    have hll := hl l (List.mem_of_getElem? hx)
    have hw : IntKind.i64.wrap ((i : Nat) + 1) = (i : Nat) + 1 := wrap_i64 (by omega) (by omega)
    refine tr_skip ?_
    refine hK2 _ ?_; try clear hK2 K2
    refine seq_k fun K3 hK3 => ?_
    refine tr_block ?_
    refine region_k T_ok (by decide) fun K hK => ?_
    simp [go_sem, hI, hx, hx', hi0, h']
    refine hK _ ?_; clear hK K
    refine region_k T_ok (by decide) fun K hK => ?_
    simp [go_sem]
    refine hK _ ?_; clear hK K
    refine tr_block ?_
    refine loop_p (α := Nat × Nat × Nat) (fun b => ⟨36, [(11, .ro 1 (thrs t.ths)), (12, iV (t.ths.length : Nat)), (13, iV (i : Nat)), (4, iV (i : Nat)), (18, .ro 13 (inss l)), (19, iV (l.length : Nat)), (20, iV (b.1 : Nat)), (3, .sl b.2.1 0 (opP t.ths i l b.1).length)], [(b.2.1, .rows 2 (opsC (opP t.ths i l b.1)))], b.2.1 + b.2.2 + 1⟩) (fun b => b.1 ≤ l.length) (fun b => l.length - b.1) (0, r, c) ?_ ?_ ?_
    · dsimp only; omega
    · refine Weaker.fz 1 0 ?_ ?_ ?_
      · simp [go_sem, opP_zero]
      · first | (simp; done) | (simp; omega)
      · simp [go_sem, opP_zero]
    rintro ⟨b, r, c⟩ hib
    dsimp only at hib ⊢
    refine region_k T_ok (by decide) fun K hK => ?_
    simp [go_sem]
    refine hK _ ?_; clear hK K
    refine seq_k fun K4 hK4 => ?_
    refine cond_k rfl (fun h => ?_) (fun h => ?_)
    · simp at h
      have hI2 := h
      clear h
      have h'2 : b < (l).length := by omega
      obtain ⟨x, hx2, hx'2⟩ := getAt h'2
      have hi02 : (0 : Int) ≤ (b : Nat) := by omega
      have hw2 : IntKind.i64.wrap ((b : Nat) + 1) = (b : Nat) + 1 := wrap_i64 (by omega) (by omega)
      refine tr_skip ?_
      refine hK4 _ ?_; try clear hK4 K4
      refine seq_k fun K5 hK5 => ?_
      refine tr_block ?_
      refine region_k T_ok (by decide) fun K hK => ?_
      simp [go_sem, hI2, hx2, hx'2, hi02, h'2, insC]
      refine hK _ ?_; clear hK K
      refine region_k T_ok (by decide) fun K hK => ?_
      simp [go_sem, insC]
      refine call_pf (ismem_pf x) ?_
      simp [go_sem]
      refine hK _ ?_; clear hK K
      refine cond_k rfl (fun h => ?_) (fun h => ?_)
      · have hm : memI x = true := h
        clear h
        have hpl := opP_len (i := i) (l := l) (b := b) hl ht hll
        refine region_e T_ok (by decide) fun K hK => ?_
        simp [go_sem]
        refine ⟨by omega, ?_⟩
        refine hK _ ?_; clear hK K
        refine hK5 _ ?_; try clear hK5 K5
        refine region_e T_ok (by decide) fun K hK => ?_
        simp [go_sem, hw2]
        refine hK _ ?_; clear hK K
        refine ⟨(b + 1, r + c + 3, 0), ?_, ?_, ?_⟩
        · dsimp only; omega
        · dsimp only; omega
        · refine Weaker.fz 1 0 ?_ ?_ ?_
          · simp [go_sem, opP_yes hx2 hm]
          · first | (simp; done) | (simp; omega)
          simp [go_sem, opP_yes hx2 hm, opsC_append]
      · have hm : memI x = false := by simpa [memI] using h
        clear h
        refine tr_skip ?_
        refine hK5 _ ?_; try clear hK5 K5
        refine region_e T_ok (by decide) fun K hK => ?_
        simp [go_sem, hw2]
        refine hK _ ?_; clear hK K
        refine ⟨(b + 1, r, c + 1), ?_, ?_, ?_⟩
        · dsimp only; omega
        · dsimp only; omega
        · refine Weaker.fz 1 0 ?_ ?_ ?_
          · simp [go_sem, opP_no hx2 hm]
          · first | (simp; done) | (simp; omega)
          simp [go_sem, opP_no hx2 hm]
    · simp at h
      obtain rfl : b = l.length := by omega
      refine tr_exit ?_
      refine hK3 _ ?_; try clear hK3 K3
      refine region_e T_ok (by decide) fun K hK => ?_
      simp [go_sem, hw]
      refine hK _ ?_; clear hK K
      refine ⟨(i + 1, r, c), ?_, ?_, ?_⟩
      · dsimp only; omega
      · dsimp only; omega
      · refine Weaker.fz 1 0 ?_ ?_ ?_
        · simp [go_sem, opP_end hx]
        · first | (simp; done) | (simp; omega)
        simp [go_sem, opP_end hx]
  · simp at h
    obtain rfl : i = t.ths.length := by omega
    refine tr_exit ?_
    refine hK1 _ ?_; try clear hK1 K1
    refine region_k T_ok (by decide) fun K hK => ?_
    simp [go_sem]
    refine hK _ ?_; clear hK K
    refine tr_ret ⟨.inr rfl, ?_⟩
    simp [go_sem, opO_all]

end Go.Proofs.Ytokdphmnlcmbbaa
