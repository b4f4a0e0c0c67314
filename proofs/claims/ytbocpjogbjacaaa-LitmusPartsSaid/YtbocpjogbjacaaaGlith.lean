/- Litmus tests: the walk of Regs. -/
import Derived.Test.YtbocpjogbjacaaaGlitg
set_option linter.unusedVariables false
set_option linter.unusedSimpArgs false
namespace Go.Proofs.Ytbocpjogbjacaaa
open Go Go.Sl Go.Proofs.Try

set_option maxHeartbeats 4000000 in
theorem regs_pf (t : Tst) (n : Nat) (l : List Ins) (hn : t.ths[n]? = some l) (hl : l.length ≤ 1000) (hr : ∀ x ∈ l, setB x.op = true → 0 ≤ x.rd ∧ x.rd < 8) : Pf Try.prog 10 [.rp t.cs 0, iV (n : Nat)] (.ro 1 (natV (upTo (setR l) 8))) := by
  refine Pf.of_fz 1 (.cons (nl_rp t) (.cons (.val _) .nil)) (nl_natV _) ?_
  obtain ⟨hlt, hn'⟩ := List.getElem?_eq_some_iff.1 hn
  have hltI : (n : Int) < (t.ths.length : Nat) := by omega
  have hn0 : (0 : Int) ≤ (n : Nat) := by omega
  refine fn_in T_ok func10 rfl rfl ntmps10 rfl (by simp) ?_
  refine region_k T_ok (by decide) fun K hK => ?_
  simp [go_sem]
  refine hK _ ?_; clear hK K
  refine region_k T_ok (by decide) fun K hK => ?_
  simp [go_sem]
  refine hK _ ?_; clear hK K
  refine seq_k fun K1 hK1 => ?_
  refine region_k T_ok (by decide) fun K hK => ?_
  simp [go_sem, Tst.cs, hltI, hlt, hn, hn', hn0]
  refine hK _ ?_; clear hK K
  refine tr_block ?_
  refine loop_p (α := Nat × Nat) (fun a => ⟨41, [(5, .ptr 0 0 0), (17, .ro 13 (inss l)), (18, iV (l.length : Nat)), (19, iV (a.1 : Nat))], [(0, .rows 8 [.agg (boolsC (setR (l.take a.1)))])], a.2 + 1⟩) (fun a => a.1 ≤ l.length) (fun a => l.length - a.1) (0, 0) ?_ ?_ ?_
  · dsimp only; omega
  · refine Weaker.fz 1 0 ?_ ?_ ?_
    · simp [go_sem]
    · first | (simp; done) | (simp; omega)
    · simp [go_sem, setR_nil]
  rintro ⟨i, j⟩ hi
  dsimp only at hi ⊢
  refine region_k T_ok (by decide) fun K hK => ?_
  simp [go_sem]
  refine hK _ ?_; clear hK K
  refine seq_k fun K2 hK2 => ?_
  refine cond_k rfl (fun h => ?_) (fun h => ?_)
  · simp at h
    have hI := h
    clear h
    have h' : i < (l).length := by omega
    obtain ⟨x, hx, hx'⟩ := getAt h'
    have hi0 : (0 : Int) ≤ (i : Nat) := by omega
    have hw : IntKind.i64.wrap ((i : Nat) + 1) = (i : Nat) + 1 := wrap_i64 (by omega) (by omega)
    refine tr_skip ?_
    refine hK2 _ ?_; try clear hK2 K2
    refine seq_k fun K3 hK3 => ?_
    refine tr_block ?_
    refine region_k T_ok (by decide) fun K hK => ?_
    simp [go_sem, hI, hx, hx', hi0, h', insC]
    refine hK _ ?_; clear hK K
    refine region_k T_ok (by decide) fun K hK => ?_
    simp [go_sem, insC]
    refine call_pf (sets_pf x) ?_
    simp [go_sem]
    refine hK _ ?_; clear hK K
    refine cond_k rfl (fun h => ?_) (fun h => ?_)
    · have hs := h
      obtain ⟨g1, g2⟩ := hr x (List.mem_of_getElem? hx) h
      obtain ⟨m, hm⟩ := Int.eq_ofNat_of_zero_le g1
      have hm8 : m < 8 := by omega
      have hmI : (m : Int) < 8 := by omega
      have hm0 : (0 : Int) ≤ (m : Nat) := by omega
      have hm7 : m + 1 ≤ 8 := by omega
      refine region_e T_ok (by decide) fun K hK => ?_
      simp [go_sem, hm, hm8, hmI, hm0, hm7]
      refine hK _ ?_; clear hK K
      refine hK3 _ ?_; try clear hK3 K3
      refine region_e T_ok (by decide) fun K hK => ?_
      simp [go_sem, hw]
      refine hK _ ?_; clear hK K
      refine ⟨(i + 1, j + 1), ?_, ?_, ?_⟩
      · dsimp only; omega
      · dsimp only; omega
      · refine Weaker.fz 1 0 ?_ ?_ ?_
        · simp [go_sem]
        · first | (simp; done) | (simp; omega)
        simp [go_sem]
        refine boolsC_ext fun r _ => ?_
        rw [setR_step hx, hs]
        by_cases e : r = m
        · subst e; simp [hm]
        · have : ¬ x.rd = (r : Int) := by omega
          simp [e, this]
    · have hs := h
      refine tr_skip ?_
      refine hK3 _ ?_; try clear hK3 K3
      refine region_e T_ok (by decide) fun K hK => ?_
      simp [go_sem, hw]
      refine hK _ ?_; clear hK K
      refine ⟨(i + 1, j + 1), ?_, ?_, ?_⟩
      · dsimp only; omega
      · dsimp only; omega
      · refine Weaker.fz 1 0 ?_ ?_ ?_
        · simp [go_sem]
        · first | (simp; done) | (simp; omega)
        simp [go_sem]
        refine boolsC_ext fun r _ => ?_
        rw [setR_step hx, hs]; simp
  · simp at h
    obtain rfl : i = l.length := by omega
    rw [List.take_length]
    refine tr_exit ?_
    refine hK1 _ ?_; try clear hK1 K1
    refine region_k T_ok (by decide) fun K hK => ?_
    simp [go_sem]
    refine hK _ ?_; clear hK K
    refine seq_k fun K4 hK4 => ?_
    refine region_k T_ok (by decide) fun K hK => ?_
    simp [go_sem]
    refine hK _ ?_; clear hK K
    refine tr_block ?_
    refine Tr.weaken (Weaker.ghost 8 1 rfl) ?_
    refine loop_p (α := Nat × Nat × Nat) (fun b => ⟨41, [(8, .sl b.2.1 0 (upTo (setR l) b.1).length), (29, .agg (boolsC (setR l))), (30, iV (b.1 : Nat))], [(b.2.1, .rows 1 (natV (upTo (setR l) b.1)))], b.2.1 + b.2.2 + 1⟩) (fun b => b.1 ≤ 8) (fun b => 8 - b.1) (0, j + 1, 0) ?_ ?_ ?_
    · dsimp only; omega
    · refine Weaker.fz 1 0 ?_ ?_ ?_
      · simp [go_sem, upTo]
      · first | (simp; done) | (simp; omega)
      · simp [go_sem, upTo, natV]
    rintro ⟨b, r, c⟩ hib
    dsimp only at hib ⊢
    refine region_k T_ok (by decide) fun K hK => ?_
    simp [go_sem]
    refine hK _ ?_; clear hK K
    refine seq_k fun K5 hK5 => ?_
    refine cond_k rfl (fun h => ?_) (fun h => ?_)
    · simp at h
      have h' : b < 8 := by omega
      have hbI := h
      clear h
      have hb0 : (0 : Int) ≤ (b : Nat) := by omega
      have hb7 : b + 1 ≤ 8 := by omega
      have hbl := upTo_len (setR l) b
      have hwb : IntKind.i64.wrap ((b : Nat) + 1) = (b : Nat) + 1 := wrap_i64 (by omega) (by omega)
      refine tr_skip ?_
      refine hK5 _ ?_; try clear hK5 K5
      refine seq_k fun K6 hK6 => ?_
      refine tr_block ?_
      refine region_k T_ok (by decide) fun K hK => ?_
      simp [go_sem, h', hbI, hb0, hb7]
      refine hK _ ?_; clear hK K
      refine region_k T_ok (by decide) fun K hK => ?_
      simp [go_sem]
      refine hK _ ?_; clear hK K
      refine cond_k rfl (fun h => ?_) (fun h => ?_)
      · have hb := h
        refine region_e T_ok (by decide) fun K hK => ?_
        simp [go_sem]
        refine ⟨by omega, ?_⟩
        refine hK _ ?_; clear hK K
        refine hK6 _ ?_; try clear hK6 K6
        refine region_e T_ok (by decide) fun K hK => ?_
        simp [go_sem, hwb]
        refine hK _ ?_; clear hK K
        refine ⟨(b + 1, r + c + 2, 0), ?_, ?_, ?_⟩
        · dsimp only; omega
        · dsimp only; omega
        · refine Weaker.fz 1 0 ?_ ?_ ?_
          · simp [go_sem, upTo_yes hb]
          · first | (simp; done) | (simp; omega)
          simp [go_sem, upTo_yes hb, natV_append, natV_one]
      · have hb := h
        refine tr_skip ?_
        refine hK6 _ ?_; try clear hK6 K6
        refine region_e T_ok (by decide) fun K hK => ?_
        simp [go_sem, hwb]
        refine hK _ ?_; clear hK K
        refine ⟨(b + 1, r, c), ?_, ?_, ?_⟩
        · dsimp only; omega
        · dsimp only; omega
        · refine Weaker.fz 1 0 ?_ ?_ ?_
          · simp [go_sem, upTo_no hb]
          · first | (simp; done) | (simp; omega)
          simp [go_sem, upTo_no hb]
    · simp at h
      obtain rfl : b = 8 := by omega
      refine tr_exit ?_
      refine hK4 _ ?_; try clear hK4 K4
      refine region_k T_ok (by decide) fun K hK => ?_
      simp [go_sem]
      refine hK _ ?_; clear hK K
      refine tr_ret ⟨.inr rfl, ?_⟩
      simp [go_sem]

end Go.Proofs.Ytbocpjogbjacaaa
