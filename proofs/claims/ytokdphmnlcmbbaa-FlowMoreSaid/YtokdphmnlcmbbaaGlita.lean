/- Litmus tests: the walks of the package litmus, the first part. -/
import Derived.Test.YtokdphmnlcmbbaaW9
set_option linter.unusedVariables false
set_option linter.unusedSimpArgs false
namespace Go.Proofs.Ytokdphmnlcmbbaa
open Go Go.Sl Go.Proofs.Try

theorem of_pf (x : Ins) : Pf Try.prog 39 [insC x] (.agg [bV (rdB x.op), bV (wrB x.op)]) := by
  refine Pf.of_fn (.cons (nl_insC x) .nil) (nl_kind _ _) ?_
  refine fn_in T_ok func39 rfl rfl ntmps39 rfl (by simp) ?_
  refine region_k T_ok (by decide) fun K hK => ?_
  simp [go_sem, insC, Ins.cs]
  refine hK _ ?_; clear hK K
  refine seq_k fun K1 hK1 => ?_
  refine region_k T_ok (by decide) fun K hK => ?_
  simp [go_sem, insC, Ins.cs]
  refine hK _ ?_; clear hK K
  refine tr_block ?_
  refine seq_k fun K2 hK2 => ?_
  refine region_k T_ok (by decide) fun K hK => ?_
  simp [go_sem]
  refine hK _ ?_; clear hK K
  refine cond_k rfl (fun h => ?_) (fun h => ?_)
  · simp at h
    have h9 := h
    clear h
    refine tr_skip ?_
    refine hK2 _ ?_; try clear hK2 K2
    refine cond_k rfl (fun h => ?_) (fun h => ?_)
    · clear h
      refine region_k T_ok (by decide) fun K hK => ?_
      simp [go_sem]
      refine hK _ ?_; clear hK K
      refine tr_ret ⟨.inr rfl, ?_⟩
      simp [go_sem, rdB, wrB, h9]
    · simp at h
      exact absurd h9 h
  · simp at h
    have h9 := h
    clear h
    refine region_e T_ok (by decide) fun K hK => ?_
    simp [go_sem]
    refine hK _ ?_; clear hK K
    refine hK2 _ ?_; try clear hK2 K2
    refine cond_k rfl (fun h => ?_) (fun h => ?_)
    · simp at h
      have h13 := h
      clear h
      refine region_k T_ok (by decide) fun K hK => ?_
      simp [go_sem]
      refine hK _ ?_; clear hK K
      refine tr_ret ⟨.inr rfl, ?_⟩
      simp [go_sem, rdB, wrB, h13]
    · simp at h
      have h13 := h
      clear h
      refine seq_k fun K3 hK3 => ?_
      refine region_k T_ok (by decide) fun K hK => ?_
      simp [go_sem]
      refine hK _ ?_; clear hK K
      refine cond_k rfl (fun h => ?_) (fun h => ?_)
      · simp at h
        have h10 := h
        clear h
        refine tr_skip ?_
        refine hK3 _ ?_; try clear hK3 K3
        refine cond_k rfl (fun h => ?_) (fun h => ?_)
        · clear h
          refine region_k T_ok (by decide) fun K hK => ?_
          simp [go_sem]
          refine hK _ ?_; clear hK K
          refine tr_ret ⟨.inr rfl, ?_⟩
          simp [go_sem, rdB, wrB, h9, h13, h10]
        · simp at h
          exact absurd h10 h
      · simp at h
        have h10 := h
        clear h
        refine region_e T_ok (by decide) fun K hK => ?_
        simp [go_sem]
        refine hK _ ?_; clear hK K
        refine hK3 _ ?_; try clear hK3 K3
        refine cond_k rfl (fun h => ?_) (fun h => ?_)
        · simp at h
          have h14 := h
          clear h
          refine region_k T_ok (by decide) fun K hK => ?_
          simp [go_sem]
          refine hK _ ?_; clear hK K
          refine tr_ret ⟨.inr rfl, ?_⟩
          simp [go_sem, rdB, wrB, h9, h13, h14]
        · simp at h
          have h14 := h
          clear h
          refine seq_k fun K4 hK4 => ?_
          refine region_k T_ok (by decide) fun K hK => ?_
          simp [go_sem]
          refine hK _ ?_; clear hK K
          refine cond_k rfl (fun h => ?_) (fun h => ?_)
          · simp at h
            have h11 := h
            clear h
            refine tr_skip ?_
            refine hK4 _ ?_; try clear hK4 K4
            refine cond_k rfl (fun h => ?_) (fun h => ?_)
            · clear h
              refine region_k T_ok (by decide) fun K hK => ?_
              simp [go_sem]
              refine hK _ ?_; clear hK K
              refine tr_ret ⟨.inr rfl, ?_⟩
              simp [go_sem, rdB, wrB, h9, h13, h10, h14, h11]
            · simp at h
              exact absurd h11 h
          · simp at h
            have h11 := h
            clear h
            refine region_e T_ok (by decide) fun K hK => ?_
            simp [go_sem]
            refine hK _ ?_; clear hK K
            refine hK4 _ ?_; try clear hK4 K4
            refine cond_k rfl (fun h => ?_) (fun h => ?_)
            · simp at h
              have h12 := h
              clear h
              refine region_k T_ok (by decide) fun K hK => ?_
              simp [go_sem]
              refine hK _ ?_; clear hK K
              refine tr_ret ⟨.inr rfl, ?_⟩
              simp [go_sem, rdB, wrB, h9, h13, h10, h14, h12]
            · simp at h
              have h12 := h
              clear h
              refine tr_skip ?_
              refine hK1 _ ?_; try clear hK1 K1
              refine region_k T_ok (by decide) fun K hK => ?_
              simp [go_sem]
              refine hK _ ?_; clear hK K
              refine tr_ret ⟨.inr rfl, ?_⟩
              simp [go_sem, rdB, wrB, h9, h13, h10, h14, h11, h12]

theorem ismem_pf (x : Ins) : Pf Try.prog 25 [insC x] (bV (memB x.op)) := by
  refine Pf.of_fn (.cons (nl_insC x) .nil) (.val _) ?_
  refine fn_in T_ok func25 rfl rfl ntmps25 rfl (by simp) ?_
  refine region_k T_ok (by decide) fun K hK => ?_
  simp [go_sem, insC, Ins.cs]
  refine hK _ ?_; clear hK K
  refine region_k T_ok (by decide) fun K hK => ?_
  simp [go_sem, insC, Ins.cs]
  refine call_pf (of_pf x) ?_
  simp [go_sem]
  refine hK _ ?_; clear hK K
  refine tr_ret ⟨.inr rfl, ?_⟩
  simp [go_sem, memB]
  try (cases rdB x.op <;> cases wrB x.op <;> rfl)

theorem sets_pf (x : Ins) : Pf Try.prog 52 [insC x] (bV (setB x.op)) := by
  refine Pf.of_fn (.cons (nl_insC x) .nil) (.val _) ?_
  refine fn_in T_ok func52 rfl rfl ntmps52 rfl (by simp) ?_
  refine region_k T_ok (by decide) fun K hK => ?_
  simp [go_sem, insC, Ins.cs]
  refine hK _ ?_; clear hK K
  refine region_to T_ok (by decide) ⟨16, [(2, bV (setB x.op))], [], 1⟩ ?_ ?_
  · by_cases c1 : 1 ≤ x.op
    · by_cases c2 : x.op ≤ 14
      · by_cases c3 : x.op = 10
        · simp [go_sem, c1, c2, c3, insC, Ins.cs]
          refine Weaker.fz 1 0 ?_ ?_ ?_
          · simp [go_sem, c1, c2, c3, setB]
          · first | (simp; done) | (simp; omega)
          · simp [go_sem, c1, c2, c3, setB]
        · simp [go_sem, c1, c2, c3, insC, Ins.cs]
          refine Weaker.fz 1 0 ?_ ?_ ?_
          · simp [go_sem, c1, c2, c3, setB]
          · first | (simp; done) | (simp; omega)
          · simp [go_sem, c1, c2, c3, setB]
      · simp [go_sem, c1, c2, insC, Ins.cs]
        refine Weaker.fz 1 0 ?_ ?_ ?_
        · simp [go_sem, c1, c2, setB]
        · first | (simp; done) | (simp; omega)
        · simp [go_sem, c1, c2, setB]
    · simp [go_sem, c1, insC, Ins.cs]
      refine Weaker.fz 1 0 ?_ ?_ ?_
      · simp [go_sem, c1, setB]
      · first | (simp; done) | (simp; omega)
      · simp [go_sem, c1, setB]
  · skip
    refine tr_ret ⟨.inr rfl, ?_⟩
    simp [go_sem]

theorem goodArg_pf (r : Bool) (n : Int) : Pf Try.prog 42 [.agg [bV r, uV n]] (bV (argOk r n)) := by
  refine Pf.of_fn (.cons (.agg (.cons (.val _) (.cons (.val _) .nil))) .nil) (.val _) ?_
  refine fn_in T_ok func42 rfl rfl ntmps42 rfl (by simp) ?_
  refine region_k T_ok (by decide) fun K hK => ?_
  simp [go_sem]
  refine hK _ ?_; clear hK K
  refine region_to T_ok (by decide) ⟨11, [(2, bV (argOk r n))], [], 1⟩ ?_ ?_
  · by_cases c1 : r = true
    · simp [go_sem, c1]
      refine Weaker.fz 1 0 ?_ ?_ ?_
      · simp [go_sem, c1, argOk]
      · first | (simp; done) | (simp; omega)
      · simp [go_sem, c1, argOk]
    · simp [go_sem, c1]
      refine Weaker.fz 1 0 ?_ ?_ ?_
      · simp [go_sem, c1, argOk]
      · first | (simp; done) | (simp; omega)
      · simp [go_sem, c1, argOk]
  · skip
    refine tr_ret ⟨.inr rfl, ?_⟩
    simp [go_sem]

theorem before_pf (a b : Atm) : Pf Try.prog 31 [atmC a, atmC b] (bV (beforeB a b)) := by
  refine Pf.of_fn (.cons (nl_atmC a) (.cons (nl_atmC b) .nil)) (.val _) ?_
  refine fn_in T_ok func31 rfl rfl ntmps31 rfl (by simp) ?_
  refine region_k T_ok (by decide) fun K hK => ?_
  simp [go_sem, atmC, Atm.cs]
  refine hK _ ?_; clear hK K
  refine seq_k fun K1 hK1 => ?_
  refine region_k T_ok (by decide) fun K hK => ?_
  simp [go_sem, atmC, Atm.cs]
  refine hK _ ?_; clear hK K
  refine cond_k rfl (fun h => ?_) (fun h => ?_)
  · simp at h
    have hne := h
    refine region_to T_ok (by decide) ⟨30, [(4, bV (beforeB a b))], [], 2⟩ ?_ ?_
    · by_cases c1 : b.th < 0
      · simp [go_sem, c1, atmC, Atm.cs]
        refine Weaker.fz 1 0 ?_ ?_ ?_
        · simp [go_sem, c1, beforeB, hne]
        · first | (simp; done) | (simp; omega)
        · simp [go_sem, c1, beforeB, hne]
      · by_cases c2 : 0 ≤ a.th
        · by_cases c3 : a.th < b.th
          · simp [go_sem, c1, c2, c3, atmC, Atm.cs]
            refine Weaker.fz 1 0 ?_ ?_ ?_
            · simp [go_sem, c1, c2, c3, beforeB, hne]
            · first | (simp; done) | (simp; omega)
            · simp [go_sem, c1, c2, c3, beforeB, hne]
          · simp [go_sem, c1, c2, c3, atmC, Atm.cs]
            refine Weaker.fz 1 0 ?_ ?_ ?_
            · simp [go_sem, c1, c2, c3, beforeB, hne]
            · first | (simp; done) | (simp; omega)
            · simp [go_sem, c1, c2, c3, beforeB, hne]
        · simp [go_sem, c1, c2, atmC, Atm.cs]
          refine Weaker.fz 1 0 ?_ ?_ ?_
          · simp [go_sem, c1, c2, beforeB, hne]
          · first | (simp; done) | (simp; omega)
          · simp [go_sem, c1, c2, beforeB, hne]
    · skip
      refine tr_ret ⟨.inr rfl, ?_⟩
      simp [go_sem]
  · simp at h
    have hne := h
    refine tr_skip ?_
    refine hK1 _ ?_; try clear hK1 K1
    refine region_k T_ok (by decide) fun K hK => ?_
    simp [go_sem, atmC, Atm.cs]
    refine hK _ ?_; clear hK K
    refine tr_ret ⟨.inr rfl, ?_⟩
    simp [go_sem, beforeB, hne]

end Go.Proofs.Ytokdphmnlcmbbaa
