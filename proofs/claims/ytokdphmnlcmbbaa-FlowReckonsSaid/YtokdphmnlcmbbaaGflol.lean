/- Flow: the walk of FlowReckons. -/
import Derived.Test.YtokdphmnlcmbbaaGflok
set_option linter.unusedVariables false
set_option linter.unusedSimpArgs false
namespace Go.Proofs.Ytokdphmnlcmbbaa
open Go Go.Sl Go.Proofs.Try

theorem flowReckons_pf (op : Int) (a b : Nat) (ha : a < 18446744073709551616) (hb : b < 18446744073709551616) : Pf Try.prog 3 [iV op, uV (a : Nat), uV (b : Nat)] (bV true) := by
  refine Pf.of_fn (.cons (.val _) (.cons (.val _) (.cons (.val _) .nil))) (.val _) ?_
  refine fn_in T_ok func3 rfl rfl ntmps3 rfl (by simp) ?_
  refine region_k T_ok (by decide) fun K hK => ?_
  simp [go_sem]
  refine hK _ ?_; clear hK K
  refine seq_k fun K1 hK1 => ?_
  refine region_to T_ok (by decide) ⟨26, [(0, iV op), (1, uV (a : Nat)), (2, uV (b : Nat)), (12, bV (decide (op < 2) || decide (8 < op)))], [], 0⟩ ?_ ?_
  · by_cases c1 : op < 2
    · simp [go_sem, c1]
      refine Weaker.fz 1 0 ?_ ?_ ?_
      · simp [go_sem, c1]
      · first | (simp; done) | (simp; omega)
      · simp [go_sem, c1]
    · simp [go_sem, c1]
      refine Weaker.fz 1 0 ?_ ?_ ?_
      · simp [go_sem, c1]
      · first | (simp; done) | (simp; omega)
      · simp [go_sem, c1]
  · skip
    refine cond_k rfl (fun h => ?_) (fun h => ?_)
    · clear h
      refine region_k T_ok (by decide) fun K hK => ?_
      simp [go_sem]
      refine call_pf awake13 ?_
      simp [go_sem]
      refine hK _ ?_; clear hK K
      refine tr_ret ⟨.inr rfl, ?_⟩
      simp [go_sem]
    · have h2 : 2 ≤ op := by simp at h; omega
      have h8 : op ≤ 8 := by simp at h; omega
      refine tr_skip ?_
      refine hK1 _ ?_; try clear hK1 K1
      refine region_k T_ok (by decide) fun K hK => ?_
      simp [go_sem]
      refine call_pf awake13 ?_
      simp [go_sem]
      refine call_pf (reckon_pf op a b) ?_
      simp [go_sem]
      refine call_pf (refReckon_pf op a b ha hb h2 h8) ?_
      simp [go_sem]
      refine hK _ ?_; clear hK K
      refine tr_ret ⟨.inr rfl, ?_⟩
      simp [go_sem]

end Go.Proofs.Ytokdphmnlcmbbaa
