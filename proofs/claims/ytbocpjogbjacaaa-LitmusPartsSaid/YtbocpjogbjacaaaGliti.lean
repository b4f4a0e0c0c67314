/- Litmus tests: the walk of the law's awake. -/
import Derived.Test.YtbocpjogbjacaaaGlitf
import Derived.Test.YtbocpjogbjacaaaGlith
import Derived.KernelRfl
set_option linter.unusedVariables false
set_option linter.unusedSimpArgs false
namespace Go.Proofs.Ytbocpjogbjacaaa
open Go Go.Sl Go.Proofs.Try

theorem chk_passing : chkErr passing = 0 := by decide +kernel
theorem events_passing : events passing.ths = 4 := by decide +kernel
theorem pairs_passing : hasPairs passing.ths = false := by decide +kernel
theorem regs_passing : Pf Try.prog 10 [.rp passing.cs 0, iV 1] (.ro 1 [iV 0, iV 1]) :=
  pfEq (regs_pf passing 1 [{ zI with op := 9, loc := 1 }, { zI with op := 9, rd := 1 }] rfl (by decide) (fun x hx _ => by simp at hx; rcases hx with rfl | rfl <;> decide)) (by rw [show upTo (setR [{ zI with op := 9, loc := 1 }, { zI with op := 9, rd := 1 }]) 8 = [0, 1] by decide +kernel]; rfl)
theorem check_passing : Pf Try.prog 6 [.rp passing.cs 0] (iV 0) :=
  pfEq (Check_pf passing (fun l hl => by simp [passing] at hl; rcases hl with rfl | rfl <;> decide)) (by rw [chk_passing])
theorem ev_passing : Pf Try.prog 7 [.rp passing.cs 0] (iV 4) :=
  pfEq (events_pf passing (by decide) (fun l hl => by simp [passing] at hl; rcases hl with rfl | rfl <;> decide) (by rw [events_passing]; decide)) (by rw [events_passing]; rfl)
theorem hp_passing : Pf Try.prog 11 [.rp passing.cs 0] (bV false) :=
  pfEq (hasPairs_pf passing (by decide) (fun l hl => by simp [passing] at hl; rcases hl with rfl | rfl <;> decide)) (by rw [pairs_passing])
theorem cells_tst (t : Tst) : (V.agg t.cs).cells = t.cs := rfl

set_option maxRecDepth 100000 in
set_option maxHeartbeats 8000000 in
theorem awake08  : Pf Try.prog 5 [] (bV true) := by
  refine Pf.of_fn .nil (.val _) ?_
  refine fn_in T_ok func5 rfl rfl ntmps5 rfl (by simp) ?_
  refine region_k T_ok (by decide) fun K hK => ?_
  simp [go_sem]
  refine hK _ ?_; clear hK K
  refine region_k T_ok (by decide) fun K hK => ?_
  simp [go_sem]
  refine call_pf passing_pf ?_
  simp [go_sem, Tst.cs]
  refine hK _ ?_; clear hK K
  refine Tr.weaken (Weaker.fz (H' := []) (t' := [(1, .rp passing.cs 0)]) 1 0 ?_ ?_ ?_) ?_
  · simp [go_sem, Tst.cs]
  · simp
  · simp
  refine region_k T_ok (by decide) fun K hK => ?_
  simp [go_sem]
  refine call_pf regs_passing ?_
  simp [go_sem]
  refine hK _ ?_; clear hK K
  refine region_k T_ok (by decide) fun K hK => ?_
  simp [go_sem]
  refine call_pf check_passing ?_
  simp [go_sem]
  refine call_pf ev_passing ?_
  simp [go_sem]
  refine call_pf hp_passing ?_
  simp [go_sem]
  refine hK _ ?_; clear hK K
  refine tr_ret ⟨.inr rfl, ?_⟩
  simp [go_sem]

end Go.Proofs.Ytbocpjogbjacaaa
