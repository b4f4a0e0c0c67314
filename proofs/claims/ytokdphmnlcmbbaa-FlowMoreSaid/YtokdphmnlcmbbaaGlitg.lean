/- Litmus tests: the walks of HasPairs, Cut, Passing. -/
import Derived.Test.YtokdphmnlcmbbaaGlita
import Derived.Test.YtokdphmnlcmbbaaW10
set_option linter.unusedVariables false
set_option linter.unusedSimpArgs false
namespace Go.Proofs.Ytokdphmnlcmbbaa
open Go Go.Sl Go.Proofs.Try

theorem Pf.seen_res' {P : Program} {f : FuncId} {args : List V} {r r' : V} (h : SeenAs r r') (p : Pf P f args r) : Pf P f args r' :=
  ⟨p.enters, fun ι O w cargs hO hv => (p.calls ι O w cargs hO hv).mono fun e w' ⟨cv, he, hr, h1⟩ => ⟨cv, he, h _ _ _ _ hr, h1⟩⟩

theorem cut_pf (s : ByteArray) (n : Nat) (hs : s.size ≤ 9223372036854775807) : Pf Try.prog 26 [.val (.string s), iV (n : Nat)] (.val (.string (cutS s n))) := by
  refine Pf.of_fn (.cons (.val _) (.cons (.val _) .nil)) (.val _) ?_
  refine fn_in T_ok func26 rfl rfl ntmps26 rfl (by simp) ?_
  refine region_k T_ok (by decide) fun K hK => ?_
  simp [go_sem]
  refine hK _ ?_; clear hK K
  refine seq_k fun K1 hK1 => ?_
  refine region_k T_ok (by decide) fun K hK => ?_
  simp [go_sem]
  refine hK _ ?_; clear hK K
  refine cond_k rfl (fun h => ?_) (fun h => ?_)
  · simp at h
    have hI := h
    have h' : n < s.size := by omega
    have hn0 : (0 : Int) ≤ (n : Nat) := by omega
    have hle : (n : Int) ≤ (s.size : Nat) := by omega
    have hle' : n ≤ s.size := by omega
    refine region_k T_ok (by decide) fun K hK => ?_
    simp [go_sem, hn0, hle, hle']
    refine hK _ ?_; clear hK K
    refine tr_ret ⟨.inr rfl, ?_⟩
    simp [go_sem, cutS, h']
  · simp at h
    have h' : ¬ n < s.size := by omega
    refine tr_skip ?_
    refine hK1 _ ?_; try clear hK1 K1
    refine region_k T_ok (by decide) fun K hK => ?_
    simp [go_sem]
    refine hK _ ?_; clear hK K
    refine tr_ret ⟨.inr rfl, ?_⟩
    simp [go_sem, cutS, h']

end Go.Proofs.Ytokdphmnlcmbbaa
