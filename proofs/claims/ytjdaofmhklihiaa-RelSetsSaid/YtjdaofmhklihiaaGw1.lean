/- Bits: the walks of Count and First of the package word. -/
import Derived.Test.YtjdaofmhklihiaaW2
set_option linter.unusedVariables false
set_option linter.unusedSimpArgs false
namespace Go.Proofs.Ytjdaofmhklihiaa
open Go Go.Sl Go.Proofs.Try

theorem count_pf (v : Nat) (hv : v < 18446744073709551616) : Pf Try.prog 38 [.val (.int .u64 v)] (.val (.int .i64 (popc v))) := by
  refine Pf.of_fn (.cons (.val _) .nil) (.val _) ?_
  refine fn_in T_ok func38 rfl rfl ntmps38 rfl (by simp) ?_
  refine region_k T_ok (by decide) fun K hK => ?_
  simp [go_sem]
  refine hK _ ?_; clear hK K
  refine region_k T_ok (by decide) fun K hK => ?_
  simp [go_sem]
  refine hK _ ?_; clear hK K
  refine seq_k fun K hK => ?_
  refine tr_block ?_
  refine loop_p (α := Nat × Nat) (fun a => ⟨13, [(0, .val (.int .u64 a.1)), (3, .val (.int .i64 a.2))], [], 0⟩) (fun a => a.1 < 18446744073709551616 ∧ a.2 + popc a.1 = popc v) (fun a => a.1) (v, 0) ⟨hv, by simp⟩ ?_ ?_
  · exact Weaker.of (by simp [Sl.get]) (by simp) (by simp)
  rintro ⟨x, n⟩ ⟨hx, hp⟩
  dsimp only at hx hp ⊢
  have hle := popc_le 64 v hv
  refine seq_k fun K1 hK1 => ?_
  refine region_k T_ok (by decide) fun K hK => ?_
  simp [go_sem]
  refine hK _ ?_; clear hK K
  refine cond_k rfl (fun h => tr_skip (hK1 _ ?_)) (fun h => tr_exit (hK _ ?_))
  · clear hK1 K1
    simp at h
    refine seq_k fun K1 hK1 => ?_
    refine tr_block ?_
    refine region_e T_ok (by decide) fun K hK => ?_
    simp (disch := omega) [go_sem]
    refine hK _ (hK1 _ ?_); clear hK K hK1 K1
    refine region_e T_ok (by decide) fun K hK => ?_
    simp (disch := omega) [go_sem]
    refine hK _ ⟨(x &&& (x - 1), n + 1), ⟨Nat.lt_of_le_of_lt Nat.and_le_left hx, ?_⟩, drop_lt x (by omega), Weaker.of (by simp [Sl.get]) (by simp) (by simp)⟩
    have := popc_drop x (by omega)
    dsimp only; omega
  · refine region_k T_ok (by decide) fun K hK => ?_
    simp [go_sem]
    refine hK _ ?_
    refine tr_ret ⟨.inr rfl, ?_⟩
    simp at h
    subst h
    simp [popc_zero] at hp
    simp [go_sem, hp]

theorem first_pf (v : Nat) (h0 : 0 < v) (hv : v < 18446744073709551616) : Pf Try.prog 37 [.val (.int .u64 v)] (.val (.int .i64 (lowb v))) := by
  refine Pf.of_fn (.cons (.val _) .nil) (.val _) ?_
  refine fn_in T_ok func37 rfl rfl ntmps37 rfl (by simp) ?_
  refine region_k T_ok (by decide) fun K hK => ?_
  simp [go_sem]
  refine hK _ ?_; clear hK K
  refine seq_k fun K1 hK1 => ?_
  refine region_k T_ok (by decide) fun K hK => ?_
  simp [go_sem]
  refine hK _ ?_; clear hK K
  refine cond_k rfl (fun h => ?_) (fun h => tr_skip (hK1 _ ?_))
  · simp at h; omega
  clear hK1 K1
  have e := and_neg 64 v h0 hv
  simp only [Nat.reducePow] at e
  have hl := lowb_lt (k := 64) h0 hv
  have hp := pw_lt hl
  have hp0 := pw_pos (lowb v)
  have e2 := popc_ones (lowb v)
  rw [← pw] at e e2
  refine region_k T_ok (by decide) fun K hK => ?_
  simp (disch := omega) [go_sem, e]
  refine call_pf (count_pf _ (by omega)) ?_
  rw [e2]
  simp [go_sem]
  refine hK _ (tr_ret ⟨.inr rfl, ?_⟩)
  simp [go_sem]

end Go.Proofs.Ytjdaofmhklihiaa
