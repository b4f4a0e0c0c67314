/- Relations both ways: the walks of Told and Grow. -/
import Derived.Test.YtjdaofmhklihiaaGreli
import Derived.Test.YtjdaofmhklihiaaW7
set_option linter.unusedVariables false
set_option linter.unusedSimpArgs false
namespace Go.Proofs.Ytjdaofmhklihiaa
open Go Go.Sl Go.Proofs.Try

theorem wrap_md (n : Int) : IntKind.i64.wrap (n.tmod 16 + 16) = n.tmod 16 + 16 := by have := tmod_range n; exact wrap_i64 (by omega) (by omega)
theorem md_def (n : Int) : (n.tmod 16 + 16).tmod 16 = md n := rfl
theorem tup_growL (l : List Pr) : NL (.tup [.agg (relC (relL l)), .ro 2 (prs l)]) := .tup (.cons (.agg (nl_relC _)) (.cons (nl_prs _) .nil))

theorem told_pf (p : Nat → Nat → Bool) : Pf Try.prog 18 [.agg (relC p)] (.ro 2 (prs (told p))) := by
  refine Pf.of_fz 1 (.cons (.agg (nl_relC p)) .nil) (nl_prs _) ?_
  refine fn_in T_ok func18 rfl rfl ntmps18 rfl (by simp) ?_
  refine region_k T_ok (by decide) fun K hK => ?_
  simp [go_sem]
  refine hK _ ?_; clear hK K
  refine region_k T_ok (by decide) fun K hK => ?_
  simp [go_sem]
  refine hK _ ?_; clear hK K
  refine seq_k fun K1 hK1 => ?_
  refine region_k T_ok (by decide) fun K hK => ?_
  simp [go_sem]
  refine hK _ ?_; clear hK K
  refine tr_block ?_
  refine loop_p (α := Nat × Nat) (fun a => ⟨26, [(1, .ptr 0 0 0), (3, .sl (a.2 + 1) 0 (toldN p a.1).length), (4, .val (.int .i64 a.1))], [(0, .rows 16 [.agg (relC p)]), (a.2 + 1, .rows 2 (prs (toldN p a.1)))], a.2 + 2⟩) (fun a => a.1 ≤ 16) (fun a => 16 - a.1) (0, 0) ?_ ?_ ?_
  · dsimp only; omega
  · refine Weaker.fz 1 0 ?_ ?_ ?_
    · simp [go_sem, toldN]
    · first | (simp; done) | (simp; omega)
    · simp [go_sem, toldN, prs]
  rintro ⟨i, j⟩ hi
  dsimp only at hi ⊢
  refine seq_k fun K2 hK2 => ?_
  refine region_k T_ok (by decide) fun K hK => ?_
  simp [go_sem]
  refine hK _ ?_; clear hK K
  refine cond_k rfl (fun h => ?_) (fun h => ?_)
  · simp at h
    have h' : i < 16 := by omega
    have hw : IntKind.i64.wrap ((i : Nat) + 1) = (i : Nat) + 1 := wrap_i64 (by omega) (by omega)
    refine tr_skip ?_
    refine hK2 _ ?_; try clear hK2 K2
    refine seq_k fun K3 hK3 => ?_
    refine tr_block ?_
    refine region_k T_ok (by decide) fun K hK => ?_
    simp [go_sem]
    refine hK _ ?_; clear hK K
    refine tr_block ?_
    refine loop_p (α := Nat × Nat) (fun a => ⟨26, [(1, .ptr 0 0 0), (3, .sl (a.2 + 1) 0 (toldP p i a.1).length), (4, .val (.int .i64 i)), (5, .val (.int .i64 a.1))], [(0, .rows 16 [.agg (relC p)]), (a.2 + 1, .rows 2 (prs (toldP p i a.1)))], a.2 + 2⟩) (fun a => a.1 ≤ 16) (fun a => 16 - a.1) (0, j) ?_ ?_ ?_
    · dsimp only; omega
    · refine Weaker.fz 1 0 ?_ ?_ ?_
      · simp [go_sem, toldP_zero]
      · first | (simp; done) | (simp; omega)
      · simp [go_sem, toldP_zero]
    rintro ⟨b, c⟩ hib
    dsimp only at hib ⊢
    refine seq_k fun K4 hK4 => ?_
    refine region_k T_ok (by decide) fun K hK => ?_
    simp [go_sem]
    refine hK _ ?_; clear hK K
    refine cond_k rfl (fun h => ?_) (fun h => ?_)
    · simp at h
      have hb' : b < 16 := by omega
      have hbI : (b : Int) < 16 := by omega
      have hwb : IntKind.i64.wrap ((b : Nat) + 1) = (b : Nat) + 1 := wrap_i64 (by omega) (by omega)
      have l3 := toldP_len p i b h' (by omega)
      refine tr_skip ?_
      refine hK4 _ ?_; try clear hK4 K4
      refine seq_k fun K5 hK5 => ?_
      refine tr_block ?_
      refine region_k T_ok (by decide) fun K hK => ?_
      simp [go_sem]
      refine call_pf (has_in p i h' b) ?_
      simp [go_sem, hbI]
      refine hK _ ?_; clear hK K
      refine cond_k rfl (fun h => ?_) (fun h => ?_)
      · skip
        refine region_e T_ok (by decide) fun K hK => ?_
        simp [go_sem]
        refine ⟨by omega, ?_⟩
        refine hK _ ?_; clear hK K
        refine hK5 _ ?_; try clear hK5 K5
        refine region_e T_ok (by decide) fun K hK => ?_
        simp [go_sem, hwb]
        refine hK _ ?_; clear hK K
        refine ⟨(b + 1, c + 2), ?_, ?_, ?_⟩
        · dsimp only; omega
        · dsimp only; omega
        · refine Weaker.fz 1 0 ?_ ?_ ?_
          · simp [go_sem, toldP_yes h]
          · first | (simp; done) | (simp; omega)
          simp [go_sem, toldP_yes h, prs_append, prs, prC]
      · skip
        refine tr_skip ?_
        refine hK5 _ ?_; try clear hK5 K5
        refine region_e T_ok (by decide) fun K hK => ?_
        simp [go_sem, hwb]
        refine hK _ ?_; clear hK K
        refine ⟨(b + 1, c), ?_, ?_, ?_⟩
        · dsimp only; omega
        · dsimp only; omega
        · refine Weaker.fz 1 0 ?_ ?_ ?_
          · simp [go_sem, toldP_no h]
          · first | (simp; done) | (simp; omega)
          simp [go_sem, toldP_no h]
    · simp at h
      obtain rfl : b = 16 := by omega
      refine tr_exit ?_
      refine hK3 _ ?_; try clear hK3 K3
      refine region_e T_ok (by decide) fun K hK => ?_
      simp [go_sem, hw]
      refine hK _ ?_; clear hK K
      refine ⟨(i + 1, c), ?_, ?_, ?_⟩
      · dsimp only; omega
      · dsimp only; omega
      · refine Weaker.fz 1 0 ?_ ?_ ?_
        · simp [go_sem, toldP_end]
        · first | (simp; done) | (simp; omega)
        simp [go_sem, toldP_end]
  · simp at h
    obtain rfl : i = 16 := by omega
    refine tr_exit ?_
    refine hK1 _ ?_; try clear hK1 K1
    refine region_k T_ok (by decide) fun K hK => ?_
    simp [go_sem]
    refine hK _ ?_; clear hK K
    refine tr_ret ⟨.inr rfl, ?_⟩
    simp [go_sem, told]

theorem grow_pf (l : List Pr) : Pf Try.prog 13 [.ro 2 (prs l)] (.tup [.agg (relC (relL (growL (l.take 24)))), .ro 2 (prs (growL (l.take 24)))]) := by
  refine Pf.of_fn (.cons (nl_prs l) .nil) (tup_growL _) ?_
  have hrel : relL [] = fun _ _ => false := rfl
  refine fn_in T_ok func13 rfl rfl ntmps13 rfl (by simp) ?_
  refine region_k T_ok (by decide) fun K hK => ?_
  simp [go_sem]
  refine hK _ ?_; clear hK K
  refine region_k T_ok (by decide) fun K hK => ?_
  simp [go_sem]
  refine hK _ ?_; clear hK K
  refine region_k T_ok (by decide) fun K hK => ?_
  simp [go_sem]
  refine hK _ ?_; clear hK K
  refine seq_k fun K1 hK1 => ?_
  refine region_k T_ok (by decide) fun K hK => ?_
  simp [go_sem]
  refine hK _ ?_; clear hK K
  refine tr_block ?_
  refine loop_p (α := Nat × Nat) (fun a => ⟨48, [(0, .ro 2 (prs l)), (2, .ptr 0 0 0), (4, .ptr 1 0 0), (5, .ro 2 (prs (growL (l.take a.1)))), (6, .val (.int .i64 a.1))], [(0, .rows 16 [.agg (relC fun _ _ => false)]), (1, .rows 16 [.agg (relC (relL (growL (l.take a.1))))])], a.2 + 3⟩) (fun a => a.1 ≤ l.length ∧ a.1 ≤ 24) (fun a => 24 - a.1) (0, 0) ?_ ?_ ?_
  · dsimp only; omega
  · refine Weaker.fz 1 0 ?_ ?_ ?_
    · simp [go_sem, growL, prs]
    · first | (simp; done) | (simp; omega)
    · simp [go_sem, growL, hrel]
  rintro ⟨i, j⟩ ⟨hi, hi2⟩
  dsimp only at hi hi2 ⊢
  refine seq_k fun K2 hK2 => ?_
  refine region_k T_ok (by decide) fun K hK => ?_
  have hcase : (i < l.length ∧ i < 24) ∨ (i < l.length ∧ i = 24) ∨ i = l.length := by omega
  rcases hcase with ⟨h1, h2⟩ | ⟨h1, rfl⟩ | rfl
  · have h1I : (i : Int) < (l.length : Nat) := by omega
    have h2I : (i : Int) < 24 := by omega
    simp [go_sem, h1, h2, h1I, h2I]
    refine hK _ ?_; clear hK K
    refine cond_k rfl (fun h => ?_) (fun h => ?_)
    · clear h
      obtain ⟨x, hx, hx'⟩ := lt_at h1
      have hi0 : (0 : Int) ≤ (i : Nat) := by omega
      have hw : IntKind.i64.wrap ((i : Nat) + 1) = (i : Nat) + 1 := wrap_i64 (by omega) (by omega)
      have hlen := (growL_fin (l.take i)).len
      have hgr : growL (l.take (i + 1)) = rWith (growL (l.take i)) (md x.1, md x.2) := by simp [growL, take_at hx]
      refine tr_skip ?_
      refine hK2 _ ?_; try clear hK2 K2
      refine seq_k fun K3 hK3 => ?_
      refine tr_block ?_
      refine draw_k T_ok (by kernel_rfl) 17 [[], [], [0, 1], [0, 1, 2], [0, 1, 2, 3], [0, 1, 2, 3, 4], [0, 1, 2, 3, 4, 5], [0, 1, 2, 3, 4, 5, 6], [], [], [8, 9], [8, 9, 10], [8, 9, 10, 11], [8, 9, 10, 11, 12], [8, 9, 10, 11, 12, 13], [8, 9, 10, 11, 12, 13, 14], [0, 1, 2, 3, 4, 5, 6, 7], [0, 1, 2, 3, 4, 5, 6, 7, 8, 9, 10, 11, 12, 13, 14, 15, 16]] [] (by decide) (by decide) (by decide) fun K hK => ?_
      first | dsimp only [List.take, List.drop] | dsimp [List.take, List.drop]
      simp [go_sem, h1, h1I, hx, hx', hi0, prC, wrap_md, md_def]
      refine hK _ ?_; clear hK K
      refine region_k T_ok (by decide) fun K hK => ?_
      simp [go_sem]
      refine call_pf (with_eq _ (relL (rWith (growL (l.take i)) (md x.1, md x.2))) _ _ (fun c hc d hd => relL_with _ _ _ c d hc hd)) ?_
      simp [go_sem]
      refine hK _ ?_; clear hK K
      refine region_e T_ok (by decide) fun K hK => ?_
      simp [go_sem]
      refine call_pf (rwith_pf _ (md x.1, md x.2) (by omega)) ?_
      simp [go_sem]
      refine hK _ ?_; clear hK K
      refine hK3 _ ?_; try clear hK3 K3
      refine region_e T_ok (by decide) fun K hK => ?_
      simp [go_sem, hw]
      refine hK _ ?_; clear hK K
      refine ⟨(i + 1, j + 17), ?_, ?_, ?_⟩
      · dsimp only; omega
      · dsimp only; omega
      · refine Weaker.fz 1 0 ?_ ?_ ?_
        · simp [go_sem, hgr]
        · first | (simp; done) | (simp; omega)
        simp [go_sem, hgr]
    · simp at h
  · have h1I : (24 : Int) < (l.length : Nat) := by omega
    simp [go_sem, h1, h1I]
    refine hK _ ?_; clear hK K
    refine cond_k rfl (fun h => ?_) (fun h => ?_)
    · simp at h
    · skip
      refine tr_exit ?_
      refine hK1 _ ?_; try clear hK1 K1
      refine region_k T_ok (by decide) fun K hK => ?_
      simp [go_sem]
      refine hK _ ?_; clear hK K
      refine tr_ret ⟨.inr rfl, ?_⟩
      simp [go_sem]
  · simp [go_sem]
    refine hK _ ?_; clear hK K
    refine cond_k rfl (fun h => ?_) (fun h => ?_)
    · simp at h
    · have ht : l.take 24 = l := List.take_of_length_le hi2
      refine tr_exit ?_
      refine hK1 _ ?_; try clear hK1 K1
      refine region_k T_ok (by decide) fun K hK => ?_
      simp [go_sem]
      refine hK _ ?_; clear hK K
      refine tr_ret ⟨.inr rfl, ?_⟩
      simp [go_sem, ht]

end Go.Proofs.Ytjdaofmhklihiaa
