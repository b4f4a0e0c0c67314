/- Numbers, bit by bit: the walks of the document's answer. -/
import Derived.Test.YtokdphmnlcmbbaaGfloa
import Derived.Test.YtokdphmnlcmbbaaW15
import Derived.Test.YtokdphmnlcmbbaaSl21
set_option linter.unusedVariables false
set_option linter.unusedSimpArgs false
namespace Go.Proofs.Ytokdphmnlcmbbaa
open Go Go.Sl Go.Proofs.Try

theorem bits_pf (v : Nat) (hv : v < 18446744073709551616) : Pf Try.prog 21 [uV (v : Nat)] (.ro 1 (natV (tabN (bit v)))) := by
  refine Pf.of_fz 1 (.cons (.val _) .nil) (nl_nat _) ?_
  refine fn_in T_ok func21 rfl rfl ntmps21 rfl (by simp) ?_
  refine region_k T_ok (by decide) fun K hK => ?_
  simp [go_sem]
  refine hK _ ?_; clear hK K
  refine region_k T_ok (by decide) fun K hK => ?_
  simp [go_sem]
  refine hK _ ?_; clear hK K
  refine seq_k fun K1 hK1 => ?_
  refine region_k T_ok (by decide) fun K hK => ?_
  simp [go_sem]
  refine hK _ ?_; clear hK K
  refine tr_block ?_
  refine loop_p (α := Nat × Nat × Nat) (fun a => ⟨19, [(3, .sl a.2.1 0 a.1), (0, uV (shr v a.1 : Nat)), (4, iV (a.1 : Nat))], [(a.2.1, .rows 1 (natV (tabP a.1 (bit v))))], a.2.1 + a.2.2 + 1⟩) (fun a => a.1 ≤ 64) (fun a => 64 - a.1) (0, 0, 0) ?_ ?_ ?_
  · dsimp only; omega
  · refine Weaker.fz 1 0 ?_ ?_ ?_
    · simp [go_sem, shr_zero]
    · first | (simp; done) | (simp; omega)
    · simp [go_sem, tabP_zero, natV]
  rintro ⟨i, r, c⟩ hi
  dsimp only at hi ⊢
  refine seq_k fun K2 hK2 => ?_
  refine region_k T_ok (by decide) fun K hK => ?_
  simp [go_sem]
  refine hK _ ?_; clear hK K
  refine cond_k rfl (fun h => ?_) (fun h => ?_)
  · simp at h
    have hI : (i : Int) < 64 := h
    clear h
    have h' : i < 64 := by omega
    have hi0 : (0 : Int) ≤ (i : Nat) := by omega
    have hw : IntKind.i64.wrap ((i : Nat) + 1) = (i : Nat) + 1 := wrap_i64 (by omega) (by omega)
    have hs := shr_le v i
    have hs2 := shr_le v (i + 1)
    have hbl := bit_le v i
    have hwb : IntKind.i64.wrap ((bit v i : Nat) : Int) = (bit v i : Nat) := wrap_i64 (by omega) (by omega)
    have hws : IntKind.u64.wrap ((shr v (i + 1) : Nat) : Int) = (shr v (i + 1) : Nat) := wrap_u64 (by omega) (by omega)
    have hm : ((shr v i : Nat) : Int).tmod 2 = (bit v i : Nat) := by rw [tmod_2, shr_mod]
    have hd : ((shr v i : Nat) : Int).tdiv 2 = (shr v (i + 1) : Nat) := by rw [tdiv_2, shr_div]
    refine tr_skip ?_
    refine hK2 _ ?_; try clear hK2 K2
    refine seq_k fun K3 hK3 => ?_
    refine tr_block ?_
    refine region_k T_ok (by decide) fun K hK => ?_
    simp [go_sem, hm, hwb]
    refine ⟨by omega, ?_⟩
    refine hK _ ?_; clear hK K
    refine region_e T_ok (by decide) fun K hK => ?_
    simp [go_sem, hd, hws]
    refine hK _ ?_; clear hK K
    refine hK3 _ ?_; try clear hK3 K3
    refine region_e T_ok (by decide) fun K hK => ?_
    simp [go_sem, hw]
    refine hK _ ?_; clear hK K
    refine ⟨(i + 1, r + c + 2, 0), ?_, ?_, ?_⟩
    · dsimp only; omega
    · dsimp only; omega
    · refine Weaker.fz 1 0 ?_ ?_ ?_
      · simp [go_sem]
      · first | (simp; done) | (simp; omega)
      simp [go_sem, tabP_step, natV_app, List.take_of_length_le]
  · simp at h
    obtain rfl : i = 64 := by omega
    refine tr_exit ?_
    refine hK1 _ ?_; try clear hK1 K1
    refine region_k T_ok (by decide) fun K hK => ?_
    simp [go_sem]
    refine hK _ ?_; clear hK K
    refine tr_ret ⟨.inr rfl, ?_⟩
    simp [go_sem, List.take_of_length_le, tabN]

theorem value_pf (l : List Nat) (hl : l.length ≤ 64) (hb : ∀ b ∈ l, b ≤ 1) : Pf Try.prog 23 [.ro 1 (natV l)] (uV (valN l : Nat)) := by
  refine Pf.of_fn (.cons (nl_nat _) .nil) (.val _) ?_
  have hw0 : IntKind.i64.wrap ((l.length : Nat) - 1 : Int) = (l.length : Nat) - 1 := wrap_i64 (by omega) (by omega)
  refine fn_in T_ok func23 rfl rfl ntmps23 rfl (by simp) ?_
  refine region_k T_ok (by decide) fun K hK => ?_
  simp [go_sem]
  refine hK _ ?_; clear hK K
  refine region_k T_ok (by decide) fun K hK => ?_
  simp [go_sem]
  refine hK _ ?_; clear hK K
  refine seq_k fun K1 hK1 => ?_
  refine region_k T_ok (by decide) fun K hK => ?_
  simp [go_sem, hw0]
  refine hK _ ?_; clear hK K
  refine tr_block ?_
  refine loop_p (α := Nat) (fun a => ⟨21, [(0, .ro 1 (natV l)), (3, uV (valN (l.drop a) : Nat)), (4, iV ((a : Nat) - 1 : Int))], [], 0⟩) (fun a => a ≤ l.length) (fun a => a) l.length ?_ ?_ ?_
  · omega
  · refine Weaker.fz 1 0 ?_ ?_ ?_
    · simp [go_sem, valN]
    · first | (simp; done) | (simp; omega)
    · simp
  rintro a ha
  skip
  refine seq_k fun K2 hK2 => ?_
  refine region_k T_ok (by decide) fun K hK => ?_
  simp [go_sem]
  refine hK _ ?_; clear hK K
  refine cond_k rfl (fun h => ?_) (fun h => ?_)
  · simp at h
    obtain ⟨i, rfl⟩ : ∃ i, a = i + 1 := ⟨a - 1, by omega⟩
    obtain ⟨x, hx, hx'⟩ := getAt (show i < l.length by omega)
    have hV := valN_drop hx
    have hlt := valN_drop_lt hb hl i
    have hxb := hb x (List.mem_of_getElem? hx)
    have hi0 : (0 : Int) ≤ (i : Nat) := by omega
    have hiI : (i : Int) < (l.length : Nat) := by omega
    have hsub : (((i + 1 : Nat) : Int) - 1) = (i : Nat) := by omega
    have hw1 : IntKind.u64.wrap (2 * ((valN (l.drop (i + 1)) : Nat) : Int)) = ((2 * valN (l.drop (i + 1)) : Nat) : Int) := by rw [wrap_u64 (by omega) (by omega)]; omega
    have hw2 : IntKind.u64.wrap ((x : Nat) : Int) = (x : Nat) := wrap_u64 (by omega) (by omega)
    have hE : IntKind.u64.wrap (((2 * valN (l.drop (i + 1)) : Nat) : Int) + (x : Nat)) = ((x + 2 * valN (l.drop (i + 1)) : Nat) : Int) := by rw [wrap_u64 (by omega) (by omega)]; omega
    have hw3 : IntKind.i64.wrap ((i : Nat) - 1 : Int) = (i : Nat) - 1 := wrap_i64 (by omega) (by omega)
    rw [hsub]
    generalize hvv : valN (l.drop (i + 1)) = vv at *
    generalize h2v : 2 * vv = v2 at *
    refine tr_skip ?_
    refine hK2 _ ?_; try clear hK2 K2
    refine seq_k fun K3 hK3 => ?_
    refine tr_block ?_
    refine region_e T_ok (by decide) fun K hK => ?_
    simp [go_sem, hw1, hw2, hE, hx, hx', hi0, hiI]
    refine hK _ ?_; clear hK K
    refine hK3 _ ?_; try clear hK3 K3
    refine region_e T_ok (by decide) fun K hK => ?_
    simp [go_sem, hw3]
    refine hK _ ?_; clear hK K
    refine ⟨i, ?_, ?_, ?_⟩
    · omega
    · omega
    · refine Weaker.fz 1 0 ?_ ?_ ?_
      · simp [go_sem, hV, hE]
      · first | (simp; done) | (simp; omega)
      simp
  · simp at h
    obtain rfl : a = 0 := by omega
    rw [List.drop_zero]
    refine tr_exit ?_
    refine hK1 _ ?_; try clear hK1 K1
    refine region_k T_ok (by decide) fun K hK => ?_
    simp [go_sem]
    refine hK _ ?_; clear hK K
    refine tr_ret ⟨.inr rfl, ?_⟩
    simp [go_sem]

end Go.Proofs.Ytokdphmnlcmbbaa
