/- Numbers, bit by bit: the walks of the document's answer, Move and Reckon; the walk of FlowReckons. -/
import Derived.Test.YtokdphmnlcmbbaaGfloj
import Derived.Test.YtokdphmnlcmbbaaGfloh
set_option linter.unusedVariables false
set_option linter.unusedSimpArgs false
namespace Go.Proofs.Ytokdphmnlcmbbaa
open Go Go.Sl Go.Proofs.Try

theorem tab_le {f : Nat → Nat} (hf : ∀ q, f q ≤ 1) : ∀ b ∈ tabN f, b ≤ 1 := fun b hb => by obtain ⟨q, _, rfl⟩ := List.mem_map.1 hb; exact hf q
theorem c4_yes {op : Int} {s : Nat} (h : op = 4) : c4 op s = s % 2 := if_pos h
theorem c4_no {op : Int} {s : Nat} (h : ¬ op = 4) : c4 op s = s := if_neg h
theorem c5_yes {op : Int} {s : Nat} (h : op = 5) : c5 op s = s / 2 := if_pos h
theorem c5_no {op : Int} {s : Nat} (h : ¬ op = 5) : c5 op s = s := if_neg h
theorem c6_yes {op : Int} {s : Nat} (h : op = 6) (h1 : 1 < s) : c6 op s = 1 := by unfold c6; rw [if_pos h, if_pos h1]
theorem c6_yes0 {op : Int} {s : Nat} (h : op = 6) (h1 : ¬ 1 < s) : c6 op s = s := by unfold c6; rw [if_pos h, if_neg h1]
theorem c6_no {op : Int} {s : Nat} (h : ¬ op = 6) : c6 op s = s := if_neg h
theorem nl_lit : natV (tabN fun _ => 0) = List.replicate 64 (iV 0) := rfl
theorem tabN_eq (f : Nat → Nat) : tabP 64 f = tabN f := rfl
theorem rkB_le {op : Int} {a b : Nat} (h : op = 4 ∨ op = 5 ∨ op = 6) (q : Nat) : rkB op a b q ≤ 1 := by
  rcases h with rfl | rfl | rfl <;> rcases bit2 a q with h | h <;> rcases bit2 b q with h' | h' <;> simp [rkB, c4, c5, c6, h.1, h'.1]

set_option maxRecDepth 20000 in
theorem move_pf (v : Nat) (hv : v < 18446744073709551616) (n : Int) (hn : -64 < n) (hn2 : n < 64) : Pf Try.prog 22 [uV (v : Nat), iV n] (uV (valN (tabN (mvP v n 64)) : Nat)) := by
  refine Pf.of_fn (.cons (.val _) (.cons (.val _) .nil)) (.val _) ?_
  refine fn_in T_ok func22 rfl rfl ntmps22 rfl (by simp) ?_
  refine region_k T_ok (by decide) fun K hK => ?_
  simp [go_sem]
  refine hK _ ?_; clear hK K
  refine region_k T_ok (by decide) fun K hK => ?_
  simp [go_sem]
  refine call_pf (bits_pf v hv) ?_
  simp [go_sem]
  refine hK _ ?_; clear hK K
  refine region_k T_ok (by decide) fun K hK => ?_
  simp [go_sem]
  refine hK _ ?_; clear hK K
  refine seq_k fun K1 hK1 => ?_
  refine region_k T_ok (by decide) fun K hK => ?_
  simp [go_sem]
  refine hK _ ?_; clear hK K
  refine tr_block ?_
  refine loop_p (α := Nat) (fun a => ⟨38, [(1, iV n), (5, .ro 1 (natV (tabN (bit v)))), (6, .sl 0 0 64), (11, .ro 1 (natV (tabN (bit v)))), (12, iV 64), (13, iV (a : Nat))], [(0, .rows 1 (natV (tabN (mvP v n a))))], 1⟩) (fun a => a ≤ 64) (fun a => 64 - a) 0 ?_ ?_ ?_
  · omega
  · refine Weaker.fz 1 0 ?_ ?_ ?_
    · simp [go_sem]
    · first | (simp; done) | (simp; omega)
    · simp [go_sem, mvP_zero, nl_lit]
  rintro i hi
  skip
  refine region_k T_ok (by decide) fun K hK => ?_
  simp [go_sem]
  refine hK _ ?_; clear hK K
  refine seq_k fun K2 hK2 => ?_
  refine cond_k rfl (fun h => ?_) (fun h => ?_)
  · simp at h
    have hI : (i : Int) < 64 := h
    clear h
    have h' : i < 64 := by omega
    have hi0 : (0 : Int) ≤ (i : Nat) := by omega
    have hw : IntKind.i64.wrap ((i : Nat) + 1) = (i : Nat) + 1 := wrap_i64 (by omega) (by omega)
    have hwn : IntKind.i64.wrap ((i : Nat) + n) = (i : Nat) + n := wrap_i64 (by omega) (by omega)
    have hat := tabN_at (f := bit v) h'
    refine tr_skip ?_
    refine hK2 _ ?_; try clear hK2 K2
    refine seq_k fun K3 hK3 => ?_
    refine tr_block ?_
    refine region_k T_ok (by decide) fun K hK => ?_
    simp [go_sem]
    refine hK _ ?_; clear hK K
    refine region_to T_ok (by decide) ⟨38, [(1, iV n), (5, .ro 1 (natV (tabN (bit v)))), (6, .sl 0 0 64), (11, .ro 1 (natV (tabN (bit v)))), (12, iV 64), (13, iV (i : Nat)), (7, iV (i : Nat)), (25, bV (decide (0 ≤ (i : Int) + n ∧ (i : Int) + n < 64)))], [(0, .rows 1 (natV (tabN (mvP v n i))))], 1⟩ ?_ ?_
    · by_cases c1 : 0 ≤ (i : Int) + n
      · simp [go_sem, c1, hwn]
        refine Weaker.fz 1 0 ?_ ?_ ?_
        · simp [go_sem, c1, int_beq]
        · first | (simp; done) | (simp; omega)
        · simp [go_sem, c1, int_beq]
      · simp [go_sem, c1, hwn]
        refine Weaker.fz 1 0 ?_ ?_ ?_
        · simp [go_sem, c1, int_beq]
        · first | (simp; done) | (simp; omega)
        · simp [go_sem, c1, int_beq]
    · skip
      refine cond_k rfl (fun h => ?_) (fun h => ?_)
      · simp at h
        obtain ⟨m, hm⟩ := Int.eq_ofNat_of_zero_le h.1
        have hm64 : m < 64 := by omega
        have hmI : (m : Int) < 64 := by omega
        have hm0 : (0 : Int) ≤ (m : Nat) := by omega
        have hwm : IntKind.i64.wrap ((m : Nat) : Int) = (m : Nat) := wrap_i64 (by omega) (by omega)
        refine region_e T_ok (by decide) fun K hK => ?_
        simp [go_sem, hwn, hwm, hm, hm64, hmI, hm0, hI, hi0, h', hat]
        refine hK _ ?_; clear hK K
        refine hK3 _ ?_; try clear hK3 K3
        refine region_e T_ok (by decide) fun K hK => ?_
        simp [go_sem, hw]
        refine hK _ ?_; clear hK K
        refine ⟨i + 1, ?_, ?_, ?_⟩
        · omega
        · omega
        · refine Weaker.fz 1 0 ?_ ?_ ?_
          · simp [go_sem]
          · first | (simp; done) | (simp; omega)
          simp [go_sem, tabN_set, mvP_yes hm]
      · have hnm : ¬ (0 ≤ (i : Int) + n ∧ (i : Int) + n < 64) := by simpa using h
        refine tr_skip ?_
        refine hK3 _ ?_; try clear hK3 K3
        refine region_e T_ok (by decide) fun K hK => ?_
        simp [go_sem, hw]
        refine hK _ ?_; clear hK K
        refine ⟨i + 1, ?_, ?_, ?_⟩
        · omega
        · omega
        · refine Weaker.fz 1 0 ?_ ?_ ?_
          · simp [go_sem]
          · first | (simp; done) | (simp; omega)
          simp [go_sem, mvP_no hnm]
  · simp at h
    obtain rfl : i = 64 := by omega
    refine tr_exit ?_
    refine hK1 _ ?_; try clear hK1 K1
    refine region_k T_ok (by decide) fun K hK => ?_
    simp [go_sem]
    refine call_fz [] [.ro 1 (natV (tabN (mvP v n 64)))] 1 0 (value_pf _ (Nat.le_of_eq (tabN_len _)) (tab_le (mvP_le v n 64))) (by simp [go_sem, List.take_of_length_le]) (by simp) (by simp) ?_
    simp [go_sem]
    refine hK _ ?_; clear hK K
    refine tr_ret ⟨.inr rfl, ?_⟩
    simp [go_sem]

set_option maxRecDepth 20000 in
theorem refReckon_pf (op : Int) (a b : Nat) (ha : a < 18446744073709551616) (hb : b < 18446744073709551616) (h2 : 2 ≤ op) (h8 : op ≤ 8) : Pf Try.prog 9 [iV op, uV (a : Nat), uV (b : Nat)] (uV (reck op a b)) := by
  refine Pf.of_fn (.cons (.val _) (.cons (.val _) (.cons (.val _) .nil))) (.val _) ?_
  refine fn_in T_ok func9 rfl rfl ntmps9 rfl (by simp) ?_
  refine region_k T_ok (by decide) fun K hK => ?_
  simp [go_sem]
  refine hK _ ?_; clear hK K
  refine region_k T_ok (by decide) fun K hK => ?_
  simp [go_sem]
  refine call_pf (bits_pf a ha) ?_
  simp [go_sem]
  refine call_pf (bits_pf b hb) ?_
  simp [go_sem]
  refine hK _ ?_; clear hK K
  refine region_k T_ok (by decide) fun K hK => ?_
  simp [go_sem]
  refine hK _ ?_; clear hK K
  refine seq_k fun K1 hK1 => ?_
  refine region_k T_ok (by decide) fun K hK => ?_
  simp [go_sem]
  refine hK _ ?_; clear hK K
  refine tr_block ?_
  refine loop_p (α := Nat × Nat × Nat) (fun q => ⟨76, [(0, iV op), (1, uV (a : Nat)), (2, uV (b : Nat)), (7, .ro 1 (natV (tabN (bit a)))), (8, .ro 1 (natV (tabN (bit b)))), (17, .ro 1 (natV (tabN (bit a)))), (18, iV 64), (9, .sl q.2.1 0 q.1), (19, iV (q.1 : Nat))], [(q.2.1, .rows 1 (natV (tabP q.1 (rkB op a b))))], q.2.1 + q.2.2 + 1⟩) (fun q => q.1 ≤ 64) (fun q => 64 - q.1) (0, 0, 0) ?_ ?_ ?_
  · dsimp only; omega
  · refine Weaker.fz 1 0 ?_ ?_ ?_
    · simp [go_sem]
    · first | (simp; done) | (simp; omega)
    · simp [go_sem, tabP_zero, natV]
  rintro ⟨i, r, c⟩ hi
  dsimp only at hi ⊢
  refine region_k T_ok (by decide) fun K hK => ?_
  simp [go_sem]
  refine hK _ ?_; clear hK K
  refine seq_k fun K2 hK2 => ?_
  refine cond_k rfl (fun h => ?_) (fun h => ?_)
  · simp at h
    have hI : (i : Int) < 64 := h
    clear h
    have h' : i < 64 := by omega
    have hi0 : (0 : Int) ≤ (i : Nat) := by omega
    have hw : IntKind.i64.wrap ((i : Nat) + 1) = (i : Nat) + 1 := wrap_i64 (by omega) (by omega)
    have hba := bit_le a i
    have hbb := bit_le b i
    have hata := tabN_at (f := bit a) h'
    have hatb := tabN_at (f := bit b) h'
    obtain ⟨s, hs⟩ : ∃ s, bit a i + bit b i = s := ⟨_, rfl⟩
    have hs2 : s ≤ 2 := by omega
    have hrk : rkB op a b i = c6 op (c5 op (c4 op s)) := by rw [← hs]; rfl
    have hws : IntKind.i64.wrap (((bit a i : Nat) : Int) + (bit b i : Nat)) = (s : Nat) := by rw [wrap_i64 (by omega) (by omega)]; omega
    have h4 := c4_le (op := op) hs2
    have h5 := c5_le (op := op) h4
    have hm2 : ((s : Nat) : Int).tmod 2 = ((s % 2 : Nat) : Int) := tmod_2 s
    have hd2 : ((c4 op s : Nat) : Int).tdiv 2 = ((c4 op s / 2 : Nat) : Int) := tdiv_2 _
    have hwd : IntKind.i64.wrap ((c4 op s / 2 : Nat) : Int) = ((c4 op s / 2 : Nat) : Int) := wrap_i64 (by omega) (by omega)
    have hwd2 : IntKind.i64.wrap (((c4 op s : Nat) : Int) / 2) = ((c4 op s : Nat) : Int) / 2 := wrap_i64 (by omega) (by omega)
    refine tr_skip ?_
    refine hK2 _ ?_; try clear hK2 K2
    refine seq_k fun K3 hK3 => ?_
    refine tr_block ?_
    refine region_k T_ok (by decide) fun K hK => ?_
    simp [go_sem]
    refine hK _ ?_; clear hK K
    refine draw_k T_ok (by kernel_rfl) 8 [[], [], [0, 1], [0, 1, 2], [], [], [4, 5], [4, 5, 6], [0, 1, 2, 3, 4, 5, 6, 7], [0, 1, 2, 3, 4, 5, 6, 7, 8]] [] (by decide) (by decide) (by decide) fun K hK => ?_
    first | dsimp only [List.take, List.drop] | dsimp [List.take, List.drop]
    simp [go_sem, hI, hi0, h', hata, hatb, hws]
    refine hK _ ?_; clear hK K
    refine seq_to ⟨76, [(0, iV op), (1, uV (a : Nat)), (2, uV (b : Nat)), (7, .ro 1 (natV (tabN (bit a)))), (8, .ro 1 (natV (tabN (bit b)))), (17, .ro 1 (natV (tabN (bit a)))), (18, iV 64), (9, .sl r 0 i), (19, iV (i : Nat)), (11, iV (c4 op s : Nat))], [(r, .rows 1 (natV (tabP i (rkB op a b))))], r + c + 9⟩ ?_ ?_
    · skip
      refine region_k T_ok (by decide) fun K hK => ?_
      simp [go_sem]
      refine hK _ ?_; clear hK K
      refine cond_k rfl (fun h => ?_) (fun h => ?_)
      · have hop : op = 4 := by simpa using h
        clear h
        refine region_e T_ok (by decide) fun K hK => ?_
        simp [go_sem, hm2]
        refine hK _ ?_; clear hK K
        refine Weaker.fzk 1 0 (by omega) ?_ ?_ ?_
        · simp [go_sem, c4_yes hop]
        · first | (simp; done) | (simp; omega)
        · simp [go_sem, c4_yes hop]
      · have hop : ¬ op = 4 := by simpa using h
        clear h
        refine tr_skip ?_
        refine Weaker.fzk 1 0 (by omega) ?_ ?_ ?_
        · simp [go_sem, c4_no hop]
        · first | (simp; done) | (simp; omega)
        · simp [go_sem, c4_no hop]
    · skip
      refine seq_to ⟨76, [(0, iV op), (1, uV (a : Nat)), (2, uV (b : Nat)), (7, .ro 1 (natV (tabN (bit a)))), (8, .ro 1 (natV (tabN (bit b)))), (17, .ro 1 (natV (tabN (bit a)))), (18, iV 64), (9, .sl r 0 i), (19, iV (i : Nat)), (11, iV (c5 op (c4 op s) : Nat))], [(r, .rows 1 (natV (tabP i (rkB op a b))))], r + c + 9⟩ ?_ ?_
      · skip
        refine region_k T_ok (by decide) fun K hK => ?_
        simp [go_sem]
        refine hK _ ?_; clear hK K
        refine cond_k rfl (fun h => ?_) (fun h => ?_)
        · have hop : op = 5 := by simpa using h
          clear h
          refine region_e T_ok (by decide) fun K hK => ?_
          simp [go_sem, hd2, hwd, hwd2]
          refine hK _ ?_; clear hK K
          refine Weaker.fzk 1 0 (by omega) ?_ ?_ ?_
          · simp [go_sem, c5_yes hop]
          · first | (simp; done) | (simp; omega)
          · simp [go_sem, c5_yes hop]
        · have hop : ¬ op = 5 := by simpa using h
          clear h
          refine tr_skip ?_
          refine Weaker.fzk 1 0 (by omega) ?_ ?_ ?_
          · simp [go_sem, c5_no hop]
          · first | (simp; done) | (simp; omega)
          · simp [go_sem, c5_no hop]
      · skip
        refine seq_to ⟨76, [(0, iV op), (1, uV (a : Nat)), (2, uV (b : Nat)), (7, .ro 1 (natV (tabN (bit a)))), (8, .ro 1 (natV (tabN (bit b)))), (17, .ro 1 (natV (tabN (bit a)))), (18, iV 64), (9, .sl r 0 i), (19, iV (i : Nat)), (11, iV (c6 op (c5 op (c4 op s)) : Nat))], [(r, .rows 1 (natV (tabP i (rkB op a b))))], r + c + 9⟩ ?_ ?_
        · skip
          refine region_k T_ok (by decide) fun K hK => ?_
          simp [go_sem]
          refine hK _ ?_; clear hK K
          refine cond_k rfl (fun h => ?_) (fun h => ?_)
          · have hop : op = 6 := by simpa using h
            clear h
            refine region_e T_ok (by decide) fun K hK => ?_
            rcases Nat.lt_or_ge 1 (c5 op (c4 op s)) with h1 | h1
            · have h1I : (1 : Int) < (c5 op (c4 op s) : Nat) := by omega
              simp [go_sem, h1I]
              refine hK _ ?_; clear hK K
              refine Weaker.fzk 1 0 (by omega) ?_ ?_ ?_
              · simp [go_sem, c6_yes hop h1]
              · first | (simp; done) | (simp; omega)
              · simp [go_sem, c6_yes hop h1]
            · have h1I : ¬ (1 : Int) < (c5 op (c4 op s) : Nat) := by omega
              have h1 : ¬ 1 < c5 op (c4 op s) := by omega
              simp [go_sem, h1I]
              refine hK _ ?_; clear hK K
              refine Weaker.fzk 1 0 (by omega) ?_ ?_ ?_
              · simp [go_sem, c6_yes0 hop h1]
              · first | (simp; done) | (simp; omega)
              · simp [go_sem, c6_yes0 hop h1]
          · have hop : ¬ op = 6 := by simpa using h
            clear h
            refine tr_skip ?_
            refine Weaker.fzk 1 0 (by omega) ?_ ?_ ?_
            · simp [go_sem, c6_no hop]
            · first | (simp; done) | (simp; omega)
            · simp [go_sem, c6_no hop]
        · skip
          refine region_e T_ok (by decide) fun K hK => ?_
          simp [go_sem]
          refine ⟨by omega, ?_⟩
          refine hK _ ?_; clear hK K
          refine hK3 _ ?_; try clear hK3 K3
          refine region_e T_ok (by decide) fun K hK => ?_
          simp [go_sem, hw]
          refine hK _ ?_; clear hK K
          refine ⟨(i + 1, r + c + 10, 0), ?_, ?_, ?_⟩
          · dsimp only; omega
          · dsimp only; omega
          · refine Weaker.fz 1 0 ?_ ?_ ?_
            · simp [go_sem]
            · first | (simp; done) | (simp; omega)
            simp [go_sem, tabP_step, natV_app, List.take_of_length_le, hrk]
  · simp at h
    obtain rfl : i = 64 := by omega
    rw [tabN_eq]
    refine tr_exit ?_
    refine hK1 _ ?_; try clear hK1 K1
    refine seq_k fun K4 hK4 => ?_
    refine region_k T_ok (by decide) fun K hK => ?_
    simp [go_sem]
    refine hK _ ?_; clear hK K
    refine tr_block ?_
    refine region_k T_ok (by decide) fun K hK => ?_
    simp [go_sem]
    refine hK _ ?_; clear hK K
    refine cond_k rfl (fun h => ?_) (fun h => ?_)
    · have n2 : op = 2 := by simpa using h
      clear h
      refine region_k T_ok (by decide) fun K hK => ?_
      simp [go_sem]
      refine hK _ ?_; clear hK K
      refine tr_ret ⟨.inr rfl, ?_⟩
      simp [go_sem, reck, n2]
    · have n2 : ¬ op = 2 := by simpa using h
      clear h
      refine region_k T_ok (by decide) fun K hK => ?_
      simp [go_sem]
      refine hK _ ?_; clear hK K
      refine cond_k rfl (fun h => ?_) (fun h => ?_)
      · have n3 : op = 3 := by simpa using h
        clear h
        refine region_k T_ok (by decide) fun K hK => ?_
        simp [go_sem]
        refine hK _ ?_; clear hK K
        refine tr_ret ⟨.inr rfl, ?_⟩
        simp [go_sem, reck, n3]
      · have n3 : ¬ op = 3 := by simpa using h
        clear h
        refine region_k T_ok (by decide) fun K hK => ?_
        simp [go_sem]
        refine hK _ ?_; clear hK K
        refine cond_k rfl (fun h => ?_) (fun h => ?_)
        · have n7 : op = 7 := by simpa using h
          clear h
          refine region_k T_ok (by decide) fun K hK => ?_
          have hbl : b % 64 < 64 := Nat.mod_lt _ (by omega)
          have hmb : ((b : Nat) : Int).tmod 64 = ((b % 64 : Nat) : Int) := tmod_64 b
          have hwb : IntKind.i64.wrap ((b % 64 : Nat) : Int) = ((b % 64 : Nat) : Int) := wrap_i64 (by omega) (by omega)
          generalize hbm : b % 64 = bm at *
          simp [go_sem, hmb, hwb]
          refine call_pf (move_pf a ha (bm : Nat) (by omega) (by omega)) ?_
          simp [go_sem]
          refine hK _ ?_; clear hK K
          refine tr_ret ⟨.inr rfl, ?_⟩
          subst n7
          simp [go_sem, reck_7 hb, hbm]
        · have n7 : ¬ op = 7 := by simpa using h
          clear h
          refine region_k T_ok (by decide) fun K hK => ?_
          simp [go_sem]
          refine hK _ ?_; clear hK K
          refine cond_k rfl (fun h => ?_) (fun h => ?_)
          · have n8 : op = 8 := by simpa using h
            clear h
            refine region_k T_ok (by decide) fun K hK => ?_
            have hbl : b % 64 < 64 := Nat.mod_lt _ (by omega)
            have hmb : ((b : Nat) : Int).tmod 64 = ((b % 64 : Nat) : Int) := tmod_64 b
            have hwb : IntKind.i64.wrap ((b % 64 : Nat) : Int) = ((b % 64 : Nat) : Int) := wrap_i64 (by omega) (by omega)
            have hwn : IntKind.i64.wrap (-((b % 64 : Nat) : Int)) = -((b % 64 : Nat) : Int) := wrap_i64 (by omega) (by omega)
            generalize hbm : b % 64 = bm at *
            simp [go_sem, hmb, hwb, hwn]
            refine call_pf (move_pf a ha (-(bm : Nat)) (by omega) (by omega)) ?_
            simp [go_sem]
            refine hK _ ?_; clear hK K
            refine tr_ret ⟨.inr rfl, ?_⟩
            subst n8
            simp [go_sem, reck_8 ha hb, hbm]
          · have n8 : ¬ op = 8 := by simpa using h
            clear h
            refine tr_skip ?_
            refine hK4 _ ?_; try clear hK4 K4
            refine region_k T_ok (by decide) fun K hK => ?_
            simp [go_sem]
            refine call_fz [] [.ro 1 (natV (tabN (rkB op a b)))] 1 0 (value_pf _ (Nat.le_of_eq (tabN_len _)) (tab_le (rkB_le (by omega)))) (by simp [go_sem, List.take_of_length_le]) (by simp) (by simp) ?_
            simp [go_sem]
            refine hK _ ?_; clear hK K
            refine tr_ret ⟨.inr rfl, ?_⟩
            simp [go_sem, reck_456 ha hb (show op = 4 ∨ op = 5 ∨ op = 6 by omega)]

end Go.Proofs.Ytokdphmnlcmbbaa
