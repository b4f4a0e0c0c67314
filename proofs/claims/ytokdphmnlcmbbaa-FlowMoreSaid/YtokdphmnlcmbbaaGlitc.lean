/- Litmus tests: the walks of the package litmus: names, sizes. -/
import Derived.Test.YtokdphmnlcmbbaaGlitb
set_option linter.unusedVariables false
set_option linter.unusedSimpArgs false
namespace Go.Proofs.Ytokdphmnlcmbbaa
open Go Go.Sl Go.Proofs.Try

@[go_sem] theorem str_nil (s : ByteArray) : (s.toList = []) = (s.size = 0) := by
  rw [ByteArray.toList_eq]
  obtain ⟨⟨x⟩⟩ := s
  cases x with
  | nil => exact propext ⟨fun _ => rfl, fun _ => rfl⟩
  | cons a l => exact propext ⟨fun h => by simp at h, fun h => by simp [ByteArray.size] at h⟩
@[go_sem] theorem str_empty (s : ByteArray) : s.toList.isEmpty = decide (s.size = 0) := by
  rw [Bool.eq_iff_iff, List.isEmpty_iff, decide_eq_true_eq, str_nil]

set_option maxRecDepth 100000 in
set_option maxHeartbeats 8000000 in
theorem name_pf (s : ByteArray) (hs : s.size ≤ 1000000) : Pf Try.prog 28 [.val (.string s)] (bV (nmB s)) := by
  refine Pf.of_fn (.cons (.val _) .nil) (.val _) ?_
  refine fn_in T_ok func28 rfl rfl ntmps28 rfl (by simp) ?_
  refine region_k T_ok (by decide) fun K hK => ?_
  simp [go_sem]
  refine hK _ ?_; clear hK K
  refine seq_k fun K1 hK1 => ?_
  refine region_k T_ok (by decide) fun K hK => ?_
  simp [go_sem]
  refine hK _ ?_; clear hK K
  refine tr_block ?_
  refine loop_p (α := Nat) (fun a => ⟨53, [(0, .val (.string s)), (5, .val (.string s)), (6, iV (s.size : Nat)), (7, iV (a : Nat))], [], 0⟩) (fun a => a ≤ s.size ∧ okCs s a = true) (fun a => s.size - a) 0 ?_ ?_ ?_
  · exact ⟨by omega, rfl⟩
  · refine Weaker.fz 1 0 ?_ ?_ ?_
    · simp [go_sem]
    · first | (simp; done) | (simp; omega)
    · simp [go_sem]
  rintro i ⟨hi, hok⟩
  try dsimp only
  refine region_k T_ok (by decide) fun K hK => ?_
  simp [go_sem]
  refine hK _ ?_; clear hK K
  refine seq_k fun K2 hK2 => ?_
  refine cond_k rfl (fun h => ?_) (fun h => ?_)
  · simp at h
    have h' : i < s.size := by omega
    have hi0 : (0 : Int) ≤ (i : Nat) := by omega
    have hw : IntKind.i64.wrap ((i : Nat) + 1) = (i : Nat) + 1 := wrap_i64 (by omega) (by omega)
    refine tr_skip ?_
    refine hK2 _ ?_; try clear hK2 K2
    refine seq_k fun K3 hK3 => ?_
    refine tr_block ?_
    refine region_k T_ok (by decide) fun K hK => ?_
    simp [go_sem]
    refine hK _ ?_; clear hK K
    refine region_k T_ok (by decide) fun K hK => ?_
    simp [go_sem, h']
    refine hK _ ?_; clear hK K
    refine region_to T_ok (by decide) ⟨53, [(0, .val (.string s)), (5, .val (.string s)), (6, iV (s.size : Nat)), (7, iV (i : Nat)), (31, bV (!okC i (chI s i)))], [], 0⟩ ?_ ?_
    · generalize chI s i = c
      by_cases c1 : 97 ≤ c
      · by_cases c2 : c ≤ 122
        · simp [go_sem, c1, c2]
          refine Weaker.fz 1 0 ?_ ?_ ?_
          · simp [go_sem, c1, c2, okC]
          · first | (simp; done) | (simp; omega)
          · simp [go_sem, c1, c2, okC]
        · by_cases c3 : 0 < i
          · by_cases c4 : 48 ≤ c
            · by_cases c5 : c ≤ 57
              · simp [go_sem, c1, c2, c3, c4, c5]
                refine Weaker.fz 1 0 ?_ ?_ ?_
                · simp [go_sem, c1, c2, c3, c4, c5, okC]
                · first | (simp; done) | (simp; omega)
                · simp [go_sem, c1, c2, c3, c4, c5, okC]
              · simp [go_sem, c1, c2, c3, c4, c5]
                refine Weaker.fz 1 0 ?_ ?_ ?_
                · simp [go_sem, c1, c2, c3, c4, c5, okC]
                · first | (simp; done) | (simp; omega)
                · simp [go_sem, c1, c2, c3, c4, c5, okC]
            · simp [go_sem, c1, c2, c3, c4]
              refine Weaker.fz 1 0 ?_ ?_ ?_
              · simp [go_sem, c1, c2, c3, c4, okC]
              · first | (simp; done) | (simp; omega)
              · simp [go_sem, c1, c2, c3, c4, okC]
          · simp [go_sem, c1, c2, c3]
            refine Weaker.fz 1 0 ?_ ?_ ?_
            · simp [go_sem, c1, c2, c3, okC]
            · first | (simp; done) | (simp; omega)
            · simp [go_sem, c1, c2, c3, okC]
      · by_cases c2 : 0 < i
        · by_cases c3 : 48 ≤ c
          · by_cases c4 : c ≤ 57
            · simp [go_sem, c1, c2, c3, c4]
              refine Weaker.fz 1 0 ?_ ?_ ?_
              · simp [go_sem, c1, c2, c3, c4, okC]
              · first | (simp; done) | (simp; omega)
              · simp [go_sem, c1, c2, c3, c4, okC]
            · simp [go_sem, c1, c2, c3, c4]
              refine Weaker.fz 1 0 ?_ ?_ ?_
              · simp [go_sem, c1, c2, c3, c4, okC]
              · first | (simp; done) | (simp; omega)
              · simp [go_sem, c1, c2, c3, c4, okC]
          · simp [go_sem, c1, c2, c3]
            refine Weaker.fz 1 0 ?_ ?_ ?_
            · simp [go_sem, c1, c2, c3, okC]
            · first | (simp; done) | (simp; omega)
            · simp [go_sem, c1, c2, c3, okC]
        · simp [go_sem, c1, c2]
          refine Weaker.fz 1 0 ?_ ?_ ?_
          · simp [go_sem, c1, c2, okC]
          · first | (simp; done) | (simp; omega)
          · simp [go_sem, c1, c2, okC]
    · skip
      refine cond_k rfl (fun h => ?_) (fun h => ?_)
      · have hc : okC i (chI s i) = false := by simpa using h
        have hbad : okCs s s.size = false := okCs_bad h' hc
        refine region_k T_ok (by decide) fun K hK => ?_
        simp [go_sem]
        refine hK _ ?_; clear hK K
        refine tr_ret ⟨.inr rfl, ?_⟩
        simp [go_sem, nmB, hbad]
      · have hc : okC i (chI s i) = true := by simpa using h
        refine tr_skip ?_
        refine hK3 _ ?_; try clear hK3 K3
        refine region_e T_ok (by decide) fun K hK => ?_
        simp [go_sem, hw]
        refine hK _ ?_; clear hK K
        refine ⟨i + 1, ?_, ?_, ?_⟩
        · exact ⟨by omega, by simp [okCs, hok, hc]⟩
        · omega
        · refine Weaker.fz 1 0 ?_ ?_ ?_
          · simp [go_sem]
          · first | (simp; done) | (simp; omega)
          simp [go_sem]
  · simp at h
    obtain rfl : i = s.size := by omega
    refine tr_exit ?_
    refine hK1 _ ?_; try clear hK1 K1
    refine seq_k fun K4 hK4 => ?_
    refine region_to T_ok (by decide) ⟨53, [(0, .val (.string s)), (45, bV (regN s))], [], 0⟩ ?_ ?_
    · have hsI : (((s.size : Nat) : Int) = 2) = (s.size = 2) := propext (by omega)
      by_cases c1 : s.size = 2
      · by_cases c2 : chI s 0 = 114
        · by_cases c3 : chI s 1 ≤ 57
          · simp [go_sem, c1, c2, c3, hsI]
            refine Weaker.fz 1 0 ?_ ?_ ?_
            · simp [go_sem, c1, c2, c3, regN]
            · first | (simp; done) | (simp; omega)
            · simp [go_sem, c1, c2, c3, regN]
          · simp [go_sem, c1, c2, c3, hsI]
            refine Weaker.fz 1 0 ?_ ?_ ?_
            · simp [go_sem, c1, c2, c3, regN]
            · first | (simp; done) | (simp; omega)
            · simp [go_sem, c1, c2, c3, regN]
        · simp [go_sem, c1, c2, hsI]
          refine Weaker.fz 1 0 ?_ ?_ ?_
          · simp [go_sem, c1, c2, regN]
          · first | (simp; done) | (simp; omega)
          · simp [go_sem, c1, c2, regN]
      · simp [go_sem, c1, hsI]
        refine Weaker.fz 1 0 ?_ ?_ ?_
        · simp [go_sem, c1, regN]
        · first | (simp; done) | (simp; omega)
        · simp [go_sem, c1, regN]
    · skip
      refine cond_k rfl (fun h => ?_) (fun h => ?_)
      · have hreg := h
        refine region_k T_ok (by decide) fun K hK => ?_
        simp [go_sem]
        refine hK _ ?_; clear hK K
        refine tr_ret ⟨.inr rfl, ?_⟩
        simp [go_sem, nmB, hok, hreg]
      · have hreg := h
        refine tr_skip ?_
        refine hK4 _ ?_; try clear hK4 K4
        refine region_to T_ok (by decide) ⟨53, [(2, bV (decide (s.size ≠ 0) && decide (s.size ≤ 16)))], [], 0⟩ ?_ ?_
        · have hsI : (((s.size : Nat) : Int) ≤ 16) = (s.size ≤ 16) := propext (by omega)
          by_cases c1 : s.size = 0
          · simp [go_sem, c1, hsI]
            refine Weaker.fz 1 0 ?_ ?_ ?_
            · simp [go_sem, c1]
            · first | (simp; done) | (simp; omega)
            · simp [go_sem, c1]
          · by_cases c2 : s.size ≤ 16
            · simp [go_sem, c1, c2, hsI]
              refine Weaker.fz 1 0 ?_ ?_ ?_
              · simp [go_sem, c1, c2]
              · first | (simp; done) | (simp; omega)
              · simp [go_sem, c1, c2]
            · simp [go_sem, c1, c2, hsI]
              refine Weaker.fz 1 0 ?_ ?_ ?_
              · simp [go_sem, c1, c2]
              · first | (simp; done) | (simp; omega)
              · simp [go_sem, c1, c2]
        · skip
          refine tr_ret ⟨.inr rfl, ?_⟩
          simp [go_sem, nmB, hok, hreg]

set_option maxRecDepth 100000 in
set_option maxHeartbeats 8000000 in
theorem sizes_pf (t : Tst) : Pf Try.prog 27 [.rp t.cs 0] (iV (sizeErr t)) := by
  refine Pf.of_fn (.cons (nl_rp t) .nil) (.val _) ?_
  refine fn_in T_ok func27 rfl rfl ntmps27 rfl (by simp) ?_
  refine region_k T_ok (by decide) fun K hK => ?_
  simp [go_sem]
  refine hK _ ?_; clear hK K
  refine seq_k fun K1 hK1 => ?_
  refine region_k T_ok (by decide) fun K hK => ?_
  simp [go_sem, Tst.cs]
  refine hK _ ?_; clear hK K
  refine cond_k rfl (fun h => ?_) (fun h => ?_)
  · simp at h
    have h1 := h
    refine region_k T_ok (by decide) fun K hK => ?_
    simp [go_sem]
    refine hK _ ?_; clear hK K
    refine tr_ret ⟨.inr rfl, ?_⟩
    simp [go_sem, sizeErr, h1]
  · simp at h
    have h1 := h
    refine tr_skip ?_
    refine hK1 _ ?_; try clear hK1 K1
    refine seq_k fun K2 hK2 => ?_
    refine region_to T_ok (by decide) ⟨49, [(0, .rp t.cs 0), (32, bV (manyB t))], [], 0⟩ ?_ ?_
    · by_cases c1 : (4 : Int) < (t.ths.length : Nat)
      · simp [go_sem, c1, Tst.cs]
        refine Weaker.fz 1 0 ?_ ?_ ?_
        · simp [go_sem, c1, manyB, Tst.cs]
        · first | (simp; done) | (simp; omega)
        · simp [go_sem, c1, manyB, Tst.cs]
      · by_cases c2 : (8 : Int) < (t.locs.length : Nat)
        · simp [go_sem, c1, c2, Tst.cs]
          refine Weaker.fz 1 0 ?_ ?_ ?_
          · simp [go_sem, c1, c2, manyB, Tst.cs]
          · first | (simp; done) | (simp; omega)
          · simp [go_sem, c1, c2, manyB, Tst.cs]
        · by_cases c3 : (40 : Int) < (t.asks.length : Nat)
          · simp [go_sem, c1, c2, c3, Tst.cs]
            refine Weaker.fz 1 0 ?_ ?_ ?_
            · simp [go_sem, c1, c2, c3, manyB, Tst.cs]
            · first | (simp; done) | (simp; omega)
            · simp [go_sem, c1, c2, c3, manyB, Tst.cs]
          · simp [go_sem, c1, c2, c3, Tst.cs]
            refine Weaker.fz 1 0 ?_ ?_ ?_
            · simp [go_sem, c1, c2, c3, manyB, Tst.cs]
            · first | (simp; done) | (simp; omega)
            · simp [go_sem, c1, c2, c3, manyB, Tst.cs]
    · skip
      refine cond_k rfl (fun h => ?_) (fun h => ?_)
      · have h2 := h
        refine region_k T_ok (by decide) fun K hK => ?_
        simp [go_sem]
        refine hK _ ?_; clear hK K
        refine tr_ret ⟨.inr rfl, ?_⟩
        simp [go_sem, sizeErr, h1, h2]
      · have h2 := h
        have hm : t.ths.length ≤ 4 := by unfold manyB at h2; simp at h2; omega
        refine tr_skip ?_
        refine hK2 _ ?_; try clear hK2 K2
        refine seq_k fun K3 hK3 => ?_
        refine region_k T_ok (by decide) fun K hK => ?_
        simp [go_sem, Tst.cs]
        refine hK _ ?_; clear hK K
        refine tr_block ?_
        refine loop_p (α := Nat) (fun a => ⟨49, [(0, .rp t.cs 0), (36, .ro 1 (thrs t.ths)), (37, iV (t.ths.length : Nat)), (38, iV (a : Nat))], [], 0⟩) (fun a => a ≤ t.ths.length ∧ ∀ x ∈ t.ths.take a, x.length ≤ 8) (fun a => t.ths.length - a) 0 ?_ ?_ ?_
        · exact ⟨by omega, by simp⟩
        · refine Weaker.fz 1 0 ?_ ?_ ?_
          · simp [go_sem, Tst.cs]
          · first | (simp; done) | (simp; omega)
          · simp [go_sem]
        rintro i ⟨hi, hok⟩
        try dsimp only
        refine region_k T_ok (by decide) fun K hK => ?_
        simp [go_sem]
        refine hK _ ?_; clear hK K
        refine seq_k fun K4 hK4 => ?_
        refine cond_k rfl (fun h => ?_) (fun h => ?_)
        · simp at h
          have hI := h
          clear h
          have h' : i < (t.ths).length := by omega
          obtain ⟨l, hx, hx'⟩ := getAt h'
          have hi0 : (0 : Int) ≤ (i : Nat) := by omega
          have hw : IntKind.i64.wrap ((i : Nat) + 1) = (i : Nat) + 1 := wrap_i64 (by omega) (by omega)
          refine tr_skip ?_
          refine hK4 _ ?_; try clear hK4 K4
          refine seq_k fun K5 hK5 => ?_
          refine tr_block ?_
          refine region_k T_ok (by decide) fun K hK => ?_
          simp [go_sem, hI, hx, hx', hi0, h']
          refine hK _ ?_; clear hK K
          refine region_k T_ok (by decide) fun K hK => ?_
          simp [go_sem]
          refine hK _ ?_; clear hK K
          refine cond_k rfl (fun h => ?_) (fun h => ?_)
          · simp at h
            have h8 : ¬ l.length ≤ 8 := by omega
            have hnot : ¬ ∀ x ∈ t.ths, x.length ≤ 8 := fun hh => h8 (hh l (List.mem_of_getElem? hx))
            refine region_k T_ok (by decide) fun K hK => ?_
            simp [go_sem]
            refine hK _ ?_; clear hK K
            refine tr_ret ⟨.inr rfl, ?_⟩
            simp only [sizeErr, h1, h2, hnot, if_false, if_true]
            simp [go_sem, h1, h2]
          · simp at h
            have h8 : l.length ≤ 8 := by omega
            refine tr_skip ?_
            refine hK5 _ ?_; try clear hK5 K5
            refine region_e T_ok (by decide) fun K hK => ?_
            simp [go_sem, hw]
            refine hK _ ?_; clear hK K
            refine ⟨i + 1, ?_, ?_, ?_⟩
            · refine ⟨by omega, fun y hy => ?_⟩
              rw [takeAt hx] at hy
              rcases List.mem_append.1 hy with hy | hy
              · exact hok y hy
              · rw [List.mem_singleton.1 hy]; exact h8
            · omega
            · refine Weaker.fz 1 0 ?_ ?_ ?_
              · simp [go_sem]
              · first | (simp; done) | (simp; omega)
              simp [go_sem]
        · simp at h
          obtain rfl : i = t.ths.length := by omega
          rw [List.take_length] at hok
          have hev := events_len t.ths hok
          have hev2 : events t.ths ≤ 64 := Nat.le_trans hev (by omega)
          refine tr_exit ?_
          refine hK3 _ ?_; try clear hK3 K3
          refine seq_k fun K6 hK6 => ?_
          refine region_k T_ok (by decide) fun K hK => ?_
          simp [go_sem]
          refine call_pf (events_pf t (by omega) (fun x hx => by have := hok x hx; omega) (by omega)) ?_
          simp [go_sem]
          refine hK _ ?_; clear hK K
          refine cond_k rfl (fun h => ?_) (fun h => ?_)
          · simp at h
            have h3 : 8 < events t.ths := by omega
            refine region_k T_ok (by decide) fun K hK => ?_
            simp [go_sem]
            refine hK _ ?_; clear hK K
            refine tr_ret ⟨.inr rfl, ?_⟩
            simp [go_sem, sizeErr, h1, h2, h3]
            try exact fun hh => absurd hok hh
          · simp at h
            have h3 : ¬ 8 < events t.ths := by omega
            refine tr_skip ?_
            refine hK6 _ ?_; try clear hK6 K6
            refine region_k T_ok (by decide) fun K hK => ?_
            simp [go_sem]
            refine hK _ ?_; clear hK K
            refine tr_ret ⟨.inr rfl, ?_⟩
            simp [go_sem, sizeErr, h1, h2, h3]
            try exact hok

end Go.Proofs.Ytokdphmnlcmbbaa
