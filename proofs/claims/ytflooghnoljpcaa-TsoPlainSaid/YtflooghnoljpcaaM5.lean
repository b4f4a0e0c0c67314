/- Texts put together, in order: Goutf, W41, W46, W47, Glita, Glitb, Gtsoa, Gtsob, Gfloa, Gtsoc, Gtsod, Glitg, Glith, Goutb, Gtsoe, Gtsof, Gtsog, Gtsoh, Gtsoi. -/
import Derived.Test.YtflooghnoljpcaaM4
set_option linter.unusedVariables false
set_option linter.unusedSimpArgs false
/- Sets of states: Good. -/
namespace Go.Proofs.Ytflooghnoljpcaa
open Go Go.Sl Go.Proofs.Try

/-- what Good asks of a state and of the one ahead of it -/
def okAt (n : Int) (s : List (List Int)) (i : Nat) (m : Int) (r : List Int) : Prop := m = n ∧ 0 ≤ n ∧ n ≤ 40 ∧ (∀ p, 0 < i → s[i - 1]? = some p → cmpL p (m :: r) < 0) ∧ ∀ (k : Nat) (v : Int), n ≤ (k : Int) → r[k]? = some v → v = 0
def goodS (n : Int) (s : List (List Int)) : Prop := ∀ i m r, s[i]? = some (m :: r) → okAt n s i m r

set_option maxHeartbeats 4000000 in
set_option maxRecDepth 100000 in
open Classical in
theorem good_pf (n : Int) (s : List (List Int)) (h41 : ∀ q ∈ s, q.length = 41) (hl : s.length ≤ 400000000000) : Pf Try.prog 68 [.ro 41 (stR s), iV n] (bV (decide (goodS n s))) := by
  refine Pf.of_fn (.cons (nl_stR s) (.cons (.val _) .nil)) (.val _) ?_
  refine fn_in T_ok func68 rfl rfl ntmps68 rfl (by simp) ?_
  refine region_k T_ok (by decide) fun K hK => ?_
  simp [go_sem]
  refine hK _ ?_; clear hK K
  refine seq_k fun K1 hK1 => ?_
  refine region_k T_ok (by decide) fun K hK => ?_
  simp [go_sem]
  refine hK _ ?_; clear hK K
  refine tr_block ?_
  refine loop_p (α := Nat × Nat) (fun a => ⟨54, [(0, .ro 41 (stR s)), (1, iV n), (9, .ro 41 (stR s)), (10, iV (s.length : Nat)), (11, iV (a.1 : Nat))], [], a.2⟩) (fun a => a.1 ≤ s.length ∧ ∀ i m r, i < a.1 → s[i]? = some (m :: r) → okAt n s i m r) (fun a => s.length - a.1) (0, 0) ?_ ?_ ?_
  · exact ⟨Nat.zero_le _, fun i m r hi => absurd hi (Nat.not_lt_zero _)⟩
  · refine Weaker.fzk 1 0 (by first | omega | (dsimp only; omega)) ?_ ?_ ?_
    · simp [go_sem]
    · first | (simp; done) | (simp; omega)
    · simp [go_sem]
  rintro ⟨i, j⟩ ⟨hi, hall⟩
  dsimp only at hi hall ⊢
  refine region_k T_ok (by decide) fun K hK => ?_
  simp [go_sem]
  refine hK _ ?_; clear hK K
  refine seq_k fun K2 hK2 => ?_
  refine cond_k rfl (fun h => ?_) (fun h => ?_)
  · simp at h
    have hI := h
    clear h
    have h' : i < s.length := by omega
    obtain ⟨x, hx, hx'⟩ := getAt h'
    have hi0 : (0 : Int) ≤ (i : Nat) := by omega
    have hw : IntKind.i64.wrap ((i : Nat) + 1) = (i : Nat) + 1 := wrap_i64 (by omega) (by omega)
    have hq41 := h41 x (List.mem_of_getElem? hx)
    have hxl : (stK x).length = 41 := (stK_len x).trans hq41
    have hxt : List.take 41 (stK x) = stK x := List.take_of_length_le (by omega)
    have hxo := stK_one x
    refine tr_skip ?_
    refine hK2 _ ?_; try clear hK2 K2
    refine seq_k fun K3 hK3 => ?_
    refine tr_block ?_
    refine region_k T_ok (by decide) fun K hK => ?_
    simp [go_sem, hI, hi0, h', hx, hx', hxl, hxt]
    refine ⟨hxo, ?_⟩
    obtain ⟨m, r, rfl⟩ : ∃ m r, x = m :: r := by cases x with | nil => cases hq41 | cons m r => exact ⟨m, r, rfl⟩
    have hrl : r.length = 40 := by simpa using hq41
    have hrt : List.take 40 r = r := List.take_of_length_le (by omega)
    rw [stK_cons] at hxl hxt hxo ⊢
    refine hK _ ?_; clear hK K
    refine seq_k fun K4 hK4 => ?_
    refine draw_k T_ok (by kernel_rfl) 22 [[], [0], [], [0, 1, 2], [0, 1, 2, 3], [0, 1, 2, 3, 4], [0, 1, 2, 3, 4, 5], [0, 1, 2, 3, 4, 5, 6], [0, 1, 2, 3, 4, 5, 6, 7], [0, 1, 2, 3, 4, 5, 6, 7, 8], [0, 1, 2, 3, 4, 5, 6, 7, 8, 9], [0, 1, 2, 3, 4, 5, 6, 7, 8, 9, 10], [0, 1, 2, 3, 4, 5, 6, 7, 8, 9, 10, 11], [0, 1, 2, 3, 4, 5, 6, 7, 8, 9, 10, 11, 12], [0, 1, 2, 3, 4, 5, 6, 7, 8, 9, 10, 11, 12, 13], [0, 1, 2, 3, 4, 5, 6, 7, 8, 9, 10, 11, 12, 13, 14], [0, 1, 2, 3, 4, 5, 6, 7, 8, 9, 10, 11, 12, 13, 14, 15], [0, 1, 2, 3, 4, 5, 6, 7, 8, 9, 10, 11, 12, 13, 14, 15], [0, 1, 2, 3, 4, 5, 6, 7, 8, 9, 10, 11, 12, 13, 14, 15, 17], [0, 1, 2, 3, 4, 5, 6, 7, 8, 9, 10, 11, 12, 13, 14, 15, 16, 17, 18], [0, 1, 2, 3, 4, 5, 6, 7, 8, 9, 10, 11, 12, 13, 14, 15, 16, 17, 18, 19], [0, 1, 2, 3, 4, 5, 6, 7, 8, 9, 10, 11, 12, 13, 14, 15], [0, 1, 2, 3, 4, 5, 6, 7, 8, 9, 10, 11, 12, 13, 14, 15, 16, 17, 18, 19, 20, 21], [0, 1, 2, 3, 4, 5, 6, 7, 8, 9, 10, 11, 12, 13, 14, 15, 16, 17, 18, 19, 20, 21, 22], [0, 1, 2, 3, 4, 5, 6, 7, 8, 9, 10, 11, 12, 13, 14, 15, 16, 17, 18, 19, 20, 21, 22, 23], [0, 1, 2, 3, 4, 5, 6, 7, 8, 9, 10, 11, 12, 13, 14, 15, 16, 17, 18, 19, 20, 21, 22, 23, 24]] [] (by decide) (by decide) (by decide) fun K hK => ?_
    first | dsimp only [List.take, List.drop] | dsimp [List.take, List.drop]
    have hcase : (m ≠ n) ∨ (m = n ∧ n < 0) ∨ (m = n ∧ 0 ≤ n ∧ 40 < n) ∨ (m = n ∧ 0 ≤ n ∧ n ≤ 40 ∧ i = 0) ∨ (m = n ∧ 0 ≤ n ∧ n ≤ 40 ∧ 0 < i) := by omega
    rcases hcase with h1 | ⟨rfl, h1⟩ | ⟨rfl, h0, h1⟩ | ⟨rfl, h0, h1, h6⟩ | ⟨rfl, h0, h1, h2⟩
    · simp [go_sem, h1]
      refine hK _ ?_; clear hK K
      refine cond_k rfl (fun h => ?_) (fun h => ?_)
      · clear h
        refine region_k T_ok (by decide) fun K hK => ?_
        simp [go_sem]
        refine hK _ ?_; clear hK K
        refine tr_ret ⟨.inr rfl, ?_⟩
        have hng : ¬ goodS n s := fun h => h1 (h i m r hx).1
        simp [go_sem, hng]
      · simp at h
    · simp [go_sem, h1]
      refine hK _ ?_; clear hK K
      refine cond_k rfl (fun h => ?_) (fun h => ?_)
      · clear h
        refine region_k T_ok (by decide) fun K hK => ?_
        simp [go_sem]
        refine hK _ ?_; clear hK K
        refine tr_ret ⟨.inr rfl, ?_⟩
        have hng : ¬ goodS m s := fun h => absurd (h i _ r hx).2.1 (by omega)
        simp [go_sem, hng]
      · simp at h
    · have h2 : ¬ m < 0 := by omega
      simp [go_sem, h1, h2]
      refine hK _ ?_; clear hK K
      refine cond_k rfl (fun h => ?_) (fun h => ?_)
      · clear h
        refine region_k T_ok (by decide) fun K hK => ?_
        simp [go_sem]
        refine hK _ ?_; clear hK K
        refine tr_ret ⟨.inr rfl, ?_⟩
        have hng : ¬ goodS m s := fun h => absurd (h i _ r hx).2.2.1 (by omega)
        simp [go_sem, hng]
      · simp at h
    · have h2 : ¬ m < 0 := by omega
      have h3 : ¬ 40 < m := by omega
      have h7 : ¬ 0 < i := by omega
      have h5 : ¬ (0 : Int) < (i : Nat) := by omega
      have hprev : ∀ p, 0 < i → s[i - 1]? = some p → cmpL p (m :: r) < 0 := fun p h => absurd h h7
      simp [go_sem, h2, h3, h5, h7]
      refine hK _ ?_; clear hK K
      refine cond_k rfl (fun h => ?_) (fun h => ?_)
      · simp at h
      · clear h
        refine tr_skip ?_
        refine hK4 _ ?_; try clear hK4 K4
        refine region_k T_ok (by decide) fun K hK => ?_
        obtain ⟨c, rfl⟩ : ∃ c : Nat, m = c := ⟨m.toNat, by omega⟩
        rcases Nat.lt_or_ge c 40 with hc | hc
        · have hc1 : (c : Int) ≤ 40 := by omega
          have hc2 : ¬ (c : Int) = 40 := by omega
          have hs1 : List.drop (1 + c) (iV (c : Nat) :: uVs r) = uVs (r.drop c) := by rw [Nat.add_comm, List.drop_succ_cons, uVs_drop]
          have hs2 : List.take (40 - c) (uVs (r.drop c)) = uVs (r.drop c) := List.take_of_length_le (by simp [uVs, hrl])
          have hs4 : 1 + c + (40 - c) ≤ r.length + 1 := by omega
          simp [go_sem, hc1, hc2]
          refine hK _ ?_; clear hK K
          refine tr_block ?_
          refine loop_p (α := Nat) (fun a => ⟨54, [(0, .ro 41 (stR s)), (1, iV (c : Nat)), (9, .ro 41 (stR s)), (10, iV (s.length : Nat)), (11, iV (i : Nat)), (44, .ro 1 (uVs (r.drop c))), (45, iV ((40 - c : Nat))), (46, iV (a : Nat))], [], j + 60⟩) (fun a => a ≤ 40 - c ∧ ∀ k v, k < a → (r.drop c)[k]? = some v → v = 0) (fun a => 40 - c - a) 0 ?_ ?_ ?_
          · exact ⟨Nat.zero_le _, fun k v hk => absurd hk (Nat.not_lt_zero _)⟩
          · refine Weaker.fzk 1 0 (by first | omega | (dsimp only; omega)) ?_ ?_ ?_
            · simp [go_sem, hs1, hs2, hc2, hs4]
            · first | (simp; done) | (simp; omega)
            · simp [go_sem, hs1, hs2, hc2, hs4]
          rintro b ⟨hb, hz⟩
          skip
          refine region_k T_ok (by decide) fun K hK => ?_
          simp [go_sem]
          refine hK _ ?_; clear hK K
          refine seq_k fun K5 hK5 => ?_
          refine cond_k rfl (fun h => ?_) (fun h => ?_)
          · simp at h
            have hbI := h
            clear h
            have hb' : b < 40 - c := by omega
            obtain ⟨v, hv, hv'⟩ := getAt (l := r.drop c) (i := b) (by simp; omega)
            have hv2 := hv
            have hb0 : (0 : Int) ≤ (b : Nat) := by omega
            have hw2 : IntKind.i64.wrap ((b : Nat) + 1) = (b : Nat) + 1 := wrap_i64 (by omega) (by omega)
            refine tr_skip ?_
            refine hK5 _ ?_; try clear hK5 K5
            refine seq_k fun K6 hK6 => ?_
            refine tr_block ?_
            refine region_k T_ok (by decide) fun K hK => ?_
            simp [go_sem, hbI, hb0, hv, hv', hb']
            refine ⟨by omega, ?_⟩
            refine hK _ ?_; clear hK K
            refine region_k T_ok (by decide) fun K hK => ?_
            simp [go_sem]
            refine hK _ ?_; clear hK K
            refine cond_k rfl (fun h => ?_) (fun h => ?_)
            · have hv0 : ¬ v = 0 := by simpa using h
              refine region_k T_ok (by decide) fun K hK => ?_
              simp [go_sem]
              refine hK _ ?_; clear hK K
              refine tr_ret ⟨.inr rfl, ?_⟩
              have hng : ¬ goodS c s := fun h => hv0 ((h i _ r hx).2.2.2.2 (c + b) v (by omega) (by rw [← List.getElem?_drop]; exact hv2))
              simp [go_sem, hng]
            · have hv0 : v = 0 := by simpa using h
              refine tr_skip ?_
              refine hK6 _ ?_; try clear hK6 K6
              refine region_e T_ok (by decide) fun K hK => ?_
              simp [go_sem, hw2]
              refine hK _ ?_; clear hK K
              refine ⟨b + 1, ?_, ?_, ?_⟩
              · exact ⟨by omega, fun k u hk hu => by rcases Nat.lt_or_ge k b with h | h; exact hz k u h hu; obtain rfl : k = b := (by omega); have e := Option.some.inj (hv2.symm.trans hu); rw [← e]; exact hv0⟩
              · omega
              · refine Weaker.fzk 1 0 (by first | omega | (dsimp only; omega)) ?_ ?_ ?_
                · simp [go_sem, hs1, hs2, hc2, hs4]
                · first | (simp; done) | (simp; omega)
                simp [go_sem, hs1, hs2, hc2, hs4]
          · simp at h
            obtain rfl : b = 40 - c := by omega
            clear h
            have hok : okAt c s i c r := ⟨rfl, by omega, by omega, hprev, fun k v hk hv => by
              obtain ⟨e, rfl⟩ : ∃ e, k = c + e := ⟨k - c, by omega⟩
              have hk2 := (List.getElem?_eq_some_iff.1 hv).1
              refine hz e v (by omega) ?_
              rw [List.getElem?_drop]; exact hv⟩
            refine tr_exit ?_
            refine hK3 _ ?_; try clear hK3 K3
            refine region_e T_ok (by decide) fun K hK => ?_
            simp [go_sem, hw]
            refine hK _ ?_; clear hK K
            refine ⟨(i + 1, j + 200), ?_, ?_, ?_⟩
            · dsimp only; exact ⟨by omega, fun i2 m2 r2 h2 hq2 => by rcases Nat.lt_or_ge i2 i with h | h; exact hall i2 m2 r2 h hq2; obtain rfl : i2 = i := (by omega); rw [hx] at hq2; cases hq2; exact hok⟩
            · dsimp only; omega
            · refine Weaker.fzk 1 0 (by first | omega | (dsimp only; omega)) ?_ ?_ ?_
              · simp [go_sem]
              · first | (simp; done) | (simp; omega)
              simp [go_sem]
        · have hs4 : True := trivial
          have hc3 : c = 40 := by omega
          have hc1 : (c : Int) ≤ 40 := by omega
          have hc2 : (c : Int) = 40 := by omega
          have hs1 : uVs (r.drop c) = [] := by rw [List.drop_of_length_le (by omega)]; rfl
          have hs2 : 40 - c = 0 := by omega
          simp [go_sem, hc1, hc2]
          refine hK _ ?_; clear hK K
          refine tr_block ?_
          refine loop_p (α := Nat) (fun a => ⟨54, [(0, .ro 41 (stR s)), (1, iV (c : Nat)), (9, .ro 41 (stR s)), (10, iV (s.length : Nat)), (11, iV (i : Nat)), (44, .ro 1 (uVs (r.drop c))), (45, iV ((40 - c : Nat))), (46, iV (a : Nat))], [], j + 60⟩) (fun a => a ≤ 40 - c ∧ ∀ k v, k < a → (r.drop c)[k]? = some v → v = 0) (fun a => 40 - c - a) 0 ?_ ?_ ?_
          · exact ⟨Nat.zero_le _, fun k v hk => absurd hk (Nat.not_lt_zero _)⟩
          · refine Weaker.fzk 1 0 (by first | omega | (dsimp only; omega)) ?_ ?_ ?_
            · simp [go_sem, hs1, hs2, hc2, hs4]
            · first | (simp; done) | (simp; omega)
            · simp [go_sem, hs1, hs2, hc2, hs4]
          rintro b ⟨hb, hz⟩
          skip
          refine region_k T_ok (by decide) fun K hK => ?_
          simp [go_sem]
          refine hK _ ?_; clear hK K
          refine seq_k fun K7 hK7 => ?_
          refine cond_k rfl (fun h => ?_) (fun h => ?_)
          · simp at h
            have hbI := h
            clear h
            have hb' : b < 40 - c := by omega
            obtain ⟨v, hv, hv'⟩ := getAt (l := r.drop c) (i := b) (by simp; omega)
            have hv2 := hv
            have hb0 : (0 : Int) ≤ (b : Nat) := by omega
            have hw2 : IntKind.i64.wrap ((b : Nat) + 1) = (b : Nat) + 1 := wrap_i64 (by omega) (by omega)
            refine tr_skip ?_
            refine hK7 _ ?_; try clear hK7 K7
            refine seq_k fun K8 hK8 => ?_
            refine tr_block ?_
            refine region_k T_ok (by decide) fun K hK => ?_
            simp [go_sem, hbI, hb0, hv, hv', hb']
            refine ⟨by omega, ?_⟩
            refine hK _ ?_; clear hK K
            refine region_k T_ok (by decide) fun K hK => ?_
            simp [go_sem]
            refine hK _ ?_; clear hK K
            refine cond_k rfl (fun h => ?_) (fun h => ?_)
            · have hv0 : ¬ v = 0 := by simpa using h
              refine region_k T_ok (by decide) fun K hK => ?_
              simp [go_sem]
              refine hK _ ?_; clear hK K
              refine tr_ret ⟨.inr rfl, ?_⟩
              have hng : ¬ goodS c s := fun h => hv0 ((h i _ r hx).2.2.2.2 (c + b) v (by omega) (by rw [← List.getElem?_drop]; exact hv2))
              simp [go_sem, hng]
            · have hv0 : v = 0 := by simpa using h
              refine tr_skip ?_
              refine hK8 _ ?_; try clear hK8 K8
              refine region_e T_ok (by decide) fun K hK => ?_
              simp [go_sem, hw2]
              refine hK _ ?_; clear hK K
              refine ⟨b + 1, ?_, ?_, ?_⟩
              · exact ⟨by omega, fun k u hk hu => by rcases Nat.lt_or_ge k b with h | h; exact hz k u h hu; obtain rfl : k = b := (by omega); have e := Option.some.inj (hv2.symm.trans hu); rw [← e]; exact hv0⟩
              · omega
              · refine Weaker.fzk 1 0 (by first | omega | (dsimp only; omega)) ?_ ?_ ?_
                · simp [go_sem, hs1, hs2, hc2, hs4]
                · first | (simp; done) | (simp; omega)
                simp [go_sem, hs1, hs2, hc2, hs4]
          · simp at h
            obtain rfl : b = 40 - c := by omega
            clear h
            have hok : okAt c s i c r := ⟨rfl, by omega, by omega, hprev, fun k v hk hv => by
              obtain ⟨e, rfl⟩ : ∃ e, k = c + e := ⟨k - c, by omega⟩
              have hk2 := (List.getElem?_eq_some_iff.1 hv).1
              refine hz e v (by omega) ?_
              rw [List.getElem?_drop]; exact hv⟩
            refine tr_exit ?_
            refine hK3 _ ?_; try clear hK3 K3
            refine region_e T_ok (by decide) fun K hK => ?_
            simp [go_sem, hw]
            refine hK _ ?_; clear hK K
            refine ⟨(i + 1, j + 200), ?_, ?_, ?_⟩
            · dsimp only; exact ⟨by omega, fun i2 m2 r2 h2 hq2 => by rcases Nat.lt_or_ge i2 i with h | h; exact hall i2 m2 r2 h hq2; obtain rfl : i2 = i := (by omega); rw [hx] at hq2; cases hq2; exact hok⟩
            · dsimp only; omega
            · refine Weaker.fzk 1 0 (by first | omega | (dsimp only; omega)) ?_ ?_ ?_
              · simp [go_sem]
              · first | (simp; done) | (simp; omega)
              simp [go_sem]
    · have h4 : ¬ m < 0 := by omega
      have h3 : ¬ 40 < m := by omega
      have h5 : (0 : Int) < (i : Nat) := by omega
      obtain ⟨q, hq⟩ : ∃ q, i - 1 = q := ⟨_, rfl⟩
      have hqs : q < s.length := by omega
      obtain ⟨p, hp, hp'⟩ := getAt hqs
      have hwm : IntKind.i64.wrap ((i : Nat) - 1) = (q : Nat) := by rw [wrap_i64 (by omega) (by omega)]; omega
      have hqI : (q : Int) < (s.length : Nat) := by omega
      have hq0 : (0 : Int) ≤ (q : Nat) := by omega
      have hp41 := h41 p (List.mem_of_getElem? hp)
      have hpl : (stK p).length = 41 := (stK_len p).trans hp41
      have hpt : List.take 41 (stK p) = stK p := List.take_of_length_le (by omega)
      have hpo := stK_one p
      simp [go_sem, h4, h3, h5, h2, hwm, hqI, hq0, hqs, hp, hp', hpl, hpt, hpo, hrl, us_one, hrt]
      refine call_pf (compare_pf p (m :: r) hp41 hq41) ?_
      simp [go_sem, h4, h3, h5, h2, hwm, hqI, hq0, hqs, hp, hp', hpl, hpt, hpo, hrl, us_one, hrt]
      refine hK _ ?_; clear hK K
      refine cond_k rfl (fun h => ?_) (fun h => ?_)
      · have hc : ¬ cmpL p (m :: r) < 0 := by simpa using h
        refine region_k T_ok (by decide) fun K hK => ?_
        simp [go_sem]
        refine hK _ ?_; clear hK K
        refine tr_ret ⟨.inr rfl, ?_⟩
        have hng : ¬ goodS m s := fun h => hc ((h i m r hx).2.2.2.1 p h2 (by rw [hq]; exact hp))
        simp [go_sem, hng]
      · have hc : cmpL p (m :: r) < 0 := by simpa using h
        have hprev : ∀ p, 0 < i → s[i - 1]? = some p → cmpL p (m :: r) < 0 := fun p2 _ h => by rw [hq, hp] at h; cases h; exact hc
        refine tr_skip ?_
        refine hK4 _ ?_; try clear hK4 K4
        refine region_k T_ok (by decide) fun K hK => ?_
        obtain ⟨c, rfl⟩ : ∃ c : Nat, m = c := ⟨m.toNat, by omega⟩
        rcases Nat.lt_or_ge c 40 with hc | hc
        · have hc1 : (c : Int) ≤ 40 := by omega
          have hc2 : ¬ (c : Int) = 40 := by omega
          have hs1 : List.drop (1 + c) (iV (c : Nat) :: uVs r) = uVs (r.drop c) := by rw [Nat.add_comm, List.drop_succ_cons, uVs_drop]
          have hs2 : List.take (40 - c) (uVs (r.drop c)) = uVs (r.drop c) := List.take_of_length_le (by simp [uVs, hrl])
          have hs4 : 1 + c + (40 - c) ≤ r.length + 1 := by omega
          simp [go_sem, hc1, hc2]
          refine hK _ ?_; clear hK K
          refine tr_block ?_
          refine loop_p (α := Nat) (fun a => ⟨54, [(0, .ro 41 (stR s)), (1, iV (c : Nat)), (9, .ro 41 (stR s)), (10, iV (s.length : Nat)), (11, iV (i : Nat)), (44, .ro 1 (uVs (r.drop c))), (45, iV ((40 - c : Nat))), (46, iV (a : Nat))], [], j + 60⟩) (fun a => a ≤ 40 - c ∧ ∀ k v, k < a → (r.drop c)[k]? = some v → v = 0) (fun a => 40 - c - a) 0 ?_ ?_ ?_
          · exact ⟨Nat.zero_le _, fun k v hk => absurd hk (Nat.not_lt_zero _)⟩
          · refine Weaker.fzk 1 0 (by first | omega | (dsimp only; omega)) ?_ ?_ ?_
            · simp [go_sem, hs1, hs2, hc2, hs4]
            · first | (simp; done) | (simp; omega)
            · simp [go_sem, hs1, hs2, hc2, hs4]
          rintro b ⟨hb, hz⟩
          skip
          refine region_k T_ok (by decide) fun K hK => ?_
          simp [go_sem]
          refine hK _ ?_; clear hK K
          refine seq_k fun K9 hK9 => ?_
          refine cond_k rfl (fun h => ?_) (fun h => ?_)
          · simp at h
            have hbI := h
            clear h
            have hb' : b < 40 - c := by omega
            obtain ⟨v, hv, hv'⟩ := getAt (l := r.drop c) (i := b) (by simp; omega)
            have hv2 := hv
            have hb0 : (0 : Int) ≤ (b : Nat) := by omega
            have hw2 : IntKind.i64.wrap ((b : Nat) + 1) = (b : Nat) + 1 := wrap_i64 (by omega) (by omega)
            refine tr_skip ?_
            refine hK9 _ ?_; try clear hK9 K9
            refine seq_k fun K10 hK10 => ?_
            refine tr_block ?_
            refine region_k T_ok (by decide) fun K hK => ?_
            simp [go_sem, hbI, hb0, hv, hv', hb']
            refine ⟨by omega, ?_⟩
            refine hK _ ?_; clear hK K
            refine region_k T_ok (by decide) fun K hK => ?_
            simp [go_sem]
            refine hK _ ?_; clear hK K
            refine cond_k rfl (fun h => ?_) (fun h => ?_)
            · have hv0 : ¬ v = 0 := by simpa using h
              refine region_k T_ok (by decide) fun K hK => ?_
              simp [go_sem]
              refine hK _ ?_; clear hK K
              refine tr_ret ⟨.inr rfl, ?_⟩
              have hng : ¬ goodS c s := fun h => hv0 ((h i _ r hx).2.2.2.2 (c + b) v (by omega) (by rw [← List.getElem?_drop]; exact hv2))
              simp [go_sem, hng]
            · have hv0 : v = 0 := by simpa using h
              refine tr_skip ?_
              refine hK10 _ ?_; try clear hK10 K10
              refine region_e T_ok (by decide) fun K hK => ?_
              simp [go_sem, hw2]
              refine hK _ ?_; clear hK K
              refine ⟨b + 1, ?_, ?_, ?_⟩
              · exact ⟨by omega, fun k u hk hu => by rcases Nat.lt_or_ge k b with h | h; exact hz k u h hu; obtain rfl : k = b := (by omega); have e := Option.some.inj (hv2.symm.trans hu); rw [← e]; exact hv0⟩
              · omega
              · refine Weaker.fzk 1 0 (by first | omega | (dsimp only; omega)) ?_ ?_ ?_
                · simp [go_sem, hs1, hs2, hc2, hs4]
                · first | (simp; done) | (simp; omega)
                simp [go_sem, hs1, hs2, hc2, hs4]
          · simp at h
            obtain rfl : b = 40 - c := by omega
            clear h
            have hok : okAt c s i c r := ⟨rfl, by omega, by omega, hprev, fun k v hk hv => by
              obtain ⟨e, rfl⟩ : ∃ e, k = c + e := ⟨k - c, by omega⟩
              have hk2 := (List.getElem?_eq_some_iff.1 hv).1
              refine hz e v (by omega) ?_
              rw [List.getElem?_drop]; exact hv⟩
            refine tr_exit ?_
            refine hK3 _ ?_; try clear hK3 K3
            refine region_e T_ok (by decide) fun K hK => ?_
            simp [go_sem, hw]
            refine hK _ ?_; clear hK K
            refine ⟨(i + 1, j + 200), ?_, ?_, ?_⟩
            · dsimp only; exact ⟨by omega, fun i2 m2 r2 h2 hq2 => by rcases Nat.lt_or_ge i2 i with h | h; exact hall i2 m2 r2 h hq2; obtain rfl : i2 = i := (by omega); rw [hx] at hq2; cases hq2; exact hok⟩
            · dsimp only; omega
            · refine Weaker.fzk 1 0 (by first | omega | (dsimp only; omega)) ?_ ?_ ?_
              · simp [go_sem]
              · first | (simp; done) | (simp; omega)
              simp [go_sem]
        · have hs4 : True := trivial
          have hc3 : c = 40 := by omega
          have hc1 : (c : Int) ≤ 40 := by omega
          have hc2 : (c : Int) = 40 := by omega
          have hs1 : uVs (r.drop c) = [] := by rw [List.drop_of_length_le (by omega)]; rfl
          have hs2 : 40 - c = 0 := by omega
          simp [go_sem, hc1, hc2]
          refine hK _ ?_; clear hK K
          refine tr_block ?_
          refine loop_p (α := Nat) (fun a => ⟨54, [(0, .ro 41 (stR s)), (1, iV (c : Nat)), (9, .ro 41 (stR s)), (10, iV (s.length : Nat)), (11, iV (i : Nat)), (44, .ro 1 (uVs (r.drop c))), (45, iV ((40 - c : Nat))), (46, iV (a : Nat))], [], j + 60⟩) (fun a => a ≤ 40 - c ∧ ∀ k v, k < a → (r.drop c)[k]? = some v → v = 0) (fun a => 40 - c - a) 0 ?_ ?_ ?_
          · exact ⟨Nat.zero_le _, fun k v hk => absurd hk (Nat.not_lt_zero _)⟩
          · refine Weaker.fzk 1 0 (by first | omega | (dsimp only; omega)) ?_ ?_ ?_
            · simp [go_sem, hs1, hs2, hc2, hs4]
            · first | (simp; done) | (simp; omega)
            · simp [go_sem, hs1, hs2, hc2, hs4]
          rintro b ⟨hb, hz⟩
          skip
          refine region_k T_ok (by decide) fun K hK => ?_
          simp [go_sem]
          refine hK _ ?_; clear hK K
          refine seq_k fun K11 hK11 => ?_
          refine cond_k rfl (fun h => ?_) (fun h => ?_)
          · simp at h
            have hbI := h
            clear h
            have hb' : b < 40 - c := by omega
            obtain ⟨v, hv, hv'⟩ := getAt (l := r.drop c) (i := b) (by simp; omega)
            have hv2 := hv
            have hb0 : (0 : Int) ≤ (b : Nat) := by omega
            have hw2 : IntKind.i64.wrap ((b : Nat) + 1) = (b : Nat) + 1 := wrap_i64 (by omega) (by omega)
            refine tr_skip ?_
            refine hK11 _ ?_; try clear hK11 K11
            refine seq_k fun K12 hK12 => ?_
            refine tr_block ?_
            refine region_k T_ok (by decide) fun K hK => ?_
            simp [go_sem, hbI, hb0, hv, hv', hb']
            refine ⟨by omega, ?_⟩
            refine hK _ ?_; clear hK K
            refine region_k T_ok (by decide) fun K hK => ?_
            simp [go_sem]
            refine hK _ ?_; clear hK K
            refine cond_k rfl (fun h => ?_) (fun h => ?_)
            · have hv0 : ¬ v = 0 := by simpa using h
              refine region_k T_ok (by decide) fun K hK => ?_
              simp [go_sem]
              refine hK _ ?_; clear hK K
              refine tr_ret ⟨.inr rfl, ?_⟩
              have hng : ¬ goodS c s := fun h => hv0 ((h i _ r hx).2.2.2.2 (c + b) v (by omega) (by rw [← List.getElem?_drop]; exact hv2))
              simp [go_sem, hng]
            · have hv0 : v = 0 := by simpa using h
              refine tr_skip ?_
              refine hK12 _ ?_; try clear hK12 K12
              refine region_e T_ok (by decide) fun K hK => ?_
              simp [go_sem, hw2]
              refine hK _ ?_; clear hK K
              refine ⟨b + 1, ?_, ?_, ?_⟩
              · exact ⟨by omega, fun k u hk hu => by rcases Nat.lt_or_ge k b with h | h; exact hz k u h hu; obtain rfl : k = b := (by omega); have e := Option.some.inj (hv2.symm.trans hu); rw [← e]; exact hv0⟩
              · omega
              · refine Weaker.fzk 1 0 (by first | omega | (dsimp only; omega)) ?_ ?_ ?_
                · simp [go_sem, hs1, hs2, hc2, hs4]
                · first | (simp; done) | (simp; omega)
                simp [go_sem, hs1, hs2, hc2, hs4]
          · simp at h
            obtain rfl : b = 40 - c := by omega
            clear h
            have hok : okAt c s i c r := ⟨rfl, by omega, by omega, hprev, fun k v hk hv => by
              obtain ⟨e, rfl⟩ : ∃ e, k = c + e := ⟨k - c, by omega⟩
              have hk2 := (List.getElem?_eq_some_iff.1 hv).1
              refine hz e v (by omega) ?_
              rw [List.getElem?_drop]; exact hv⟩
            refine tr_exit ?_
            refine hK3 _ ?_; try clear hK3 K3
            refine region_e T_ok (by decide) fun K hK => ?_
            simp [go_sem, hw]
            refine hK _ ?_; clear hK K
            refine ⟨(i + 1, j + 200), ?_, ?_, ?_⟩
            · dsimp only; exact ⟨by omega, fun i2 m2 r2 h2 hq2 => by rcases Nat.lt_or_ge i2 i with h | h; exact hall i2 m2 r2 h hq2; obtain rfl : i2 = i := (by omega); rw [hx] at hq2; cases hq2; exact hok⟩
            · dsimp only; omega
            · refine Weaker.fzk 1 0 (by first | omega | (dsimp only; omega)) ?_ ?_ ?_
              · simp [go_sem]
              · first | (simp; done) | (simp; omega)
              simp [go_sem]
  · simp at h
    obtain rfl : i = s.length := by omega
    clear h
    refine tr_exit ?_
    refine hK1 _ ?_; try clear hK1 K1
    refine region_k T_ok (by decide) fun K hK => ?_
    simp [go_sem]
    refine hK _ ?_; clear hK K
    refine tr_ret ⟨.inr rfl, ?_⟩
    have hy : goodS n s := fun i m r h => hall i m r (List.getElem?_eq_some_iff.1 h).1 h
    simp [go_sem, hy]

end Go.Proofs.Ytflooghnoljpcaa
/- Any test ends with some state, and all of them are its states (plainly). -/
namespace Go.Proofs.Ytflooghnoljpcaa
open Go Go.Sl

theorem addK_ne (x : List Int) (l : List (List Int)) : addK x l ≠ [] := by
  unfold addK; split
  · rename_i h; intro e; rw [e] at h; cases h
  · simp
theorem explT_keep {t : Tst} (ht : TTOk t) : ∀ (n : Nat) (k : List Int) (s : Ex), MOk t k → s.2 ≠ [] → (explT t n k s).2 ≠ []
  | 0, k, s, hM, h => h
  | n + 1, k, s, hM, h => by
    have h1 := allT_ind (f := explT t n) (R := fun a b => a.2 ≠ [] → b.2 ≠ []) ht hM (fun _ h => h) (fun _ _ _ h h' x => h' (h x)) (fun q s hq _ hs => explT_keep ht n q s hq hs) t.ths.length (Nat.le_refl _) (s.1 ++ [k], s.2) h
    unfold explT
    split
    · exact h
    · dsimp only
      split
      · exact addK_ne _ _
      · exact h1
theorem allT_some {t : Tst} (ht : TTOk t) {k : List Int} (hM : MOk t k) {f : List Int → Ex → Ex} {s : Ex} (hk : ∀ q s, MOk t q → s.2 ≠ [] → (f q s).2 ≠ []) (hf : ∀ q, MOk t q → muT t q < muT t k → (f q s).2 ≠ []) :
    ∀ (n : Nat), n ≤ t.ths.length → (allT f t k n s = s ∧ overT t k n = true) ∨ (allT f t k n s).2 ≠ []
  | 0, _ => .inl ⟨rfl, rfl⟩
  | n + 1, hn => by
    have hx : t.ths[n]? = some (lth t n) := by rw [lth, List.getD, List.getElem?_eq_getElem (by omega)]; rfl
    rw [allT, visT, overT_succ]
    rcases allT_some ht hM hk hf n (by omega) with ⟨h1, h2⟩ | h1
    · rw [h1, h2]
      cases hq : mstepT (lth t n) n k with
      | some q =>
        have hm := mstepT_ok ht hM hx hq
        have hv : vis1 f t k n s = f q s := by unfold vis1; rw [hq]
        rw [hv]
        split
        · rename_i hw; exact .inr (hk _ _ (drainL_ok ht hM hx hw).1 (hf q hm.1 hm.2))
        · exact .inr (hf q hm.1 hm.2)
      | none =>
        have hv : vis1 f t k n s = s := by unfold vis1; rw [hq]
        rw [hv]
        split
        · rename_i hw; exact .inr (hf _ (drainL_ok ht hM hx hw).1 (drainL_ok ht hM hx hw).2)
        · rename_i hw
          refine .inl ⟨rfl, ?_⟩
          simp; omega
    · refine .inr ?_
      have h2 : (vis1 f t k n (allT f t k n s)).2 ≠ [] := by
        unfold vis1
        split
        · rename_i q hq; exact hk _ _ (mstepT_ok ht hM hx hq).1 h1
        · exact h1
      split
      · rename_i hw; exact hk _ _ (drainL_ok ht hM hx hw).1 h2
      · exact h2
theorem explT_some {t : Tst} (ht : TTOk t) : ∀ (n : Nat) (k : List Int) (s : Ex), MOk t k → muT t k < n → (s.2 = [] → ∀ x ∈ s.1, muT t k < muT t x) → (explT t n k s).2 ≠ []
  | 0, k, s, hM, h, _ => absurd h (Nat.not_lt_zero _)
  | n + 1, k, s, hM, h, hs => by
    by_cases he : s.2 = []
    · have hk : k ∉ s.1 := fun hk => Nat.lt_irrefl _ (hs he k hk)
      have ha := allT_some ht hM (f := explT t n) (s := (s.1 ++ [k], s.2)) (fun q s hq h => explT_keep ht n q s hq h) (fun q hq hlt => explT_some ht n q _ hq (by omega) fun _ x hx => by
        rcases List.mem_append.1 hx with hx | hx
        · have := hs he x hx; omega
        · simp at hx; subst hx; exact hlt) t.ths.length (Nat.le_refl _)
      unfold explT
      rw [if_neg hk]
      dsimp only
      rcases ha with ⟨h1, h2⟩ | h1
      · rw [if_pos h2]; exact addK_ne _ _
      · split
        · exact addK_ne _ _
        · exact h1
    · exact explT_keep ht (n + 1) k s hM he
theorem tsoEnds_some {t : Tst} (ht : TTOk t) : tsoEnds t ≠ [] := explT_some ht _ _ _ (tsoM_ok ht) (Nat.lt_succ_self _) fun _ x hx => by cases hx
theorem explT_made {t : Tst} (ht : TTOk t) : ∀ (n : Nat) (k : List Int) (s : Ex), MOk t k → ∀ e ∈ (explT t n k s).2, e ∈ s.2 ∨ ∃ q, e = endK t q
  | 0, k, s, hM, e, he => .inl he
  | n + 1, k, s, hM, e, he => by
    have h1 := allT_ind (f := explT t n) (R := fun a b => ∀ e ∈ b.2, e ∈ a.2 ∨ ∃ q, e = endK t q) ht hM (fun _ e h => .inl h) (fun _ _ _ h h' e he => (h' e he).elim (h e) .inr) (fun q s hq _ => explT_made ht n q s hq) t.ths.length (Nat.le_refl _) (s.1 ++ [k], s.2)
    unfold explT at he
    split at he
    · exact .inl he
    · dsimp only at he h1
      split at he
      · rcases mem_addK.1 he with rfl | he
        · exact .inr ⟨k, rfl⟩
        · exact h1 e he
      · exact h1 e he
theorem tso_good {t : Tst} (ht : TTOk t) : goodS ((slotsT t).length : Int) (setOf (tsoEnds t)) := by
  intro i m r hi
  have hmem := mem_setOf.1 (List.mem_of_getElem? hi)
  have hs := slotsT_len ht.ths ht.locs
  rcases explT_made ht _ _ _ (tsoM_ok ht) _ hmem with h | ⟨q, hq⟩
  · cases h
  · unfold endK madeK at hq
    obtain ⟨rfl, rfl⟩ := List.cons.inj hq
    have hl := madeL_len t (gA q t.ths.length) (fM q)
    refine ⟨by rw [hl], by omega, by omega, fun p h0 hp => ?_, fun k v hk hv => ?_⟩
    · have := rising_lt (rising_setOf _) (show i - 1 < i by omega) hp hi
      exact (ltL_iff _ _).2 this
    · unfold padT at hv
      rw [List.getElem?_append_right (by omega)] at hv
      rw [List.getElem?_replicate] at hv
      split at hv
      · exact (Option.some.inj hv).symm
      · cases hv
end Go.Proofs.Ytflooghnoljpcaa
/- The machine with store buffers: one thread, what is nothing here, and a fence more (plainly). -/
namespace Go.Proofs.Ytflooghnoljpcaa
open Go Go.Sl

/-! ## one thread -/

abbrev Mem := Nat → Int
def bare (h : Thr) (m : Mem) : Thr × Mem := ({ h with bf := [] }, flush h.bf m)
def bare2 (p : Thr × Mem) : Thr × Mem := bare p.1 p.2
theorem insA_bare {x : Ins} {h : Thr} {m : Mem} {p : Thr × Mem} (ho : insA x h m = some p) : (insA x { h with bf := [] } (flush h.bf m)).map bare2 = some (bare2 p) := by
  unfold insA at ho ⊢
  by_cases hm : memB x.op = true
  · rw [if_pos hm] at ho ⊢
    unfold opA at ho ⊢
    by_cases h1 : x.op = 9
    · rw [if_pos h1] at ho ⊢; cases ho; rfl
    · rw [if_neg h1] at ho ⊢
      by_cases h2 : x.op = 10
      · rw [if_pos h2] at ho ⊢; cases ho
        simp only [Option.map_some, bare2, bare, List.nil_append, flush_snoc]
        rfl
      · rw [if_neg h2] at ho ⊢
        by_cases h3 : x.op = 11 ∨ x.op = 12
        · rw [if_pos h3] at ho ⊢
          by_cases h4 : h.bf = []
          · rw [if_pos h4] at ho; cases ho
            rw [if_pos rfl, h4]; rfl
          · rw [if_neg h4] at ho; cases ho
        · rw [if_neg h3] at ho; cases ho
  · rw [if_neg hm] at ho ⊢
    by_cases hs : stopA x h = true
    · rw [if_pos hs] at ho; cases ho
    · rw [if_neg hs] at ho; cases ho
      have : stopA x { h with bf := [] } = false := by unfold stopA; simp [hm]
      rw [if_neg (by rw [this]; simp), locA_bf]
      simp only [Option.map_some, bare2, bare, locA_bf']
      rfl
def bareS (l : List Ins) (p : Thr × Mem) : Option (Thr × Mem) := match l[p.1.pc]? with
  | none => none
  | some x => (insA x p.1 p.2).map bare2
theorem arun_one {t : Tst} (h1 : t.ths.length = 1) : ∀ {n : Nat} {a b c : Sys}, ARun t n a b → FinalA t b → bareS (lth t 0) (bare (a.th 0) a.mm) = none → bare (b.th 0) b.mm = bare (a.th 0) a.mm ∧ True := by
  intro n a b c hr hf hn
  induction hr with
  | nil => exact ⟨rfl, trivial⟩
  | @cons n a b' b s hr ih =>
    cases s with
    | @ins i x h' m' hi hx ho =>
      obtain rfl : i = 0 := by omega
      have := insA_bare ho
      unfold bareS bare at hn
      dsimp only at hn
      rw [hx] at hn
      dsimp only at hn
      rw [this] at hn; cases hn
    | @dr i p r hi hb =>
      obtain rfl : i = 0 := by omega
      have e : bare ((⟨upd a.th 0 { a.th 0 with bf := r }, upd a.mm p.1 p.2⟩ : Sys).th 0) (⟨upd a.th 0 { a.th 0 with bf := r }, upd a.mm p.1 p.2⟩ : Sys).mm = bare (a.th 0) a.mm := by
        dsimp only; rw [upd_same]; unfold bare; rw [hb]; rfl
      rw [e] at ih
      exact ih hf hn
theorem arun_det {t : Tst} (h1 : t.ths.length = 1) : ∀ (n m : Nat) {a a' b b' : Sys}, ARun t n a b → ARun t m a' b' → FinalA t b → FinalA t b' → bare (a.th 0) a.mm = bare (a'.th 0) a'.mm → bare (b.th 0) b.mm = bare (b'.th 0) b'.mm
  | 0, m, a, a', b, b', hr, hr', hf, hf', e => by
    cases hr with
    | nil =>
      have hb : bareS (lth t 0) (bare (a.th 0) a.mm) = none := by
        obtain ⟨f1, f2⟩ := hf 0 (by omega)
        unfold bareS bare
        dsimp only
        cases hx : (lth t 0)[(a.th 0).pc]? with
        | none => rfl
        | some x =>
          dsimp only
          have := f2 x hx
          have e2 : ({ a.th 0 with bf := [] } : Thr) = a.th 0 := by
            have : a.th 0 = ⟨(a.th 0).pc, (a.th 0).rg, (a.th 0).bf⟩ := rfl
            rw [this, f1]
          rw [e2, f1]
          show Option.map bare2 (insA x (a.th 0) a.mm) = none
          rw [this]; rfl
      rw [e] at hb
      exact e.trans (arun_one (c := b') h1 hr' hf' hb).1.symm
  | n + 1, m, a, a', b, b', hr, hr', hf, hf', e => by
    cases hr with
    | @cons _ _ c _ s hr =>
      cases s with
      | @dr i p r hi hb =>
        obtain rfl : i = 0 := by omega
        refine arun_det h1 n m hr hr' hf hf' ?_
        rw [← e]
        dsimp only; rw [upd_same]; unfold bare; rw [hb]; rfl
      | @ins i x h' m' hi hx ho =>
        obtain rfl : i = 0 := by omega
        -- the other one goes on, too
        have hgo : ∀ {m : Nat} {a' b' : Sys}, ARun t m a' b' → FinalA t b' → bare (a.th 0) a.mm = bare (a'.th 0) a'.mm → ∃ m2 c2, ARun t m2 c2 b' ∧ bare (c2.th 0) c2.mm = bare h' m' := by
          intro m a' b' hr' hf' e
          induction hr' with
          | nil a1 =>
            exfalso
            have e1 : (a1.th 0).pc = (a.th 0).pc := (congrArg (fun p : Thr × Mem => p.1.pc) e).symm
            obtain ⟨f1, f2⟩ := hf' 0 (by omega)
            have h2 := insA_bare ho
            have h3 : ({ a.th 0 with bf := [] } : Thr) = ({ a1.th 0 with bf := [] } : Thr) := congrArg Prod.fst e
            have h4 : flush (a.th 0).bf a.mm = flush (a1.th 0).bf a1.mm := congrArg Prod.snd e
            rw [h3, h4, f1] at h2
            have e2 : ({ a1.th 0 with bf := [] } : Thr) = a1.th 0 := by
              have : a1.th 0 = ⟨(a1.th 0).pc, (a1.th 0).rg, (a1.th 0).bf⟩ := rfl
              rw [this, f1]
            rw [e2] at h2
            have h5 := f2 x (by rw [e1]; exact hx)
            change Option.map bare2 (insA x (a1.th 0) a1.mm) = _ at h2
            rw [h5] at h2; cases h2
          | @cons m a1 c1 b1 s hr1 ih =>
            cases s with
            | @dr i p r hi hb =>
              obtain rfl : i = 0 := by omega
              refine ih hf' ?_
              rw [e]
              dsimp only; rw [upd_same]; unfold bare; rw [hb]; rfl
            | @ins i y h2 m2 hi2 hy ho2 =>
              obtain rfl : i = 0 := by omega
              have e1 : (a1.th 0).pc = (a.th 0).pc := (congrArg (fun p : Thr × Mem => p.1.pc) e).symm
              rw [e1, hx] at hy; cases hy
              refine ⟨_, _, hr1, ?_⟩
              dsimp only; rw [upd_same]
              have h3 : ({ a.th 0 with bf := [] } : Thr) = ({ a1.th 0 with bf := [] } : Thr) := congrArg Prod.fst e
              have h4 : flush (a.th 0).bf a.mm = flush (a1.th 0).bf a1.mm := congrArg Prod.snd e
              have q1 := insA_bare ho
              have q2 := insA_bare ho2
              rw [h3, h4, q2] at q1
              exact Option.some.inj q1
        obtain ⟨m2, c2, r2, e2⟩ := hgo hr' hf' e
        refine arun_det h1 n m2 hr r2 hf hf' ?_
        dsimp only; rw [upd_same]; exact e2.symm
/-- a test of one thread ends in one way -/
theorem tsoEnds_one {t : Tst} (ht : TTOk t) (h1 : t.ths.length = 1) : (tsoEnds t).length = 1 := by
  have hu : ∀ e ∈ tsoEnds t, ∀ e' ∈ tsoEnds t, e = e' := by
    intro e he e' he'
    obtain ⟨n, b, hr, hf, rfl⟩ := (mem_ends ht).1 he
    obtain ⟨n', b', hr', hf', rfl⟩ := (mem_ends ht).1 he'
    have h := arun_det h1 n n' hr hr' hf hf' rfl
    have f1 := (hf 0 (by omega)).1
    have f2 := (hf' 0 (by omega)).1
    have h5 : (b.th 0).rg = (b'.th 0).rg := congrArg (fun p : Thr × Mem => p.1.rg) h
    have h4 : flush (b.th 0).bf b.mm = flush (b'.th 0).bf b'.mm := congrArg Prod.snd h
    rw [f1, f2] at h4
    have h6 : b.mm = b'.mm := h4
    refine madeK_congr (fun i r hi _ => ?_) fun x _ => by rw [h6]
    obtain rfl : i = 0 := by omega
    rw [h5]
  have hn : (tsoEnds t).Nodup := explT_nodup ht _ _ _ (tsoM_ok ht) List.nodup_nil
  obtain ⟨e0, he0⟩ : ∃ e, e ∈ tsoEnds t := by
    have := tsoEnds_some ht
    exact List.exists_mem_of_ne_nil _ this
  match h : tsoEnds t with
  | [] => rw [h] at he0; cases he0
  | [_] => rfl
  | x :: y :: r =>
    rw [h] at hu hn
    have := hu x (by simp) y (by simp)
    subst this
    simp at hn
end Go.Proofs.Ytflooghnoljpcaa
/- The machine with store buffers: what is nothing here, and a fence more (plainly). -/
namespace Go.Proofs.Ytflooghnoljpcaa
open Go Go.Sl

theorem ends_sub {t u : Tst} (ht : TTOk t) (hu : TTOk u) (φ : Sys → Sys) (h0 : φ (initA u) = initA t) (hs : ∀ a b, AStep u a b → φ a = φ b ∨ AStep t (φ a) (φ b)) (hf : ∀ a, FinalA u a → FinalA t (φ a)) (he : ∀ a, endA u a = endA t (φ a)) :
    ∀ e ∈ tsoEnds u, e ∈ tsoEnds t := by
  intro e h
  obtain ⟨n, b, hr, hfb, rfl⟩ := (mem_ends hu).1 h
  have hrun : ∀ {n a b}, ARun u n a b → ∃ m, ARun t m (φ a) (φ b) := by
    intro n a b hr
    induction hr with
    | nil => exact ⟨0, .nil _⟩
    | cons s _ ih =>
      obtain ⟨m, hm⟩ := ih
      rcases hs _ _ s with h | h
      · rw [h]; exact ⟨m, hm⟩
      · exact ⟨m + 1, .cons h hm⟩
  obtain ⟨m, hm⟩ := hrun hr
  rw [h0] at hm
  rw [he]
  exact (mem_ends ht).2 ⟨m, _, hm, hf b hfb, rfl⟩

/-! ## what is nothing here -/

def fenI (p s : Int) : Ins := { op := 15, rd := 0, loc := 0, aR := false, aN := 0, bR := false, bN := 0, acq := false, rel := false, dep := 0, pred := p, succ := s, skip := 0 }
def plainI (x : Ins) : Ins := if x.op = 15 ∧ (x.pred = 1 ∨ x.succ = 2) then fenI 1 1 else { x with acq := false, rel := false, dep := 0 }
def plainP (t : Tst) : Tst := { t with ths := t.ths.map fun l => l.map plainI }
theorem lth_plain (t : Tst) (i : Nat) : lth (plainP t) i = (lth t i).map plainI := by
  unfold lth plainP
  simp only [List.getD, List.getElem?_map]
  cases t.ths[i]? <;> rfl
theorem insA_plain (x : Ins) (h : Thr) (m : Mem) : insA (plainI x) h m = insA x h m := by
  unfold plainI
  by_cases hx : x.op = 15 ∧ (x.pred = 1 ∨ x.succ = 2)
  · rw [if_pos hx]
    have hm : memB x.op = false := by rw [hx.1]; rfl
    have hd : drB x = false := by
      unfold drB
      rcases hx.2 with e | e <;> simp [e]
    unfold insA stopA
    rw [hm, hd, show memB (fenI 1 1).op = false from rfl, show drB (fenI 1 1) = false from rfl]
    simp only [Bool.false_eq_true, if_false, Bool.false_and, Bool.or_false]
    unfold locA brA
    rw [hx.1]
    rfl
  · rw [if_neg hx]; rfl
theorem plain_op (x : Ins) : (plainI x).op = x.op ∧ (setB x.op = true → (plainI x).rd = x.rd) := by
  unfold plainI; split
  · rename_i h; rw [h.1]; exact ⟨rfl, fun h => by cases h⟩
  · exact ⟨rfl, fun _ => rfl⟩
theorem setR_map {g : Ins → Ins} (hg : ∀ x, (g x).op = x.op ∧ (setB x.op = true → (g x).rd = x.rd)) (l : List Ins) : setR (l.map g) = setR l := by
  funext r
  unfold setR
  rw [List.any_map]
  congr 1
  funext x
  obtain ⟨h1, h2⟩ := hg x
  simp only [Function.comp, h1]
  cases hs : setB x.op
  · rfl
  · rw [h2 hs]
theorem slT_congr : ∀ (i : Nat) (l m : List (List Ins)), l.map setR = m.map setR → slT i l = slT i m
  | _, [], [], _ => rfl
  | _, [], _ :: _, h => by cases h
  | _, _ :: _, [], h => by cases h
  | i, x :: l, y :: m, h => by
    simp only [List.map_cons, List.cons.injEq] at h
    rw [slT, slT, slT_congr (i + 1) l m h.2]
    unfold slI; rw [h.1]
theorem slotsT_congr {t u : Tst} (h : t.ths.map setR = u.ths.map setR) (hl : t.locs.length = u.locs.length) : slotsT t = slotsT u := by
  unfold slotsT; rw [slT_congr 0 _ _ h, hl]
theorem endA_congr {t u : Tst} (h : t.ths.map setR = u.ths.map setR) (hl : t.locs.length = u.locs.length) (a : Sys) : endA t a = endA u a := by
  have hn : t.ths.length = u.ths.length := by have := congrArg List.length h; simpa using this
  unfold endA madeK madeL
  rw [slotsT_congr h hl, hn]
theorem plain_set (t : Tst) : t.ths.map setR = (plainP t).ths.map setR := by
  unfold plainP
  simp only [List.map_map]
  exact List.map_congr_left fun l _ => (setR_map plain_op l).symm
theorem plain_ok {t : Tst} (ht : TTOk t) : TTOk (plainP t) := by
  refine ⟨by simpa [plainP] using ht.ths, ht.locs, fun i l h => ?_⟩
  have hi : i < t.ths.length := by have := (List.getElem?_eq_some_iff.1 h).1; simpa [plainP] using this
  have hl := ht.thr i _ (thr_at hi)
  have e : l = (lth t i).map plainI := by rw [← lth_plain]; exact (lth_at h).symm
  subst e
  refine ⟨by simpa using hl.1, fun p y hy => ?_⟩
  rw [List.getElem?_map] at hy
  cases hx : (lth t i)[p]? with
  | none => rw [hx] at hy; cases hy
  | some x =>
    rw [hx] at hy
    cases hy
    have ho := hl.2 p x hx
    have h1 := ho.skip
    have h2 := ho.skip0
    rw [List.length_map]
    unfold plainI; split
    · exact ⟨by decide, by decide, by decide, by decide, by decide, by decide, by decide, by decide, by decide, by simp [fenI]; omega⟩
    · exact ⟨ho.op1, ho.op17, ho.rd0, ho.rd8, ho.a, ho.b, ho.fence, ho.loc, ho.skip0, ho.skip⟩
theorem plain_init (t : Tst) : initA (plainP t) = initA t := rfl
theorem plain_len (t : Tst) : (plainP t).ths.length = t.ths.length := by simp [plainP]
theorem plain_step {t : Tst} {a b : Sys} : AStep (plainP t) a b ↔ AStep t a b := by
  constructor
  · intro h
    cases h with
    | @ins i x h' m' hi hx ho =>
      rw [lth_plain, List.getElem?_map] at hx
      cases hy : (lth t i)[(a.th i).pc]? with
      | none => rw [hy] at hx; cases hx
      | some y =>
        rw [hy] at hx; cases hx
        rw [insA_plain] at ho
        exact .ins (by rw [← plain_len]; exact hi) hy ho
    | @dr i p r hi hb => exact .dr (by rw [← plain_len]; exact hi) hb
  · intro h
    cases h with
    | @ins i x h' m' hi hx ho =>
      exact .ins (x := plainI x) (by rw [plain_len]; exact hi) (by rw [lth_plain, List.getElem?_map, hx]; rfl) (by rw [insA_plain]; exact ho)
    | @dr i p r hi hb => exact .dr (by rw [plain_len]; exact hi) hb
theorem plain_final {t : Tst} {a : Sys} : FinalA (plainP t) a ↔ FinalA t a := by
  unfold FinalA
  rw [plain_len]
  constructor
  · intro h i hi
    refine ⟨(h i hi).1, fun x hx => ?_⟩
    rw [← insA_plain]
    exact (h i hi).2 _ (by rw [lth_plain, List.getElem?_map, hx]; rfl)
  · intro h i hi
    refine ⟨(h i hi).1, fun x hx => ?_⟩
    rw [lth_plain, List.getElem?_map] at hx
    cases hy : (lth t i)[(a.th i).pc]? with
    | none => rw [hy] at hx; cases hx
    | some y =>
      rw [hy] at hx; cases hx
      rw [insA_plain]
      exact (h i hi).2 _ hy
theorem plain_ends {t : Tst} (ht : TTOk t) : setOf (tsoEnds (plainP t)) = setOf (tsoEnds t) := by
  refine setOf_congr fun e => ⟨?_, ?_⟩
  · exact ends_sub ht (plain_ok ht) id (plain_init t) (fun a b h => .inr (plain_step.1 h)) (fun a h => plain_final.1 h) (fun a => (endA_congr (plain_set t) rfl a).symm) e
  · exact ends_sub (plain_ok ht) ht id (plain_init t).symm (fun a b h => .inr (plain_step.2 h)) (fun a h => plain_final.2 h) (fun a => endA_congr (plain_set t) rfl a) e

/-! ## a fence more -/

theorem argA_pc (h : Thr) (q : Nat) (r : Bool) (n : Int) : argA { h with pc := q } r n = argA h r n := rfl
theorem brA_pc (h : Thr) (q : Nat) (x : Ins) : brA { h with pc := q } x = brA h x := rfl
/-- where it stands changes nothing but where it stands then -/
theorem insA_pc {x : Ins} {h : Thr} {m : Mem} {p : Thr × Mem} (ho : insA x h m = some p) (hs : 0 ≤ x.skip) : (∃ d, p.1.pc = h.pc + d + 1 ∧ (x.op ≤ 15 → d = 0) ∧ ∀ q, insA x { h with pc := q } m = some ({ p.1 with pc := q + d + 1 }, p.2)) := by
  unfold insA at ho
  by_cases hm : memB x.op = true
  · rw [if_pos hm] at ho
    unfold opA at ho
    refine ⟨0, ?_⟩
    by_cases h1 : x.op = 9
    · rw [if_pos h1] at ho; cases ho
      refine ⟨rfl, fun _ => rfl, fun q => ?_⟩
      unfold insA opA; rw [if_pos hm, if_pos h1]
    · rw [if_neg h1] at ho
      by_cases h2 : x.op = 10
      · rw [if_pos h2] at ho; cases ho
        refine ⟨rfl, fun _ => rfl, fun q => ?_⟩
        unfold insA opA; rw [if_pos hm, if_neg h1, if_pos h2]; rfl
      · rw [if_neg h2] at ho
        by_cases h3 : x.op = 11 ∨ x.op = 12
        · rw [if_pos h3] at ho
          by_cases h4 : h.bf = []
          · rw [if_pos h4] at ho; cases ho
            refine ⟨rfl, fun _ => rfl, fun q => ?_⟩
            unfold insA opA; rw [if_pos hm, if_neg h1, if_neg h2, if_pos h3, if_pos h4]; rfl
          · rw [if_neg h4] at ho; cases ho
        · rw [if_neg h3] at ho; cases ho
  · rw [if_neg hm] at ho
    by_cases hst : stopA x h = true
    · rw [if_pos hst] at ho; cases ho
    · rw [if_neg hst] at ho; cases ho
      have hst2 : ∀ q, ¬ stopA x { h with pc := q } = true := fun q => hst
      unfold locA
      by_cases h1 : x.op = 1
      · refine ⟨0, by rw [if_pos h1], fun _ => rfl, fun q => ?_⟩
        unfold insA locA; rw [if_neg hm, if_neg (hst2 q), if_pos h1, if_pos h1]
      · by_cases h2 : x.op < 9
        · refine ⟨0, by rw [if_neg h1, if_pos h2], fun _ => rfl, fun q => ?_⟩
          unfold insA locA; rw [if_neg hm, if_neg (hst2 q), if_neg h1, if_pos h2, if_neg h1, if_pos h2]; rfl
        · by_cases h3 : brA h x = true
          · refine ⟨x.skip.toNat, by rw [if_neg h1, if_neg h2, if_pos h3], fun h => ?_, fun q => ?_⟩
            · unfold brA at h3; simp at h3; omega
            · unfold insA locA; rw [if_neg hm, if_neg (hst2 q), if_neg h1, if_neg h2, brA_pc, if_pos h3, if_neg h1, if_neg h2, if_pos h3]
          · refine ⟨0, by rw [if_neg h1, if_neg h2, if_neg h3], fun _ => rfl, fun q => ?_⟩
            unfold insA locA; rw [if_neg hm, if_neg (hst2 q), if_neg h1, if_neg h2, brA_pc, if_neg h3, if_neg h1, if_neg h2, if_neg h3]
theorem insA_pc_none {x : Ins} {h : Thr} {m : Mem} (hs : 0 ≤ x.skip) {q : Nat} : insA x { h with pc := q } m = none ↔ insA x h m = none := by
  constructor
  · intro hn
    cases ho : insA x h m with
    | none => rfl
    | some p => obtain ⟨d, _, _, h2⟩ := insA_pc ho hs; rw [h2 q] at hn; cases hn
  · intro hn
    cases ho : insA x { h with pc := q } m with
    | none => rfl
    | some p =>
      obtain ⟨d, _, _, h2⟩ := insA_pc ho hs
      have := h2 h.pc
      change insA x h m = _ at this
      rw [this] at hn; cases hn
def fencedT (t : Tst) (j a : Nat) : Tst := { t with ths := t.ths.set j ((lth t j).take a ++ fenI 2 1 :: (lth t j).drop a) }
theorem fenced_len (t : Tst) (j a : Nat) : (fencedT t j a).ths.length = t.ths.length := by simp [fencedT]
section
variable {t : Tst} {j a : Nat} (hj : j < t.ths.length) (ha : a ≤ (lth t j).length)
include hj
theorem lth_fenced (i : Nat) : lth (fencedT t j a) i = if i = j then (lth t j).take a ++ fenI 2 1 :: (lth t j).drop a else lth t i := by
  unfold fencedT
  unfold lth
  simp only [List.getD, List.getElem?_set]
  by_cases e : j = i
  · subst e; rw [if_pos rfl, if_pos hj, if_pos rfl]; rfl
  · rw [if_neg e, if_neg (Ne.symm e)]
include ha
omit hj in
theorem fen_get (p : Nat) : ((lth t j).take a ++ fenI 2 1 :: (lth t j).drop a)[p]? = if p < a then (lth t j)[p]? else if p = a then some (fenI 2 1) else (lth t j)[p - 1]? := by
  have hl : ((lth t j).take a).length = a := by rw [List.length_take]; omega
  by_cases h1 : p < a
  · rw [if_pos h1, List.getElem?_append_left (by omega), List.getElem?_take_of_lt h1]
  · rw [if_neg h1, List.getElem?_append_right (by omega), hl]
    by_cases h2 : p = a
    · rw [if_pos h2, h2, Nat.sub_self]; rfl
    · rw [if_neg h2]
      obtain ⟨d, hd⟩ : ∃ d, p = a + d + 1 := ⟨p - a - 1, by omega⟩
      subst hd
      rw [show a + d + 1 - a = d + 1 by omega, List.getElem?_cons_succ, List.getElem?_drop]
      congr 1
variable (ht : TTOk t) (h7 : (lth t j).length ≤ 7)
include ht h7
theorem fenced_ok : TTOk (fencedT t j a) := by
  refine ⟨by rw [fenced_len]; exact ht.ths, ht.locs, fun i l h => ?_⟩
  have hi : i < t.ths.length := by have := (List.getElem?_eq_some_iff.1 h).1; rwa [fenced_len] at this
  have e : l = lth (fencedT t j a) i := (lth_at h).symm
  rw [lth_fenced hj] at e
  by_cases hij : i = j
  · rw [if_pos hij] at e
    subst hij
    have hl := ht.thr i _ (thr_at hi)
    have hlen : l.length = (lth t i).length + 1 := by rw [e]; simp; omega
    refine ⟨by omega, fun p x hx => ?_⟩
    rw [hlen]
    rw [e, fen_get ha] at hx
    by_cases h1 : p < a
    · rw [if_pos h1] at hx
      have ho := hl.2 p x hx
      have := ho.skip
      exact ⟨ho.op1, ho.op17, ho.rd0, ho.rd8, ho.a, ho.b, ho.fence, ho.loc, ho.skip0, by omega⟩
    · rw [if_neg h1] at hx
      by_cases h2 : p = a
      · rw [if_pos h2] at hx; cases hx
        exact ⟨by decide, by decide, by decide, by decide, by decide, by decide, by decide, by decide, by decide, by simp [fenI]; omega⟩
      · rw [if_neg h2] at hx
        have ho := hl.2 (p - 1) x hx
        have := ho.skip
        exact ⟨ho.op1, ho.op17, ho.rd0, ho.rd8, ho.a, ho.b, ho.fence, ho.loc, ho.skip0, by omega⟩
  · rw [if_neg hij] at e
    subst e
    exact ht.thr i _ (thr_at hi)
end
theorem fenced_set (t : Tst) (j a : Nat) (hj : j < t.ths.length) : (fencedT t j a).ths.map setR = t.ths.map setR := by
  unfold fencedT
  apply List.ext_getElem?
  intro i
  simp only [List.getElem?_map, List.getElem?_set]
  by_cases e : j = i
  · subst e
    rw [if_pos rfl, if_pos hj, thr_at hj]
    simp only [Option.map_some]
    congr 1
    funext r
    have hs : setR (lth t j) r = setR ((lth t j).take a ++ (lth t j).drop a) r := by rw [List.take_append_drop]
    rw [hs]
    unfold setR
    rw [List.any_append, List.any_append, List.any_cons]
    rfl
  · rw [if_neg e]
def unpc (a p : Nat) : Nat := if p ≤ a then p else p - 1
def unfen (j a : Nat) (s : Sys) : Sys := ⟨upd s.th j { s.th j with pc := unpc a (s.th j).pc }, s.mm⟩
theorem unfen_same (j a : Nat) (s : Sys) : (unfen j a s).th j = { s.th j with pc := unpc a (s.th j).pc } := upd_same _ _ _
theorem unfen_ne {j a : Nat} {s : Sys} {i : Nat} (h : i ≠ j) : (unfen j a s).th i = s.th i := upd_ne h
theorem fenced_ends {t : Tst} {j a : Nat} (ht : TTOk t) (hj : j < t.ths.length) (ha : a ≤ (lth t j).length) (h7 : (lth t j).length ≤ 7) (hb : ∀ p x, p < a → (lth t j)[p]? = some x → x.op ≤ 15) :
    ∀ e ∈ tsoEnds (fencedT t j a), e ∈ tsoEnds t := by
  have hj2 : j < (fencedT t j a).ths.length := by rw [fenced_len]; exact hj
  have hskip : ∀ (i p : Nat) (x : Ins), (lth t i)[p]? = some x → 0 ≤ x.skip := fun i p x hx => by
    have hi : i < t.ths.length := by
      by_cases h : i < t.ths.length
      · exact h
      · rw [lth_out (by omega)] at hx; cases hx
    exact ((ht.thr i _ (thr_at hi)).2 p x hx).skip0
  refine ends_sub ht (fenced_ok hj ha ht h7) (unfen j a) ?_ ?_ ?_ ?_
  · unfold unfen initA
    dsimp only
    congr 1
    funext i
    unfold upd
    split
    · unfold thr0 unpc; simp
    · rfl
  · intro s s' h
    cases h with
    | @dr i p r hi hbf =>
      rw [fenced_len] at hi
      refine .inr ?_
      by_cases e : i = j
      · subst e
        have h := AStep.dr (t := t) (a := unfen i a s) (i := i) (p := p) (r := r) hi (by rw [unfen_same]; exact hbf)
        have e2 : unfen i a ⟨upd s.th i { s.th i with bf := r }, upd s.mm p.1 p.2⟩ = ⟨upd (unfen i a s).th i { (unfen i a s).th i with bf := r }, upd (unfen i a s).mm p.1 p.2⟩ := by
          rw [unfen_same]
          unfold unfen
          dsimp only
          rw [upd_upd, upd_upd, upd_same]
        rw [e2]; exact h
      · have h := AStep.dr (t := t) (a := unfen j a s) (i := i) (p := p) (r := r) hi (by rw [unfen_ne e]; exact hbf)
        have e2 : unfen j a ⟨upd s.th i { s.th i with bf := r }, upd s.mm p.1 p.2⟩ = ⟨upd (unfen j a s).th i { (unfen j a s).th i with bf := r }, upd (unfen j a s).mm p.1 p.2⟩ := by
          rw [unfen_ne e]
          unfold unfen
          dsimp only
          rw [upd_ne (Ne.symm e), upd_comm e]
        rw [e2]; exact h
    | @ins i x h' m' hi hx ho =>
      rw [fenced_len] at hi
      rw [lth_fenced hj] at hx
      by_cases e : i = j
      · subst e
        rw [if_pos rfl, fen_get ha] at hx
        by_cases h1 : (s.th i).pc < a
        · rw [if_pos h1] at hx
          obtain ⟨d, e1, e2, e3⟩ := insA_pc ho (hskip _ _ _ hx)
          have hd := e2 (hb _ _ h1 hx)
          subst hd
          refine .inr ?_
          have hp : unpc a (s.th i).pc = (s.th i).pc := if_pos (by omega)
          have hp2 : unpc a h'.pc = h'.pc := if_pos (by dsimp only at e1; omega)
          have hs : unfen i a s = s := by
            unfold unfen; rw [hp]
            have : ({ s.th i with pc := (s.th i).pc } : Thr) = s.th i := rfl
            rw [this, upd_self]
          have hs2 : unfen i a ⟨upd s.th i h', m'⟩ = ⟨upd s.th i h', m'⟩ := by
            unfold unfen; dsimp only; rw [upd_same, hp2, upd_upd]
          rw [hs, hs2]
          exact .ins hi hx ho
        · rw [if_neg h1] at hx
          by_cases h2 : (s.th i).pc = a
          · rw [if_pos h2] at hx
            cases hx
            refine .inl ?_
            have hst : stopA (fenI 2 1) (s.th i) = false := by
              cases hst : stopA (fenI 2 1) (s.th i)
              · rfl
              · unfold insA at ho; rw [if_neg (by decide), if_pos hst] at ho; cases ho
            rw [insA_loc hst] at ho
            cases ho
            have hl : locA (fenI 2 1) (s.th i) = { s.th i with pc := (s.th i).pc + 1 } := rfl
            unfold unfen
            dsimp only
            rw [hl, upd_same, upd_upd]
            unfold unpc
            rw [if_pos (by omega), if_neg (by dsimp only; omega)]
            rfl
          · rw [if_neg h2] at hx
            obtain ⟨d, e1, e2, e3⟩ := insA_pc ho (hskip _ _ _ hx)
            have e4 := e3 ((s.th i).pc - 1)
            refine .inr ?_
            have hp : unpc a (s.th i).pc = (s.th i).pc - 1 := if_neg (by omega)
            have hp2 : unpc a h'.pc = (s.th i).pc - 1 + d + 1 := by dsimp only at e1; unfold unpc; rw [if_neg (by omega)]; omega
            have h := AStep.ins (t := t) (a := unfen i a s) (i := i) (x := x) hi (by rw [unfen_same, hp]; exact hx) (by rw [unfen_same, hp]; exact e4)
            have hs2 : unfen i a ⟨upd s.th i h', m'⟩ = ⟨upd (unfen i a s).th i { h' with pc := (s.th i).pc - 1 + d + 1 }, m'⟩ := by
              unfold unfen; dsimp only; rw [upd_same, hp2, upd_upd, upd_upd]
            rw [hs2]; exact h
      · rw [if_neg e] at hx
        refine .inr ?_
        have h := AStep.ins (t := t) (a := unfen j a s) (i := i) (x := x) hi (by rw [unfen_ne e]; exact hx) (by rw [unfen_ne e]; exact ho)
        have e2 : unfen j a ⟨upd s.th i h', m'⟩ = ⟨upd (unfen j a s).th i h', m'⟩ := by
          unfold unfen
          dsimp only
          rw [upd_ne (Ne.symm e), upd_comm e]
        rw [e2]; exact h
  · intro s hf i hi
    obtain ⟨f1, f2⟩ := hf i (by rw [fenced_len]; exact hi)
    by_cases e : i = j
    · subst e
      rw [unfen_same]
      refine ⟨f1, fun x hx => ?_⟩
      rw [insA_pc_none (hskip _ _ _ hx)]
      dsimp only at hx
      refine f2 x ?_
      rw [lth_fenced hj, if_pos rfl, fen_get ha]
      by_cases h2 : (s.th i).pc = a
      · exfalso
        have := f2 (fenI 2 1) (by rw [lth_fenced hj, if_pos rfl, fen_get ha, if_neg (by omega), if_pos h2])
        rw [insA_loc (by unfold stopA; rw [f1]; rfl)] at this
        cases this
      · unfold unpc at hx
        by_cases h1 : (s.th i).pc < a
        · rw [if_pos h1]; rw [if_pos (by omega)] at hx; exact hx
        · rw [if_neg h1, if_neg h2]; rw [if_neg (by omega)] at hx; exact hx
    · rw [unfen_ne e]
      refine ⟨f1, fun x hx => f2 x ?_⟩
      rw [lth_fenced hj, if_neg e]; exact hx
  · intro s
    rw [endA_congr (fenced_set t j a hj) rfl]
    refine madeK_congr (fun i r _ _ => ?_) fun _ _ => rfl
    by_cases e : i = j
    · subst e; rw [unfen_same]
    · rw [unfen_ne e]
end Go.Proofs.Ytflooghnoljpcaa
/- Litmus tests: the walks of the package litmus, the first part. -/
namespace Go.Proofs.Ytflooghnoljpcaa
open Go Go.Sl Go.Proofs.Try

theorem of_pf (x : Ins) : Pf Try.prog 82 [insC x] (.agg [bV (rdB x.op), bV (wrB x.op)]) := by
  refine Pf.of_fn (.cons (nl_insC x) .nil) (nl_kind _ _) ?_
  refine fn_in T_ok func82 rfl rfl ntmps82 rfl (by simp) ?_
  refine region_k T_ok (by decide) fun K hK => ?_
  simp [go_sem, insC, Ins.cs]
  refine hK _ ?_; clear hK K
  refine seq_k fun K1 hK1 => ?_
  refine region_k T_ok (by decide) fun K hK => ?_
  simp [go_sem, insC, Ins.cs]
  refine hK _ ?_; clear hK K
  refine tr_block ?_
  refine seq_k fun K2 hK2 => ?_
  refine region_k T_ok (by decide) fun K hK => ?_
  simp [go_sem]
  refine hK _ ?_; clear hK K
  refine cond_k rfl (fun h => ?_) (fun h => ?_)
  · simp at h
    have h9 := h
    clear h
    refine tr_skip ?_
    refine hK2 _ ?_; try clear hK2 K2
    refine cond_k rfl (fun h => ?_) (fun h => ?_)
    · clear h
      refine region_k T_ok (by decide) fun K hK => ?_
      simp [go_sem]
      refine hK _ ?_; clear hK K
      refine tr_ret ⟨.inr rfl, ?_⟩
      simp [go_sem, rdB, wrB, h9]
    · simp at h
      exact absurd h9 h
  · simp at h
    have h9 := h
    clear h
    refine region_e T_ok (by decide) fun K hK => ?_
    simp [go_sem]
    refine hK _ ?_; clear hK K
    refine hK2 _ ?_; try clear hK2 K2
    refine cond_k rfl (fun h => ?_) (fun h => ?_)
    · simp at h
      have h13 := h
      clear h
      refine region_k T_ok (by decide) fun K hK => ?_
      simp [go_sem]
      refine hK _ ?_; clear hK K
      refine tr_ret ⟨.inr rfl, ?_⟩
      simp [go_sem, rdB, wrB, h13]
    · simp at h
      have h13 := h
      clear h
      refine seq_k fun K3 hK3 => ?_
      refine region_k T_ok (by decide) fun K hK => ?_
      simp [go_sem]
      refine hK _ ?_; clear hK K
      refine cond_k rfl (fun h => ?_) (fun h => ?_)
      · simp at h
        have h10 := h
        clear h
        refine tr_skip ?_
        refine hK3 _ ?_; try clear hK3 K3
        refine cond_k rfl (fun h => ?_) (fun h => ?_)
        · clear h
          refine region_k T_ok (by decide) fun K hK => ?_
          simp [go_sem]
          refine hK _ ?_; clear hK K
          refine tr_ret ⟨.inr rfl, ?_⟩
          simp [go_sem, rdB, wrB, h9, h13, h10]
        · simp at h
          exact absurd h10 h
      · simp at h
        have h10 := h
        clear h
        refine region_e T_ok (by decide) fun K hK => ?_
        simp [go_sem]
        refine hK _ ?_; clear hK K
        refine hK3 _ ?_; try clear hK3 K3
        refine cond_k rfl (fun h => ?_) (fun h => ?_)
        · simp at h
          have h14 := h
          clear h
          refine region_k T_ok (by decide) fun K hK => ?_
          simp [go_sem]
          refine hK _ ?_; clear hK K
          refine tr_ret ⟨.inr rfl, ?_⟩
          simp [go_sem, rdB, wrB, h9, h13, h14]
        · simp at h
          have h14 := h
          clear h
          refine seq_k fun K4 hK4 => ?_
          refine region_k T_ok (by decide) fun K hK => ?_
          simp [go_sem]
          refine hK _ ?_; clear hK K
          refine cond_k rfl (fun h => ?_) (fun h => ?_)
          · simp at h
            have h11 := h
            clear h
            refine tr_skip ?_
            refine hK4 _ ?_; try clear hK4 K4
            refine cond_k rfl (fun h => ?_) (fun h => ?_)
            · clear h
              refine region_k T_ok (by decide) fun K hK => ?_
              simp [go_sem]
              refine hK _ ?_; clear hK K
              refine tr_ret ⟨.inr rfl, ?_⟩
              simp [go_sem, rdB, wrB, h9, h13, h10, h14, h11]
            · simp at h
              exact absurd h11 h
          · simp at h
            have h11 := h
            clear h
            refine region_e T_ok (by decide) fun K hK => ?_
            simp [go_sem]
            refine hK _ ?_; clear hK K
            refine hK4 _ ?_; try clear hK4 K4
            refine cond_k rfl (fun h => ?_) (fun h => ?_)
            · simp at h
              have h12 := h
              clear h
              refine region_k T_ok (by decide) fun K hK => ?_
              simp [go_sem]
              refine hK _ ?_; clear hK K
              refine tr_ret ⟨.inr rfl, ?_⟩
              simp [go_sem, rdB, wrB, h9, h13, h10, h14, h12]
            · simp at h
              have h12 := h
              clear h
              refine tr_skip ?_
              refine hK1 _ ?_; try clear hK1 K1
              refine region_k T_ok (by decide) fun K hK => ?_
              simp [go_sem]
              refine hK _ ?_; clear hK K
              refine tr_ret ⟨.inr rfl, ?_⟩
              simp [go_sem, rdB, wrB, h9, h13, h10, h14, h11, h12]

theorem ismem_pf (x : Ins) : Pf Try.prog 89 [insC x] (bV (memB x.op)) := by
  refine Pf.of_fn (.cons (nl_insC x) .nil) (.val _) ?_
  refine fn_in T_ok func89 rfl rfl ntmps89 rfl (by simp) ?_
  refine region_k T_ok (by decide) fun K hK => ?_
  simp [go_sem, insC, Ins.cs]
  refine hK _ ?_; clear hK K
  refine region_k T_ok (by decide) fun K hK => ?_
  simp [go_sem, insC, Ins.cs]
  refine call_pf (of_pf x) ?_
  simp [go_sem]
  refine hK _ ?_; clear hK K
  refine tr_ret ⟨.inr rfl, ?_⟩
  simp [go_sem, memB]
  try (cases rdB x.op <;> cases wrB x.op <;> rfl)

theorem sets_pf (x : Ins) : Pf Try.prog 103 [insC x] (bV (setB x.op)) := by
  refine Pf.of_fn (.cons (nl_insC x) .nil) (.val _) ?_
  refine fn_in T_ok func103 rfl rfl ntmps103 rfl (by simp) ?_
  refine region_k T_ok (by decide) fun K hK => ?_
  simp [go_sem, insC, Ins.cs]
  refine hK _ ?_; clear hK K
  refine region_to T_ok (by decide) ⟨16, [(2, bV (setB x.op))], [], 1⟩ ?_ ?_
  · by_cases c1 : 1 ≤ x.op
    · by_cases c2 : x.op ≤ 14
      · by_cases c3 : x.op = 10
        · simp [go_sem, c1, c2, c3, insC, Ins.cs]
          refine Weaker.fz 1 0 ?_ ?_ ?_
          · simp [go_sem, c1, c2, c3, setB]
          · first | (simp; done) | (simp; omega)
          · simp [go_sem, c1, c2, c3, setB]
        · simp [go_sem, c1, c2, c3, insC, Ins.cs]
          refine Weaker.fz 1 0 ?_ ?_ ?_
          · simp [go_sem, c1, c2, c3, setB]
          · first | (simp; done) | (simp; omega)
          · simp [go_sem, c1, c2, c3, setB]
      · simp [go_sem, c1, c2, insC, Ins.cs]
        refine Weaker.fz 1 0 ?_ ?_ ?_
        · simp [go_sem, c1, c2, setB]
        · first | (simp; done) | (simp; omega)
        · simp [go_sem, c1, c2, setB]
    · simp [go_sem, c1, insC, Ins.cs]
      refine Weaker.fz 1 0 ?_ ?_ ?_
      · simp [go_sem, c1, setB]
      · first | (simp; done) | (simp; omega)
      · simp [go_sem, c1, setB]
  · skip
    refine tr_ret ⟨.inr rfl, ?_⟩
    simp [go_sem]

theorem goodArg_pf (r : Bool) (n : Int) : Pf Try.prog 105 [.agg [bV r, uV n]] (bV (argOk r n)) := by
  refine Pf.of_fn (.cons (.agg (.cons (.val _) (.cons (.val _) .nil))) .nil) (.val _) ?_
  refine fn_in T_ok func105 rfl rfl ntmps105 rfl (by simp) ?_
  refine region_k T_ok (by decide) fun K hK => ?_
  simp [go_sem]
  refine hK _ ?_; clear hK K
  refine region_to T_ok (by decide) ⟨11, [(2, bV (argOk r n))], [], 1⟩ ?_ ?_
  · by_cases c1 : r = true
    · simp [go_sem, c1]
      refine Weaker.fz 1 0 ?_ ?_ ?_
      · simp [go_sem, c1, argOk]
      · first | (simp; done) | (simp; omega)
      · simp [go_sem, c1, argOk]
    · simp [go_sem, c1]
      refine Weaker.fz 1 0 ?_ ?_ ?_
      · simp [go_sem, c1, argOk]
      · first | (simp; done) | (simp; omega)
      · simp [go_sem, c1, argOk]
  · skip
    refine tr_ret ⟨.inr rfl, ?_⟩
    simp [go_sem]

theorem before_pf (a b : Atm) : Pf Try.prog 81 [atmC a, atmC b] (bV (beforeB a b)) := by
  refine Pf.of_fn (.cons (nl_atmC a) (.cons (nl_atmC b) .nil)) (.val _) ?_
  refine fn_in T_ok func81 rfl rfl ntmps81 rfl (by simp) ?_
  refine region_k T_ok (by decide) fun K hK => ?_
  simp [go_sem, atmC, Atm.cs]
  refine hK _ ?_; clear hK K
  refine seq_k fun K1 hK1 => ?_
  refine region_k T_ok (by decide) fun K hK => ?_
  simp [go_sem, atmC, Atm.cs]
  refine hK _ ?_; clear hK K
  refine cond_k rfl (fun h => ?_) (fun h => ?_)
  · simp at h
    have hne := h
    refine region_to T_ok (by decide) ⟨30, [(4, bV (beforeB a b))], [], 2⟩ ?_ ?_
    · by_cases c1 : b.th < 0
      · simp [go_sem, c1, atmC, Atm.cs]
        refine Weaker.fz 1 0 ?_ ?_ ?_
        · simp [go_sem, c1, beforeB, hne]
        · first | (simp; done) | (simp; omega)
        · simp [go_sem, c1, beforeB, hne]
      · by_cases c2 : 0 ≤ a.th
        · by_cases c3 : a.th < b.th
          · simp [go_sem, c1, c2, c3, atmC, Atm.cs]
            refine Weaker.fz 1 0 ?_ ?_ ?_
            · simp [go_sem, c1, c2, c3, beforeB, hne]
            · first | (simp; done) | (simp; omega)
            · simp [go_sem, c1, c2, c3, beforeB, hne]
          · simp [go_sem, c1, c2, c3, atmC, Atm.cs]
            refine Weaker.fz 1 0 ?_ ?_ ?_
            · simp [go_sem, c1, c2, c3, beforeB, hne]
            · first | (simp; done) | (simp; omega)
            · simp [go_sem, c1, c2, c3, beforeB, hne]
        · simp [go_sem, c1, c2, atmC, Atm.cs]
          refine Weaker.fz 1 0 ?_ ?_ ?_
          · simp [go_sem, c1, c2, beforeB, hne]
          · first | (simp; done) | (simp; omega)
          · simp [go_sem, c1, c2, beforeB, hne]
    · skip
      refine tr_ret ⟨.inr rfl, ?_⟩
      simp [go_sem]
  · simp at h
    have hne := h
    refine tr_skip ?_
    refine hK1 _ ?_; try clear hK1 K1
    refine region_k T_ok (by decide) fun K hK => ?_
    simp [go_sem, atmC, Atm.cs]
    refine hK _ ?_; clear hK K
    refine tr_ret ⟨.inr rfl, ?_⟩
    simp [go_sem, beforeB, hne]

end Go.Proofs.Ytflooghnoljpcaa
/- Litmus tests: the walks of the package litmus, the second part. -/
namespace Go.Proofs.Ytflooghnoljpcaa
open Go Go.Sl Go.Proofs.Try

set_option maxRecDepth 100000 in
set_option maxHeartbeats 8000000 in
theorem checkAsk_pf (t : Tst) (a : Atm) : Pf Try.prog 80 [.rp t.cs 0, atmC a] (iV (askErr t a)) := by
  refine Pf.of_fn (.cons (nl_rp t) (.cons (nl_atmC a) .nil)) (.val _) ?_
  refine fn_in T_ok func80 rfl rfl ntmps80 rfl (by simp) ?_
  refine region_k T_ok (by decide) fun K hK => ?_
  simp [go_sem, atmC, Atm.cs, Tst.cs]
  refine hK _ ?_; clear hK K
  refine region_k T_ok (by decide) fun K hK => ?_
  simp [go_sem, atmC, Atm.cs, Tst.cs]
  refine hK _ ?_; clear hK K
  refine seq_k fun K1 hK1 => ?_
  refine region_k T_ok (by decide) fun K hK => ?_
  simp [go_sem, atmC, Atm.cs, Tst.cs]
  refine hK _ ?_; clear hK K
  refine cond_k rfl (fun h => ?_) (fun h => ?_)
  · simp at h
    have hth := h
    refine region_e T_ok (by decide) fun K hK => ?_
    simp [go_sem]
    refine hK _ ?_; clear hK K
    refine hK1 _ ?_; try clear hK1 K1
    refine seq_k fun K2 hK2 => ?_
    refine draw_to T_ok (by kernel_rfl) 22 [[], [0], [0, 1], [0, 1, 2], [0, 1, 2, 3], [0, 1, 2, 3, 4], [0, 1, 2, 3], [0, 1, 2, 3, 6], [0, 1, 2, 3, 6, 7], [0, 1, 2, 3, 6, 7, 8], [0, 1, 2, 3, 6, 7, 8, 9], [0, 1, 2, 3, 4, 5, 6, 7, 8, 9, 10], [0, 1, 2, 3, 4, 5, 6, 7, 8, 9, 10, 11], [0, 1, 2, 3, 4, 5, 6, 7, 8, 9, 10, 11, 12], [0, 1, 2, 3, 4, 5, 6, 7, 8, 9, 10, 11, 12, 13], [0, 1, 2, 3, 4, 5, 6, 7, 8, 9, 10, 11, 12, 13, 14], [0, 1, 2, 3, 4, 5, 6, 7, 8, 9, 10, 11, 12, 13, 14, 15], [0, 1, 2, 3, 4, 5, 6, 7, 8, 9, 10, 11, 12, 13, 14, 15, 16], [0, 1, 2, 3, 4, 5, 6, 7, 8, 9, 10, 11, 12, 13, 14, 15, 16, 17], [0, 1, 2, 3, 4, 5, 6, 7, 8, 9, 10, 11, 12, 13, 14, 15, 16, 17, 18], [0, 1, 2, 3, 4, 5, 6, 7, 8, 9, 10, 11, 12, 13, 14, 15, 16, 17, 18, 19], [0, 1, 2, 3, 4, 5, 6, 7, 8, 9, 10, 11, 12, 13, 14, 15, 16, 17, 18], [0, 1, 2, 3, 4, 5, 6, 7, 8, 9, 10, 11, 12, 13, 14, 15, 16, 17, 18, 19, 20, 21], [0, 1, 2, 3, 4, 5, 6, 7, 8, 9, 10, 11, 12, 13, 14, 15, 16, 17, 18, 19, 20, 21, 22]] [] (by decide) (by decide) (by decide) ⟨38, [(37, bV (askBad t a))], [], 23⟩ ?_ ?_
    · first | dsimp only [List.take, List.drop] | dsimp [List.take, List.drop]
      by_cases c1 : a.th < -1
      · simp [go_sem, c1, atmC, Atm.cs, Tst.cs]
        refine Weaker.fz 1 0 ?_ ?_ ?_
        · simp [go_sem, c1, askBad, askLim, hth]
        · first | (simp; done) | (simp; omega)
        · simp [go_sem, c1, askBad, askLim, hth]
      · by_cases c2 : (t.ths.length : Int) ≤ a.th
        · simp [go_sem, c1, c2, atmC, Atm.cs, Tst.cs]
          refine Weaker.fz 1 0 ?_ ?_ ?_
          · simp [go_sem, c1, c2, askBad, askLim, hth]
          · first | (simp; done) | (simp; omega)
          · simp [go_sem, c1, c2, askBad, askLim, hth]
        · by_cases c3 : a.at_ < 0
          · simp [go_sem, c1, c2, c3, atmC, Atm.cs, Tst.cs]
            refine Weaker.fz 1 0 ?_ ?_ ?_
            · simp [go_sem, c1, c2, c3, askBad, askLim, hth]
            · first | (simp; done) | (simp; omega)
            · simp [go_sem, c1, c2, c3, askBad, askLim, hth]
          · by_cases c4 : 8 ≤ a.at_
            · simp [go_sem, c1, c2, c3, c4, atmC, Atm.cs, Tst.cs]
              refine Weaker.fz 1 0 ?_ ?_ ?_
              · simp [go_sem, c1, c2, c3, c4, askBad, askLim, hth]
              · first | (simp; done) | (simp; omega)
              · simp [go_sem, c1, c2, c3, c4, askBad, askLim, hth]
            · simp [go_sem, c1, c2, c3, c4, atmC, Atm.cs, Tst.cs]
              refine Weaker.fz 1 0 ?_ ?_ ?_
              · simp [go_sem, c1, c2, c3, c4, askBad, askLim, hth]
              · first | (simp; done) | (simp; omega)
              · simp [go_sem, c1, c2, c3, c4, askBad, askLim, hth]
    · skip
      refine cond_k rfl (fun h => ?_) (fun h => ?_)
      · have hb := h
        refine region_k T_ok (by decide) fun K hK => ?_
        simp [go_sem]
        refine hK _ ?_; clear hK K
        refine tr_ret ⟨.inr rfl, ?_⟩
        simp [go_sem, askErr, hb]
      · have hb := h
        refine tr_skip ?_
        refine hK2 _ ?_; try clear hK2 K2
        refine region_k T_ok (by decide) fun K hK => ?_
        simp [go_sem]
        refine hK _ ?_; clear hK K
        refine tr_ret ⟨.inr rfl, ?_⟩
        simp [go_sem, askErr, hb]
  · simp at h
    have hth : ¬ 0 ≤ a.th := by omega
    refine tr_skip ?_
    refine hK1 _ ?_; try clear hK1 K1
    refine seq_k fun K3 hK3 => ?_
    refine draw_to T_ok (by kernel_rfl) 22 [[], [0], [0, 1], [0, 1, 2], [0, 1, 2, 3], [0, 1, 2, 3, 4], [0, 1, 2, 3], [0, 1, 2, 3, 6], [0, 1, 2, 3, 6, 7], [0, 1, 2, 3, 6, 7, 8], [0, 1, 2, 3, 6, 7, 8, 9], [0, 1, 2, 3, 4, 5, 6, 7, 8, 9, 10], [0, 1, 2, 3, 4, 5, 6, 7, 8, 9, 10, 11], [0, 1, 2, 3, 4, 5, 6, 7, 8, 9, 10, 11, 12], [0, 1, 2, 3, 4, 5, 6, 7, 8, 9, 10, 11, 12, 13], [0, 1, 2, 3, 4, 5, 6, 7, 8, 9, 10, 11, 12, 13, 14], [0, 1, 2, 3, 4, 5, 6, 7, 8, 9, 10, 11, 12, 13, 14, 15], [0, 1, 2, 3, 4, 5, 6, 7, 8, 9, 10, 11, 12, 13, 14, 15, 16], [0, 1, 2, 3, 4, 5, 6, 7, 8, 9, 10, 11, 12, 13, 14, 15, 16, 17], [0, 1, 2, 3, 4, 5, 6, 7, 8, 9, 10, 11, 12, 13, 14, 15, 16, 17, 18], [0, 1, 2, 3, 4, 5, 6, 7, 8, 9, 10, 11, 12, 13, 14, 15, 16, 17, 18, 19], [0, 1, 2, 3, 4, 5, 6, 7, 8, 9, 10, 11, 12, 13, 14, 15, 16, 17, 18], [0, 1, 2, 3, 4, 5, 6, 7, 8, 9, 10, 11, 12, 13, 14, 15, 16, 17, 18, 19, 20, 21], [0, 1, 2, 3, 4, 5, 6, 7, 8, 9, 10, 11, 12, 13, 14, 15, 16, 17, 18, 19, 20, 21, 22]] [] (by decide) (by decide) (by decide) ⟨38, [(37, bV (askBad t a))], [], 23⟩ ?_ ?_
    · first | dsimp only [List.take, List.drop] | dsimp [List.take, List.drop]
      by_cases c1 : a.th < -1
      · simp [go_sem, c1, atmC, Atm.cs, Tst.cs]
        refine Weaker.fz 1 0 ?_ ?_ ?_
        · simp [go_sem, c1, askBad, askLim, hth]
        · first | (simp; done) | (simp; omega)
        · simp [go_sem, c1, askBad, askLim, hth]
      · by_cases c2 : (t.ths.length : Int) ≤ a.th
        · simp [go_sem, c1, c2, atmC, Atm.cs, Tst.cs]
          refine Weaker.fz 1 0 ?_ ?_ ?_
          · simp [go_sem, c1, c2, askBad, askLim, hth]
          · first | (simp; done) | (simp; omega)
          · simp [go_sem, c1, c2, askBad, askLim, hth]
        · by_cases c3 : a.at_ < 0
          · simp [go_sem, c1, c2, c3, atmC, Atm.cs, Tst.cs]
            refine Weaker.fz 1 0 ?_ ?_ ?_
            · simp [go_sem, c1, c2, c3, askBad, askLim, hth]
            · first | (simp; done) | (simp; omega)
            · simp [go_sem, c1, c2, c3, askBad, askLim, hth]
          · by_cases c4 : (t.locs.length : Int) ≤ a.at_
            · simp [go_sem, c1, c2, c3, c4, atmC, Atm.cs, Tst.cs]
              refine Weaker.fz 1 0 ?_ ?_ ?_
              · simp [go_sem, c1, c2, c3, c4, askBad, askLim, hth]
              · first | (simp; done) | (simp; omega)
              · simp [go_sem, c1, c2, c3, c4, askBad, askLim, hth]
            · simp [go_sem, c1, c2, c3, c4, atmC, Atm.cs, Tst.cs]
              refine Weaker.fz 1 0 ?_ ?_ ?_
              · simp [go_sem, c1, c2, c3, c4, askBad, askLim, hth]
              · first | (simp; done) | (simp; omega)
              · simp [go_sem, c1, c2, c3, c4, askBad, askLim, hth]
    · skip
      refine cond_k rfl (fun h => ?_) (fun h => ?_)
      · have hb := h
        refine region_k T_ok (by decide) fun K hK => ?_
        simp [go_sem]
        refine hK _ ?_; clear hK K
        refine tr_ret ⟨.inr rfl, ?_⟩
        simp [go_sem, askErr, hb]
      · have hb := h
        refine tr_skip ?_
        refine hK3 _ ?_; try clear hK3 K3
        refine region_k T_ok (by decide) fun K hK => ?_
        simp [go_sem]
        refine hK _ ?_; clear hK K
        refine tr_ret ⟨.inr rfl, ?_⟩
        simp [go_sem, askErr, hb]

theorem events_pf (t : Tst) (ht : t.ths.length ≤ 1000) (hl : ∀ x ∈ t.ths, x.length ≤ 1000) (he : events t.ths ≤ 1000000) : Pf Try.prog 50 [.rp t.cs 0] (iV (events t.ths : Nat)) := by
  refine Pf.of_fn (.cons (nl_rp t) .nil) (.val _) ?_
  refine fn_in T_ok func50 rfl rfl ntmps50 rfl (by simp) ?_
  refine region_k T_ok (by decide) fun K hK => ?_
  simp [go_sem]
  refine hK _ ?_; clear hK K
  refine region_k T_ok (by decide) fun K hK => ?_
  simp [go_sem]
  refine hK _ ?_; clear hK K
  refine seq_k fun K1 hK1 => ?_
  refine region_k T_ok (by decide) fun K hK => ?_
  simp [go_sem, Tst.cs]
  refine hK _ ?_; clear hK K
  refine tr_block ?_
  refine loop_p (α := Nat × Nat) (fun a => ⟨37, [(3, iV (events (t.ths.take a.1) : Nat)), (12, .ro 1 (thrs t.ths)), (13, iV (t.ths.length : Nat)), (14, iV (a.1 : Nat))], [], a.2⟩) (fun a => a.1 ≤ t.ths.length) (fun a => t.ths.length - a.1) (0, 0) ?_ ?_ ?_
  · dsimp only; omega
  · refine Weaker.fz 1 0 ?_ ?_ ?_
    · simp [go_sem, events]
    · first | (simp; done) | (simp; omega)
    · simp [go_sem]
  rintro ⟨i, j⟩ hi
  dsimp only at hi ⊢
  refine region_k T_ok (by decide) fun K hK => ?_
  simp [go_sem]
  refine hK _ ?_; clear hK K
  refine seq_k fun K2 hK2 => ?_
  refine cond_k rfl (fun h => ?_) (fun h => ?_)
  · simp at h
    have hI := h
    clear h
    have h' : i < (t.ths).length := by omega
    obtain ⟨l, hx, hx'⟩ := getAt h'
    have hi0 : (0 : Int) ≤ (i : Nat) := by omega
    have hw : IntKind.i64.wrap ((i : Nat) + 1) = (i : Nat) + 1 := wrap_i64 (by omega) (by omega)
    have hll := hl l (List.mem_of_getElem? hx)
    refine tr_skip ?_
    refine hK2 _ ?_; try clear hK2 K2
    refine seq_k fun K3 hK3 => ?_
    refine tr_block ?_
    refine region_k T_ok (by decide) fun K hK => ?_
    simp [go_sem, hI, hx, hx', hi0, h']
    refine hK _ ?_; clear hK K
    refine region_k T_ok (by decide) fun K hK => ?_
    simp [go_sem, hI, hx, hx', hi0, h']
    refine hK _ ?_; clear hK K
    refine tr_block ?_
    refine loop_p (α := Nat × Nat) (fun b => ⟨37, [(3, iV (evP t.ths i l b.1 : Nat)), (12, .ro 1 (thrs t.ths)), (13, iV (t.ths.length : Nat)), (14, iV (i : Nat)), (18, .ro 13 (inss l)), (19, iV (l.length : Nat)), (20, iV (b.1 : Nat))], [], b.2⟩) (fun b => b.1 ≤ l.length) (fun b => l.length - b.1) (0, j) ?_ ?_ ?_
    · dsimp only; omega
    · refine Weaker.fz 1 0 ?_ ?_ ?_
      · simp [go_sem, evP_zero]
      · first | (simp; done) | (simp; omega)
      · simp [go_sem]
    rintro ⟨b, c⟩ hib
    dsimp only at hib ⊢
    refine region_k T_ok (by decide) fun K hK => ?_
    simp [go_sem]
    refine hK _ ?_; clear hK K
    refine seq_k fun K4 hK4 => ?_
    refine cond_k rfl (fun h => ?_) (fun h => ?_)
    · simp at h
      have hIb := h
      clear h
      have h'b : b < (l).length := by omega
      obtain ⟨x, hxb, hx'b⟩ := getAt h'b
      have hi0b : (0 : Int) ≤ (b : Nat) := by omega
      have hwb : IntKind.i64.wrap ((b : Nat) + 1) = (b : Nat) + 1 := wrap_i64 (by omega) (by omega)
      have hle := evP_le hx hxb
      refine tr_skip ?_
      refine hK4 _ ?_; try clear hK4 K4
      refine seq_k fun K5 hK5 => ?_
      refine tr_block ?_
      refine region_k T_ok (by decide) fun K hK => ?_
      simp [go_sem, hIb, hxb, hx'b, hi0b, h'b, insC, Ins.cs]
      refine hK _ ?_; clear hK K
      refine region_k T_ok (by decide) fun K hK => ?_
      simp [go_sem, insC, Ins.cs]
      refine call_pf (of_pf x) ?_
      simp [go_sem]
      refine hK _ ?_; clear hK K
      refine seq_to ⟨37, [(3, iV (evP t.ths i l b + (rdB x.op).toNat : Nat)), (8, .ptr (c + 1) 0 0), (12, .ro 1 (thrs t.ths)), (13, iV (t.ths.length : Nat)), (14, iV (i : Nat)), (18, .ro 13 (inss l)), (19, iV (l.length : Nat)), (20, iV (b : Nat))], [(c + 1, .rows 2 [.agg [bV (rdB x.op), bV (wrB x.op)]])], c + 2⟩ ?_ ?_
      · skip
        refine region_k T_ok (by decide) fun K hK => ?_
        simp [go_sem]
        refine hK _ ?_; clear hK K
        refine cond_k rfl (fun h => ?_) (fun h => ?_)
        · have hr := h
          rw [hr] at hle
          simp only [Bool.toNat_true] at hle
          have hwr : IntKind.i64.wrap (((evP t.ths i l b : Nat) : Int) + 1) = ((evP t.ths i l b : Nat) : Int) + 1 := wrap_i64 (by omega) (by omega)
          refine region_e T_ok (by decide) fun K hK => ?_
          simp [go_sem, hwr]
          refine hK _ ?_; clear hK K
          refine Weaker.fzk 1 0 (by omega) ?_ ?_ ?_
          · simp [go_sem, hr]
          · first | (simp; done) | (simp; omega)
          · simp [go_sem, hr]
        · have hr := h
          have hwr : True := trivial
          refine tr_skip ?_
          refine Weaker.fzk 1 0 (by omega) ?_ ?_ ?_
          · simp [go_sem, hr]
          · first | (simp; done) | (simp; omega)
          · simp [go_sem, hr]
      · skip
        refine region_k T_ok (by decide) fun K hK => ?_
        simp [go_sem]
        refine hK _ ?_; clear hK K
        refine cond_k rfl (fun h => ?_) (fun h => ?_)
        · have hw2 := h
          rw [hw2] at hle
          simp only [Bool.toNat_true] at hle
          have hwr2 : IntKind.i64.wrap (((evP t.ths i l b : Nat) : Int) + (((rdB x.op).toNat : Nat) : Int) + 1) = ((evP t.ths i l b : Nat) : Int) + (((rdB x.op).toNat : Nat) : Int) + 1 := wrap_i64 (by omega) (by omega)
          refine region_e T_ok (by decide) fun K hK => ?_
          simp [go_sem, hwr2]
          refine hK _ ?_; clear hK K
          refine hK5 _ ?_; try clear hK5 K5
          refine region_e T_ok (by decide) fun K hK => ?_
          simp [go_sem, hwb]
          refine hK _ ?_; clear hK K
          refine ⟨(b + 1, c + 2), ?_, ?_, ?_⟩
          · dsimp only; omega
          · dsimp only; omega
          · refine Weaker.fz 1 0 ?_ ?_ ?_
            · simp [go_sem, evP_step hxb, hw2]
            · first | (simp; done) | (simp; omega)
            simp [go_sem]
        · have hw2 := h
          refine tr_skip ?_
          refine hK5 _ ?_; try clear hK5 K5
          refine region_e T_ok (by decide) fun K hK => ?_
          simp [go_sem, hwb]
          refine hK _ ?_; clear hK K
          refine ⟨(b + 1, c + 2), ?_, ?_, ?_⟩
          · dsimp only; omega
          · dsimp only; omega
          · refine Weaker.fz 1 0 ?_ ?_ ?_
            · simp [go_sem, evP_step hxb, hw2]
            · first | (simp; done) | (simp; omega)
            simp [go_sem]
    · simp at h
      obtain rfl : b = l.length := by omega
      refine tr_exit ?_
      refine hK3 _ ?_; try clear hK3 K3
      refine region_e T_ok (by decide) fun K hK => ?_
      simp [go_sem, hw]
      refine hK _ ?_; clear hK K
      refine ⟨(i + 1, c), ?_, ?_, ?_⟩
      · dsimp only; omega
      · dsimp only; omega
      · refine Weaker.fz 1 0 ?_ ?_ ?_
        · simp [go_sem, evP_end hx]
        · first | (simp; done) | (simp; omega)
        simp [go_sem]
  · simp at h
    obtain rfl : i = t.ths.length := by omega
    refine tr_exit ?_
    refine hK1 _ ?_; try clear hK1 K1
    refine region_k T_ok (by decide) fun K hK => ?_
    simp [go_sem]
    refine hK _ ?_; clear hK K
    refine tr_ret ⟨.inr rfl, ?_⟩
    simp [go_sem]

end Go.Proofs.Ytflooghnoljpcaa
/- The machine with store buffers: what waits, what is read. -/
namespace Go.Proofs.Ytflooghnoljpcaa
open Go Go.Sl Go.Proofs.Try

theorem wrap_i8 {x : Int} (h : -128 ≤ x) (h' : x ≤ 127) : IntKind.i8.wrap x = x := by simp [IntKind.wrap, IntKind.bits, IntKind.signed]; omega
theorem eq3 {a : Int} (h : 1 ≤ a) (h' : a ≤ 3) : a = 1 ∨ a = 2 ∨ a = 3 := by omega
theorem drCases {x : Ins} (h : x.op = 15 → (1 ≤ x.pred ∧ x.pred ≤ 3) ∧ (1 ≤ x.succ ∧ x.succ ≤ 3)) : x.op ≠ 15 ∨ (x.op = 15 ∧ x.pred = 1 ∧ x.succ = 1) ∨ (x.op = 15 ∧ x.pred = 1 ∧ x.succ = 2) ∨ (x.op = 15 ∧ x.pred = 1 ∧ x.succ = 3) ∨ (x.op = 15 ∧ x.pred = 2 ∧ x.succ = 1) ∨ (x.op = 15 ∧ x.pred = 2 ∧ x.succ = 2) ∨ (x.op = 15 ∧ x.pred = 2 ∧ x.succ = 3) ∨ (x.op = 15 ∧ x.pred = 3 ∧ x.succ = 1) ∨ (x.op = 15 ∧ x.pred = 3 ∧ x.succ = 2) ∨ (x.op = 15 ∧ x.pred = 3 ∧ x.succ = 3) := by
  by_cases ho : x.op = 15
  · have := h ho; omega
  · exact .inl ho
theorem an12 {K : V → Prop} : binIV .and .i64 1 2 K = K (.val (.int .i64 0)) := by rfl
theorem an11 {K : V → Prop} : binIV .and .i64 1 1 K = K (.val (.int .i64 1)) := by rfl
theorem an22 {K : V → Prop} : binIV .and .i64 2 2 K = K (.val (.int .i64 2)) := by rfl
theorem an21 {K : V → Prop} : binIV .and .i64 2 1 K = K (.val (.int .i64 0)) := by rfl
theorem an32 {K : V → Prop} : binIV .and .i64 3 2 K = K (.val (.int .i64 2)) := by rfl
theorem an31 {K : V → Prop} : binIV .and .i64 3 1 K = K (.val (.int .i64 1)) := by rfl
/-- the youngest store to a location among the first n -/
def lookB (k : List Int) (i : Nat) (loc : Int) : Nat → Int
  | 0 => gt k (104 + loc.toNat)
  | n + 1 => if gt k (i * 26 + 10 + n * 2) = loc then gt k (i * 26 + 10 + n * 2 + 1) else lookB k i loc n

set_option maxHeartbeats 4000000 in
theorem drains_pf (x : Ins) (h : x.op = 15 → (1 ≤ x.pred ∧ x.pred ≤ 3) ∧ (1 ≤ x.succ ∧ x.succ ≤ 3)) : Pf Try.prog 117 [.agg x.cs] (bV (drB x)) := by
  refine Pf.of_fn (.cons (.agg (nl_ins x)) .nil) (.val _) ?_
  refine fn_in T_ok func117 rfl rfl ntmps117 rfl (by simp) ?_
  refine region_k T_ok (by decide) fun K hK => ?_
  simp [go_sem]
  refine hK _ ?_; clear hK K
  refine region_k T_ok (by decide) fun K hK => ?_
  rcases drCases h with hop | ⟨hop, hp, hs⟩ | ⟨hop, hp, hs⟩ | ⟨hop, hp, hs⟩ | ⟨hop, hp, hs⟩ | ⟨hop, hp, hs⟩ | ⟨hop, hp, hs⟩ | ⟨hop, hp, hs⟩ | ⟨hop, hp, hs⟩ | ⟨hop, hp, hs⟩
  · have hp := True.intro
    have hs := True.intro
    simp [go_sem, hop]
    refine hK _ ?_; clear hK K
    refine tr_ret ⟨.inr rfl, ?_⟩
    simp [go_sem, drB, hop, hp, hs]
  · simp [go_sem, hop, hp, hs, an12, an22, an32, an11, an21, an31]
    refine hK _ ?_; clear hK K
    refine tr_ret ⟨.inr rfl, ?_⟩
    simp [go_sem, drB, hop, hp, hs]
  · simp [go_sem, hop, hp, hs, an12, an22, an32, an11, an21, an31]
    refine hK _ ?_; clear hK K
    refine tr_ret ⟨.inr rfl, ?_⟩
    simp [go_sem, drB, hop, hp, hs]
  · simp [go_sem, hop, hp, hs, an12, an22, an32, an11, an21, an31]
    refine hK _ ?_; clear hK K
    refine tr_ret ⟨.inr rfl, ?_⟩
    simp [go_sem, drB, hop, hp, hs]
  · simp [go_sem, hop, hp, hs, an12, an22, an32, an11, an21, an31]
    refine hK _ ?_; clear hK K
    refine tr_ret ⟨.inr rfl, ?_⟩
    simp [go_sem, drB, hop, hp, hs]
  · simp [go_sem, hop, hp, hs, an12, an22, an32, an11, an21, an31]
    refine hK _ ?_; clear hK K
    refine tr_ret ⟨.inr rfl, ?_⟩
    simp [go_sem, drB, hop, hp, hs]
  · simp [go_sem, hop, hp, hs, an12, an22, an32, an11, an21, an31]
    refine hK _ ?_; clear hK K
    refine tr_ret ⟨.inr rfl, ?_⟩
    simp [go_sem, drB, hop, hp, hs]
  · simp [go_sem, hop, hp, hs, an12, an22, an32, an11, an21, an31]
    refine hK _ ?_; clear hK K
    refine tr_ret ⟨.inr rfl, ?_⟩
    simp [go_sem, drB, hop, hp, hs]
  · simp [go_sem, hop, hp, hs, an12, an22, an32, an11, an21, an31]
    refine hK _ ?_; clear hK K
    refine tr_ret ⟨.inr rfl, ?_⟩
    simp [go_sem, drB, hop, hp, hs]
  · simp [go_sem, hop, hp, hs, an12, an22, an32, an11, an21, an31]
    refine hK _ ?_; clear hK K
    refine tr_ret ⟨.inr rfl, ?_⟩
    simp [go_sem, drB, hop, hp, hs]

theorem targ_pf (k : List Int) (hk : k.length = 112) (i : Nat) (hi : i < 4) (r : Bool) (n : Int) (hn : r = true → 0 ≤ n ∧ n < 8) : Pf Try.prog 118 [.rp (mV k) (i * 26), .agg [bV r, uV n]] (uV (aArg k i r n)) := by
  refine Pf.of_fn (.cons (.rp (nl_mV k)) (.cons (.agg (.cons (.val _) (.cons (.val _) .nil))) .nil)) (.val _) ?_
  refine fn_in T_ok func118 rfl rfl ntmps118 rfl (by simp) ?_
  refine region_k T_ok (by decide) fun K hK => ?_
  simp [go_sem]
  refine hK _ ?_; clear hK K
  refine seq_k fun K1 hK1 => ?_
  refine region_k T_ok (by decide) fun K hK => ?_
  simp [go_sem]
  refine hK _ ?_; clear hK K
  refine cond_k rfl (fun h => ?_) (fun h => ?_)
  · have hr : r = true := by simpa using h
    obtain ⟨h0, h8⟩ := hn hr
    obtain ⟨m, rfl⟩ : ∃ m : Nat, n = m := ⟨n.toNat, by omega⟩
    have hm : m < 8 := by omega
    have hmI : (m : Int) < 8 := by omega
    refine draw_k T_ok (by kernel_rfl) 5 [[], [], [1], [0], [0, 3], [0, 1, 2, 3, 4], [0, 1, 2, 3, 4, 5], [0, 1, 2, 3, 4, 5, 6]] [] (by decide) (by decide) (by decide) fun K hK => ?_
    first | dsimp only [List.take, List.drop] | dsimp [List.take, List.drop]
    simp [go_sem, hm, hmI, mV_112 hk, mV_reg hk hi hm]
    refine ⟨by omega, ?_⟩
    refine hK _ ?_; clear hK K
    refine tr_ret ⟨.inr rfl, ?_⟩
    simp [go_sem, aArg, hr]
  · have hr : r = false := by simpa using h
    refine tr_skip ?_
    refine hK1 _ ?_; try clear hK1 K1
    refine region_k T_ok (by decide) fun K hK => ?_
    simp [go_sem]
    refine hK _ ?_; clear hK K
    refine tr_ret ⟨.inr rfl, ?_⟩
    simp [go_sem, aArg, hr]

set_option maxHeartbeats 4000000 in
theorem look_pf (k : List Int) (hk : k.length = 112) (i : Nat) (hi : i < 4) (w : Nat) (hw : gt k (i * 26 + 1) = (w : Nat)) (hw8 : w ≤ 8) (hlo : ∀ s, s < 8 → 0 ≤ gt k (i * 26 + 10 + s * 2) ∧ gt k (i * 26 + 10 + s * 2) < 8) (x : Nat) (hx : x < 8) : Pf Try.prog 137 [.rp (mV k) 0, .rp (mV k) (i * 26), iV (x : Nat)] (uV (lookB k i (x : Nat) w)) := by
  refine Pf.of_fn (.cons (.rp (nl_mV k)) (.cons (.rp (nl_mV k)) (.cons (.val _) .nil))) (.val _) ?_
  have hwr : IntKind.i8.wrap ((w : Nat) - 1) = (w : Nat) - 1 := wrap_i8 (by omega) (by omega)
  have hxI : (x : Int) < 8 := by omega
  have hx0 : (0 : Int) ≤ (x : Nat) := by omega
  refine fn_in T_ok func137 rfl rfl ntmps137 rfl (by simp) ?_
  refine region_k T_ok (by decide) fun K hK => ?_
  simp [go_sem]
  refine hK _ ?_; clear hK K
  refine seq_k fun K1 hK1 => ?_
  refine region_k T_ok (by decide) fun K hK => ?_
  simp [go_sem, mV_112 hk, mV_wait hk hi, hw, hwr]
  refine ⟨by omega, ?_⟩
  refine hK _ ?_; clear hK K
  refine tr_block ?_
  refine loop_p (α := Nat) (fun n => ⟨40, [(0, .rp (mV k) 0), (1, .rp (mV k) (i * 26)), (2, iV (x : Nat)), (7, i8V ((n : Nat) - 1))], [], 0⟩) (fun n => n ≤ 8 ∧ lookB k i (x : Nat) n = lookB k i (x : Nat) w) (fun n => n) w ?_ ?_ ?_
  · exact ⟨hw8, rfl⟩
  · refine Weaker.fz 1 0 ?_ ?_ ?_
    · simp [go_sem]
    · first | (simp; done) | (simp; omega)
    · simp [go_sem]
  rintro n ⟨hn, hl⟩
  skip
  refine seq_k fun K2 hK2 => ?_
  refine region_k T_ok (by decide) fun K hK => ?_
  simp [go_sem]
  refine hK _ ?_; clear hK K
  refine cond_k rfl (fun h => ?_) (fun h => ?_)
  · simp at h
    have hn1 : 1 ≤ n := by omega
    clear h
    obtain ⟨m, rfl⟩ : ∃ m, n = m + 1 := ⟨n - 1, by omega⟩
    have hm : m < 8 := by omega
    have hmI : (m : Int) < 8 := by omega
    have hm0 : (0 : Int) ≤ (m : Nat) := by omega
    obtain ⟨l0, l8⟩ := hlo m hm
    have hwl : IntKind.i64.wrap (gt k (i * 26 + 10 + m * 2)) = gt k (i * 26 + 10 + m * 2) := wrap_i64 (by omega) (by omega)
    have hwm : IntKind.i8.wrap ((m : Nat) - 1) = (m : Nat) - 1 := wrap_i8 (by omega) (by omega)
    refine tr_skip ?_
    refine hK2 _ ?_; try clear hK2 K2
    refine seq_k fun K3 hK3 => ?_
    refine tr_block ?_
    refine region_k T_ok (by decide) fun K hK => ?_
    simp [go_sem, hm, hmI, mV_112 hk, mV_loc hk hi hm, hwl]
    trace_state
    refine ⟨by omega, ?_⟩
    refine hK _ ?_; clear hK K
    refine cond_k rfl (fun h => ?_) (fun h => ?_)
    · have he : gt k (i * 26 + 10 + m * 2) = (x : Nat) := by simpa using h
      refine region_k T_ok (by decide) fun K hK => ?_
      simp [go_sem, hm, hmI, mV_112 hk, mV_val hk hi hm]
      refine ⟨by omega, ?_⟩
      refine hK _ ?_; clear hK K
      refine tr_ret ⟨.inr rfl, ?_⟩
      simp [go_sem, ← hl, lookB, he]
    · have hne : ¬ gt k (i * 26 + 10 + m * 2) = (x : Nat) := by simpa using h
      refine tr_skip ?_
      refine hK3 _ ?_; try clear hK3 K3
      refine region_e T_ok (by decide) fun K hK => ?_
      simp [go_sem, hwm]
      refine hK _ ?_; clear hK K
      refine ⟨m, ?_, ?_, ?_⟩
      · exact ⟨by omega, by rw [← hl, lookB, if_neg hne]⟩
      · omega
      · refine Weaker.fz 1 0 ?_ ?_ ?_
        · simp [go_sem]
        · first | (simp; done) | (simp; omega)
        simp [go_sem]
  · simp at h
    obtain rfl : n = 0 := by omega
    clear h
    refine tr_exit ?_
    refine hK1 _ ?_; try clear hK1 K1
    refine region_k T_ok (by decide) fun K hK => ?_
    simp [go_sem, hx, hxI, mV_112 hk, mV_mem hk hx]
    refine ⟨by omega, ?_⟩
    refine hK _ ?_; clear hK K
    refine tr_ret ⟨.inr rfl, ?_⟩
    simp [go_sem, ← hl, lookB]

end Go.Proofs.Ytflooghnoljpcaa
/- The machine with store buffers: the walk of drain. -/
namespace Go.Proofs.Ytflooghnoljpcaa
open Go Go.Sl Go.Proofs.Try

set_option maxHeartbeats 4000000 in
set_option maxRecDepth 100000 in
theorem drain_fn (k : List Int) (hk : k.length = 112) (i : Nat) (hi : i < 4) (w : Nat) (hw : gt k (i * 26 + 1) = (w : Nat) + 1) (hw8 : w < 8) (hlo : 0 ≤ gt k (i * 26 + 10) ∧ gt k (i * 26 + 10) < 8) (r n : Nat) : Sl.Fn Try.prog 120 [.ptr r 0 0, iV (i : Nat)] [(r, .rows 112 [.agg (mV k)])] n fun v H _ => v = .tup [] ∧ H = [(r, .rows 112 [.agg (mV (drainT k i w))])] := by
  have hiI : (i : Int) < 4 := by omega
  have hi0 : (0 : Int) ≤ (i : Nat) := by omega
  obtain ⟨x, hx⟩ : ∃ x : Nat, gt k (i * 26 + 10) = x := ⟨(gt k (i * 26 + 10)).toNat, by omega⟩
  rw [hx] at hlo
  have hx8 : x < 8 := by omega
  have hxI : (x : Int) < 8 := by omega
  have h1 : k.set (104 + x) (gt k (i * 26 + 10 + 1)) = drain1 k i := by unfold drain1; rw [hx]; rfl
  have hl1 : (drain1 k i).length = 112 := by unfold drain1; rw [List.length_set, hk]
  have hl2 : (shiftB (drain1 k i) i).length = 112 := shiftB_len hl1 hi
  have hw2 : gt (shiftB (drain1 k i) i) (i * 26 + 1) = (w : Nat) + 1 := by
    rw [gt_shift hl1 hi, if_neg (by omega)]
    unfold drain1
    rw [gt_ne (by omega), hw]
  have h3 : (shiftB (drain1 k i) i).set (i * 26 + 1) (w : Nat) = drain3 k i w := rfl
  have hl3 : (drain3 k i w).length = 112 := by unfold drain3; rw [List.length_set, hl2]
  have hw3 : gt (drain3 k i w) (i * 26 + 1) = (w : Nat) := by unfold drain3; rw [gt_same (by omega)]
  have hww : IntKind.i8.wrap (w : Nat) = (w : Nat) := wrap_i8 (by omega) (by omega)
  have hwI : (w : Int) < 8 := by omega
  have hb : i * 26 ≤ 86 := by omega
  have hsh : putPart (.agg (mV (drain1 k i))) (i * 26 + 10) (.agg (((mV (drain1 k i)).drop (i * 26 + 10 + 2)).take 14)) = .agg (mV (shiftB (drain1 k i) i)) := putT_shift hl1 hi
  have h4 : ((drain3 k i w).set (i * 26 + 10 + w * 2) 0).set (i * 26 + 10 + w * 2 + 1) 0 = drainT k i w := rfl
  refine fn_in T_ok func120 rfl rfl ntmps120 rfl (by simp) ?_
  refine region_k T_ok (by decide) fun K hK => ?_
  simp [go_sem, hi, hiI, hi0]
  refine hK _ ?_; clear hK K
  refine draw_k T_ok (by kernel_rfl) 15 [[], [], [1], [1, 2], [1, 2, 3], [1, 2, 3, 4], [1, 2, 3, 4, 5], [], [7], [7, 8], [7, 8, 9], [7, 8, 9, 10], [7, 8, 9, 10, 11], [0], [0, 13], [0, 1, 2, 3, 4, 5, 6, 7, 8, 9, 10, 11, 12, 13, 14], [0, 1, 2, 3, 4, 5, 6, 7, 8, 9, 10, 11, 12, 13, 14, 15]] [] (by decide) (by decide) (by decide) fun K hK => ?_
  first | dsimp only [List.take, List.drop] | dsimp [List.take, List.drop]
  simp [go_sem, mV_112 hk, mV_loc0 hk hi, mV_val0 hk hi, hx, hx8, hxI, putT_mem hk hx8, h1]
  repeat refine ⟨by omega, ?_⟩
  refine hK _ ?_; clear hK K
  refine draw_k T_ok (by kernel_rfl) 8 [[], [0], [0, 1], [0, 1, 2], [], [4], [4, 5], [4, 5, 6], [0, 1, 2, 3, 4, 5, 6, 7]] [] (by decide) (by decide) (by decide) fun K hK => ?_
  first | dsimp only [List.take, List.drop] | dsimp [List.take, List.drop]
  simp [go_sem, mV_112 hl1, hb, hsh, List.take_take]
  repeat refine ⟨by omega, ?_⟩
  refine hK _ ?_; clear hK K
  refine region_k T_ok (by decide) fun K hK => ?_
  simp [go_sem, mV_112 hl2, mV_wait hl2 hi, hw2, hww, putT_wait hl2 hi, h3]
  repeat refine ⟨by omega, ?_⟩
  refine hK _ ?_; clear hK K
  refine draw_e T_ok (by kernel_rfl) 8 [[], [], [1], [1, 2], [1, 2, 3], [], [0], [0, 6], [0, 1, 2, 3, 4, 5, 6, 7], [0, 1, 2, 3, 4, 5, 6, 7, 8]] [] (by decide) (by decide) (by decide) fun K hK => ?_
  first | dsimp only [List.take, List.drop] | dsimp [List.take, List.drop]
  simp [go_sem, mV_112 hl3, mV_wait hl3 hi, hw3, hwI, putT_ent hl3 hi hw8, h4]
  repeat refine ⟨by omega, ?_⟩
  refine hK _ ?_; clear hK K
  refine ⟨.inl rfl, ?_⟩
  simp [go_sem]

end Go.Proofs.Ytflooghnoljpcaa
/- Flow: numbers, and what a walker knows of an argument. -/
namespace Go.Proofs.Ytflooghnoljpcaa
open Go Go.Sl Go.Proofs.Try

theorem n64_nonneg (a b : Int) : 0 ≤ n64 a b := by
  unfold n64
  rw [IntWalk.u64_in _ ⟨Int.natCast_nonneg _, by have := (BitVec.ofInt 64 a &&& BitVec.ofInt 64 b).isLt; omega⟩]
  exact Int.natCast_nonneg _

theorem left_pf (a b : Int) : Pf Try.prog 83 [uV a, uV b] (uV (sl64 a (n64 b 63))) := by
  refine Pf.of_fn (.cons (.val _) (.cons (.val _) .nil)) (.val _) ?_
  refine fn_in T_ok func83 rfl rfl ntmps83 rfl (by simp) ?_
  refine region_k T_ok (by decide) fun K hK => ?_
  simp [go_sem]
  refine hK _ ?_; clear hK K
  refine region_k T_ok (by decide) fun K hK => ?_
  simp [go_sem, n64_nonneg]
  refine hK _ ?_; clear hK K
  refine tr_ret ⟨.inr rfl, ?_⟩
  simp [go_sem]

theorem right_pf (a b : Int) : Pf Try.prog 84 [uV a, uV b] (uV (sr64 a (n64 b 63))) := by
  refine Pf.of_fn (.cons (.val _) (.cons (.val _) .nil)) (.val _) ?_
  refine fn_in T_ok func84 rfl rfl ntmps84 rfl (by simp) ?_
  refine region_k T_ok (by decide) fun K hK => ?_
  simp [go_sem]
  refine hK _ ?_; clear hK K
  refine region_k T_ok (by decide) fun K hK => ?_
  simp [go_sem, n64_nonneg]
  refine hK _ ?_; clear hK K
  refine tr_ret ⟨.inr rfl, ?_⟩
  simp [go_sem]

theorem reckon_pf (op a b : Int) : Pf Try.prog 52 [iV op, uV a, uV b] (uV (reck op a b)) := by
  refine Pf.of_fn (.cons (.val _) (.cons (.val _) (.cons (.val _) .nil))) (.val _) ?_
  refine fn_in T_ok func52 rfl rfl ntmps52 rfl (by simp) ?_
  refine region_k T_ok (by decide) fun K hK => ?_
  simp [go_sem]
  refine hK _ ?_; clear hK K
  refine seq_k fun K1 hK1 => ?_
  refine region_k T_ok (by decide) fun K hK => ?_
  simp [go_sem]
  refine hK _ ?_; clear hK K
  refine tr_block ?_
  refine region_k T_ok (by decide) fun K hK => ?_
  simp [go_sem]
  refine hK _ ?_; clear hK K
  refine cond_k rfl (fun h => ?_) (fun h => ?_)
  · have h2 : op = 2 := by simpa using h
    clear h
    refine region_k T_ok (by decide) fun K hK => ?_
    simp [go_sem]
    refine hK _ ?_; clear hK K
    refine tr_ret ⟨.inr rfl, ?_⟩
    simp [go_sem, reck, h2]
  · have h2 : ¬ op = 2 := by simpa using h
    clear h
    refine region_k T_ok (by decide) fun K hK => ?_
    simp [go_sem]
    refine hK _ ?_; clear hK K
    refine cond_k rfl (fun h => ?_) (fun h => ?_)
    · have h3 : op = 3 := by simpa using h
      clear h
      refine region_k T_ok (by decide) fun K hK => ?_
      simp [go_sem]
      refine hK _ ?_; clear hK K
      refine tr_ret ⟨.inr rfl, ?_⟩
      simp [go_sem, reck, h2, h3]
    · have h3 : ¬ op = 3 := by simpa using h
      clear h
      refine region_k T_ok (by decide) fun K hK => ?_
      simp [go_sem]
      refine hK _ ?_; clear hK K
      refine cond_k rfl (fun h => ?_) (fun h => ?_)
      · have h4 : op = 4 := by simpa using h
        clear h
        refine region_k T_ok (by decide) fun K hK => ?_
        simp [go_sem]
        refine hK _ ?_; clear hK K
        refine tr_ret ⟨.inr rfl, ?_⟩
        simp [go_sem, reck, h2, h3, h4]
      · have h4 : ¬ op = 4 := by simpa using h
        clear h
        refine region_k T_ok (by decide) fun K hK => ?_
        simp [go_sem]
        refine hK _ ?_; clear hK K
        refine cond_k rfl (fun h => ?_) (fun h => ?_)
        · have h5 : op = 5 := by simpa using h
          clear h
          refine region_k T_ok (by decide) fun K hK => ?_
          simp [go_sem]
          refine hK _ ?_; clear hK K
          refine tr_ret ⟨.inr rfl, ?_⟩
          simp [go_sem, reck, h2, h3, h4, h5]
        · have h5 : ¬ op = 5 := by simpa using h
          clear h
          refine region_k T_ok (by decide) fun K hK => ?_
          simp [go_sem]
          refine hK _ ?_; clear hK K
          refine cond_k rfl (fun h => ?_) (fun h => ?_)
          · have h6 : op = 6 := by simpa using h
            clear h
            refine region_k T_ok (by decide) fun K hK => ?_
            simp [go_sem]
            refine hK _ ?_; clear hK K
            refine tr_ret ⟨.inr rfl, ?_⟩
            simp [go_sem, reck, h2, h3, h4, h5, h6]
          · have h6 : ¬ op = 6 := by simpa using h
            clear h
            refine region_k T_ok (by decide) fun K hK => ?_
            simp [go_sem]
            refine hK _ ?_; clear hK K
            refine cond_k rfl (fun h => ?_) (fun h => ?_)
            · have h7 : op = 7 := by simpa using h
              clear h
              refine region_k T_ok (by decide) fun K hK => ?_
              simp [go_sem]
              refine call_pf (left_pf a b) ?_
              simp [go_sem]
              refine hK _ ?_; clear hK K
              refine tr_ret ⟨.inr rfl, ?_⟩
              simp [go_sem, reck, h2, h3, h4, h5, h6, h7]
            · have h7 : ¬ op = 7 := by simpa using h
              clear h
              refine tr_skip ?_
              refine hK1 _ ?_; try clear hK1 K1
              refine region_k T_ok (by decide) fun K hK => ?_
              simp [go_sem]
              refine call_pf (right_pf a b) ?_
              simp [go_sem]
              refine hK _ ?_; clear hK K
              refine tr_ret ⟨.inr rfl, ?_⟩
              simp [go_sem, reck, h2, h3, h4, h5, h6, h7]

theorem clean_pf (x : Vl) : Pf Try.prog 126 [.agg [bV x.k, uV x.v]] (.agg [bV (clean x).k, uV (clean x).v]) := by
  refine Pf.of_fn (.cons (.agg (.cons (.val _) (.cons (.val _) .nil))) .nil) (.agg (.cons (.val _) (.cons (.val _) .nil))) ?_
  refine fn_in T_ok func126 rfl rfl ntmps126 rfl (by simp) ?_
  refine region_k T_ok (by decide) fun K hK => ?_
  simp [go_sem]
  refine hK _ ?_; clear hK K
  refine seq_k fun K1 hK1 => ?_
  refine region_k T_ok (by decide) fun K hK => ?_
  simp [go_sem]
  refine hK _ ?_; clear hK K
  refine cond_k rfl (fun h => ?_) (fun h => ?_)
  · have hk : x.k = false := by simpa using h
    clear h
    refine region_k T_ok (by decide) fun K hK => ?_
    simp [go_sem]
    refine hK _ ?_; clear hK K
    refine tr_ret ⟨.inr rfl, ?_⟩
    simp [go_sem, clean, hk]
  · have hk : x.k = true := by simpa using h
    clear h
    refine tr_skip ?_
    refine hK1 _ ?_; try clear hK1 K1
    refine region_k T_ok (by decide) fun K hK => ?_
    simp [go_sem]
    refine hK _ ?_; clear hK K
    refine tr_ret ⟨.inr rfl, ?_⟩
    simp [go_sem, clean, hk]

theorem sum_pf (x y : Vl) : Pf Try.prog 127 [.agg [bV x.k, uV x.v], .agg [bV y.k, uV y.v]] (.agg [bV (vsum x y).k, uV (vsum x y).v]) := by
  refine Pf.of_fn (.cons (.agg (.cons (.val _) (.cons (.val _) .nil))) (.cons (.agg (.cons (.val _) (.cons (.val _) .nil))) .nil)) (.agg (.cons (.val _) (.cons (.val _) .nil))) ?_
  refine fn_in T_ok func127 rfl rfl ntmps127 rfl (by simp) ?_
  refine region_k T_ok (by decide) fun K hK => ?_
  simp [go_sem]
  refine hK _ ?_; clear hK K
  refine region_k T_ok (by decide) fun K hK => ?_
  cases hx : x.k
  · simp [go_sem, hx]
    refine hK _ ?_; clear hK K
    refine tr_ret ⟨.inr rfl, ?_⟩
    simp [go_sem, vsum, hx]
  · simp [go_sem, hx]
    refine hK _ ?_; clear hK K
    refine tr_ret ⟨.inr rfl, ?_⟩
    simp [go_sem, vsum, hx]

theorem arg_fn (w k : Nat) (hw : w < k) (f : V) (x : Wk) (r : Bool) (n : Int) (hr : r = true → 0 ≤ n ∧ n < 8) : Sl.Fn Try.prog 124 [.ptr w 0 0, .agg [bV r, uV n]] [(w, .rows 29 [.agg (wkC f x)])] k fun v H _ => v = .tup [.agg [bV (argW x r n).k, uV (argW x r n).v], uV (argH x r n)] ∧ H = [(w, .rows 29 [.agg (wkC f x)])] := by
  refine Sl.Fn.keep (by simp) ?_
  have e0 : ¬ w = k := by omega
  have q0 : ¬ k = w := by omega
  have e2 : ¬ w = k + 1 := by omega
  have q2 : ¬ k + 1 = w := by omega
  refine fn_in T_ok func124 rfl rfl ntmps124 rfl (by simp) ?_
  refine region_k T_ok (by decide) fun K hK => ?_
  simp [go_sem]
  refine hK _ ?_; clear hK K
  refine seq_k fun K1 hK1 => ?_
  refine region_k T_ok (by decide) fun K hK => ?_
  simp [go_sem]
  refine hK _ ?_; clear hK K
  refine cond_k rfl (fun h => ?_) (fun h => ?_)
  · obtain ⟨n0, n8⟩ := hr h
    have n8' : n.toNat < 8 := by omega
    have n17 : 17 + n.toNat + 1 ≤ 29 := by omega
    have n16 : 1 + n.toNat * 2 + 2 ≤ 29 := by omega
    refine draw_k T_ok (by kernel_rfl) 15 [[], [], [1], [0], [0, 3], [0, 1, 2, 3, 4], [0, 1, 2, 3, 4, 5], [], [], [8], [7], [7, 10], [7, 8, 9, 10, 11], [7, 8, 9, 10, 11, 12], [0, 1, 2, 3, 4, 5, 6], [0, 1, 2, 3, 4, 5, 6, 7, 8, 9, 10, 11, 12, 13, 14]] [(7, 14), (8, 14), (9, 14), (10, 14), (11, 14), (12, 14), (13, 14)] (by decide) (by decide) (by decide) fun K hK => ?_
    first | dsimp only [List.take, List.drop] | dsimp [List.take, List.drop]
    simp [go_sem, n0, n8, n8', n17, n16, e0, q0, e2, q2]
    refine ⟨by omega, ?_⟩
    refine hK _ ?_; clear hK K
    refine tr_ret ⟨.inr rfl, ?_⟩
    simp [go_sem, argW, argH, h, e0, q0, e2, q2]
  · have hr0 := h
    refine tr_skip ?_
    refine hK1 _ ?_; try clear hK1 K1
    refine region_k T_ok (by decide) fun K hK => ?_
    simp [go_sem]
    refine hK _ ?_; clear hK K
    refine tr_ret ⟨.inr rfl, ?_⟩
    simp [go_sem, argW, argH, h, e0, q0, e2, q2]

theorem set_fn (w k : Nat) (hw : w < k) (f : V) (hf : f.one = true) (x : Wk) (rd : Int) (h0 : 0 ≤ rd) (h8 : rd < 8) (v : Vl) (on : Int) : Sl.Fn Try.prog 125 [.ptr w 0 0, iV rd, .agg [bV v.k, uV v.v], uV on] [(w, .rows 29 [.agg (wkC f x)])] k fun r H _ => r = .tup [] ∧ H = [(w, .rows 29 [.agg (wkC f (setW x rd v on))])] := by
  refine Sl.Fn.keep (by simp) ?_
  have h8' : rd.toNat < 8 := by omega
  have h17 : 17 + rd.toNat + 1 ≤ 29 := by omega
  have h16 : 1 + rd.toNat * 2 + 2 ≤ 29 := by omega
  have e0 : ¬ w = k := by omega
  have q0 : ¬ k = w := by omega
  have e2 : ¬ w = k + 1 := by omega
  have q2 : ¬ k + 1 = w := by omega
  refine fn_in T_ok func125 rfl rfl ntmps125 rfl (by simp) ?_
  refine region_k T_ok (by decide) fun K hK => ?_
  simp [go_sem]
  refine hK _ ?_; clear hK K
  refine draw_e T_ok (by kernel_rfl) 13 [[], [], [], [], [], [4], [], [0], [0, 7], [0, 1, 4, 5, 7, 8], [0, 1, 4, 5, 7, 8, 9], [2], [2, 11], [0, 1, 2, 3, 4, 5, 6, 7, 8, 9, 10, 11, 12], [0, 1, 2, 3, 4, 5, 6, 7, 8, 9, 10, 11, 12, 13]] [(2, 10), (3, 10), (6, 10), (10, 11), (10, 12)] (by decide) (by decide) (by decide) fun K hK => ?_
  first | dsimp only [List.take, List.drop] | dsimp [List.take, List.drop]
  simp [go_sem, h0, h8, h8', h17, h16, hf, e0, q0, e2, q2]
  refine callD_of (clean_pf v) ?_
  simp [go_sem, h0, h8, h8', h17, h16, hf, e0, q0, e2, q2]
  refine hK _ ?_; clear hK K
  refine ⟨.inl rfl, ?_⟩
  simp [go_sem, setW, e0, q0, e2, q2]

end Go.Proofs.Ytflooghnoljpcaa
/- The machine with store buffers: the walk of local. -/
namespace Go.Proofs.Ytflooghnoljpcaa
open Go Go.Sl Go.Proofs.Try
theorem memdr (x : Ins) : memB x.op = true ∨ (memB x.op = false ∧ drB x = false) ∨ (memB x.op = false ∧ drB x = true) := by cases memB x.op <;> cases drB x <;> simp

set_option maxHeartbeats 8000000 in
set_option maxRecDepth 100000 in
theorem local_fn (t : Tst) (i : Nat) (hi : i < 4) (l : List Ins) (hx : t.ths[i]? = some l) (hl : ThrOk l) (k : List Int) (hk : k.length = 112) (p0 : Nat) (hp0 : gt k (i * 26) = (p0 : Nat)) (hpl : p0 ≤ l.length) (r n : Nat) (hr : r ≠ 2) (hrn : r < n) (h2n : 2 < n) : Sl.Fn Try.prog 100 [.ptr 2 0 0, .ptr r 0 (i * 26), iV (i : Nat)] [(2, .rows 3 [.agg [.rp t.cs 0, .map 0, .map 1]]), (r, .rows 112 [.agg (mV k)])] n fun v H _ => v = .tup [] ∧ H = [(2, .rows 3 [.agg [.rp t.cs 0, .map 0, .map 1]]), (r, .rows 112 [.agg (mV (locT l i (l.length + 1) k))])] := by
  have nn50 : ¬ r = 2 := by omega
  have mm50 : ¬ 2 = r := by omega
  have hil : i < t.ths.length := (List.getElem?_eq_some_iff.1 hx).1
  have hiI : (i : Int) < (t.ths.length : Nat) := by omega
  have hi0 : (0 : Int) ≤ (i : Nat) := by omega
  have hx' : t.ths[i] = l := (List.getElem?_eq_some_iff.1 hx).2
  have hl8 := hl.1
  refine fn_in T_ok func100 rfl rfl ntmps100 rfl (by simp) ?_
  refine region_k T_ok (by decide) fun K hK => ?_
  simp [go_sem, hiI, hi0, hil, hx, hx', Tst.cs, nn50, mm50]
  refine hK _ ?_; clear hK K
  refine tr_block ?_
  refine loop_p (α := List Int × Nat × Nat × Nat) (fun a => ⟨117, [(0, .ptr 2 0 0), (1, .ptr r 0 (i * 26)), (2, iV (i : Nat)), (6, .ro 13 (inss l))], [(2, .rows 3 [.agg [.rp t.cs 0, .map 0, .map 1]]), (r, .rows 112 [.agg (mV a.1)])], a.2.2.2⟩) (fun a => a.1.length = 112 ∧ gt a.1 (i * 26) = (a.2.1 : Nat) ∧ a.2.1 ≤ l.length ∧ l.length < a.2.1 + a.2.2.1 ∧ locT l i a.2.2.1 a.1 = locT l i (l.length + 1) k ∧ r < a.2.2.2 ∧ 2 < a.2.2.2) (fun a => a.2.2.1) (k, p0, l.length + 1, n) ?_ ?_ ?_
  · exact ⟨hk, hp0, hpl, by dsimp only; omega, rfl, hrn, h2n⟩
  · refine Weaker.fzk 1 0 (by first | omega | (dsimp only; omega)) ?_ ?_ ?_
    · simp [go_sem, nn50, mm50]
    · first | (simp; done) | (simp; omega)
    · simp [go_sem, Tst.cs, nn50, mm50]
  rintro ⟨q, p, e, j⟩ ⟨hq, hp, hpl, hpe, hlt, hrj, h2j⟩
  dsimp only at hq hp hpl hpe hlt hrj h2j ⊢
  have nn0 : ¬ r = j := by omega
  have mm0 : ¬ j = r := by omega
  have nn1 : ¬ 2 = j := by omega
  have mm1 : ¬ j = 2 := by omega
  have hw64 : IntKind.i64.wrap (p : Nat) = (p : Nat) := wrap_i64 (by omega) (by omega)
  refine seq_k fun K1 hK1 => ?_
  refine region_k T_ok (by decide) fun K hK => ?_
  simp [go_sem, mV_112 hq, mV_pc hq hi, mV_wait hq hi, hp, nn50, mm50, nn0, mm0, nn1, mm1, hw64]
  repeat refine ⟨by omega, ?_⟩
  refine hK _ ?_; clear hK K
  refine cond_k rfl (fun h => ?_) (fun h => ?_)
  · simp at h
    have hpI : (p : Int) < (l.length : Nat) := by omega
    have hpn : p < l.length := by omega
    clear h
    obtain ⟨x, hg, hg'⟩ := getAt hpn
    have hok := hl.2 p x hg
    obtain ⟨d, hd⟩ : ∃ d : Nat, x.rd = d := ⟨x.rd.toNat, by have := hok.rd0; omega⟩
    have hd8 : d < 8 := by have := hok.rd8; omega
    have hdI : (d : Int) < 8 := by omega
    have hp00 : (0 : Int) ≤ (p : Nat) := by omega
    obtain ⟨e, rfl⟩ : ∃ e2, e = e2 + 1 := ⟨e - 1, by omega⟩
    refine tr_skip ?_
    refine hK1 _ ?_; try clear hK1 K1
    refine tr_block ?_
    refine region_k T_ok (by decide) fun K hK => ?_
    simp [go_sem, insC, nn50, mm50, nn0, mm0, nn1, mm1, mV_112 hq, mV_pc hq hi, mV_wait hq hi, hp, nn50, mm50, nn0, mm0, nn1, mm1, hd, hd8, hdI, hpI, hp00, hpn, hg, hg']
    repeat refine ⟨by omega, ?_⟩
    refine hK _ ?_; clear hK K
    refine seq_ex (fun u : Unit => ⟨117, [(0, .ptr 2 0 0), (1, .ptr r 0 (i * 26)), (2, iV (i : Nat)), (6, .ro 13 (inss l))], [(2, .rows 3 [.agg [.rp t.cs 0, .map 0, .map 1]]), (r, .rows 112 [.agg (mV (lstT x i q))])], j + 60⟩) (fun u : Unit => stopT x i q = false) ?_ ?_
    · skip
      refine tr_block ?_
      refine region_k T_ok (by decide) fun K hK => ?_
      simp [go_sem, insC, nn50, mm50, nn0, mm0, nn1, mm1]
      refine call_pf (ismem_pf x) ?_
      rcases memdr x with hm | ⟨hm, hd2⟩ | ⟨hm, hd2⟩
      · simp [go_sem, hm, insC, nn50, mm50, nn0, mm0, nn1, mm1]
        refine hK _ ?_; clear hK K
        refine cond_k rfl (fun h => ?_) (fun h => ?_)
        · clear h
          have hs : stopT x i q = true := by simp [stopT, hm]
          refine Tr.weaken (Weaker.del j) ?_
          refine tr_ret ⟨.inr rfl, ?_⟩
          have hq9 : locT l i (e + 1) q = q := by rw [locT, hp, Int.toNat_natCast, hg]; simp only [hs, if_true]
          rw [← hlt, hq9]
          simp [go_sem, Sl.del, nn50, mm50, nn0, mm0, nn1, mm1]
        · simp at h
      · simp [go_sem, hm, insC, nn50, mm50, nn0, mm0, nn1, mm1]
        refine call_pf (drains_pf x hok.fence) ?_
        simp [go_sem, hm, hd2, insC, nn50, mm50, nn0, mm0, nn1, mm1]
        refine hK _ ?_; clear hK K
        refine cond_k rfl (fun h => ?_) (fun h => ?_)
        · simp at h
        · clear h
          have hns : stopT x i q = false := by simp [stopT, hm, hd2]
          refine region_k T_ok (by decide) fun K hK => ?_
          simp [go_sem, insC, nn50, mm50, nn0, mm0, nn1, mm1]
          refine hK _ ?_; clear hK K
          refine cond_k rfl (fun h => ?_) (fun h => ?_)
          · have h1 : x.op = 1 := by simpa using h
            refine draw_e T_ok (by kernel_rfl) 8 [[], [], [1], [], [3], [3, 4], [0], [0, 6], [0, 1, 2, 3, 4, 5, 6, 7], [0, 1, 2, 3, 4, 5, 6, 7, 8]] [] (by decide) (by decide) (by decide) fun K hK => ?_
            first | dsimp only [List.take, List.drop] | dsimp [List.take, List.drop]
            simp [go_sem, insC, nn50, mm50, nn0, mm0, nn1, mm1, mV_112 hq, mV_pc hq hi, mV_wait hq hi, hp, nn50, mm50, nn0, mm0, nn1, mm1, hd, hd8, hdI, putT_reg hq hi hd8]
            repeat refine ⟨by omega, ?_⟩
            have hls : lstT x i q = q.set (i * 26 + 2 + d) x.aN := by unfold lstT; rw [if_pos h1, hd]; rfl
            refine hK _ ?_; clear hK K
            refine ⟨(), hns, ?_⟩
            refine Weaker.fzk 1 0 (by omega) ?_ ?_ ?_
            · simp [go_sem, hls, nn50, mm50, nn0, mm0, nn1, mm1]
            · first | (simp; done) | (simp; omega)
            · simp [go_sem, hls, nn50, mm50, nn0, mm0, nn1, mm1]
          · have h1 : ¬ x.op = 1 := by simpa using h
            refine region_k T_ok (by decide) fun K hK => ?_
            simp [go_sem, insC, nn50, mm50, nn0, mm0, nn1, mm1]
            refine hK _ ?_; clear hK K
            refine cond_k rfl (fun h => ?_) (fun h => ?_)
            · have h2 : x.op < 9 := by simpa using h
              refine draw_e T_ok (by kernel_rfl) 16 [[], [], [1], [], [3], [], [], [6], [5, 6, 7], [], [], [10], [5, 6, 7, 8, 9, 10, 11], [3, 4, 5, 6, 7, 8, 9, 10, 11, 12], [0], [0, 14], [0, 1, 2, 3, 4, 5, 6, 7, 8, 9, 10, 11, 12, 13, 14, 15], [0, 1, 2, 3, 4, 5, 6, 7, 8, 9, 10, 11, 12, 13, 14, 15, 16]] [] (by decide) (by decide) (by decide) fun K hK => ?_
              first | dsimp only [List.take, List.drop] | dsimp [List.take, List.drop]
              simp [go_sem, insC, nn50, mm50, nn0, mm0, nn1, mm1, mV_112 hq, mV_pc hq hi, mV_wait hq hi, hp, nn50, mm50, nn0, mm0, nn1, mm1, hd, hd8, hdI]
              refine callD_lend (targ_pf q hq i hi x.aR x.aN hok.a) 1 (by simp [go_sem, mV_frz, nn50, mm50, nn0, mm0, nn1, mm1]) ?_
              simp [go_sem, insC, nn50, mm50, nn0, mm0, nn1, mm1, mV_112 hq, mV_pc hq hi, mV_wait hq hi, hp, nn50, mm50, nn0, mm0, nn1, mm1, hd, hd8, hdI]
              refine callD_lend (targ_pf q hq i hi x.bR x.bN hok.b) 1 (by simp [go_sem, mV_frz, nn50, mm50, nn0, mm0, nn1, mm1]) ?_
              simp [go_sem, insC, nn50, mm50, nn0, mm0, nn1, mm1, mV_112 hq, mV_pc hq hi, mV_wait hq hi, hp, nn50, mm50, nn0, mm0, nn1, mm1, hd, hd8, hdI]
              refine callD_of (reckon_pf x.op _ _) ?_
              simp [go_sem, putT_reg hq hi hd8, insC, nn50, mm50, nn0, mm0, nn1, mm1, mV_112 hq, mV_pc hq hi, mV_wait hq hi, hp, nn50, mm50, nn0, mm0, nn1, mm1, hd, hd8, hdI]
              repeat refine ⟨by omega, ?_⟩
              have hls : lstT x i q = q.set (i * 26 + 2 + d) (reck x.op (aArg q i x.aR x.aN) (aArg q i x.bR x.bN)) := by unfold lstT; rw [if_neg h1, if_pos h2, hd]; rfl
              refine hK _ ?_; clear hK K
              refine ⟨(), hns, ?_⟩
              refine Weaker.fzk 1 0 (by omega) ?_ ?_ ?_
              · simp [go_sem, hls, nn50, mm50, nn0, mm0, nn1, mm1]
              · first | (simp; done) | (simp; omega)
              · simp [go_sem, hls, nn50, mm50, nn0, mm0, nn1, mm1]
            · have h2 : ¬ x.op < 9 := by simpa using h
              refine draw_k T_ok (by kernel_rfl) 16 [[], [0], [0, 1], [0, 1, 2], [0, 1, 2, 3], [0, 1, 2, 3], [0, 1, 2, 3, 5], [0, 1, 2, 3, 4, 5, 6], [0, 1, 2, 3], [0, 1, 2, 3], [0, 1, 2, 3, 9], [0, 1, 2, 3, 4, 5, 6, 7, 8, 9, 10], [0, 1, 2, 3, 4, 5, 6, 7, 8, 9, 10, 11], [0, 1, 2, 3], [0, 1, 2, 3, 13], [0, 1, 2, 3, 13, 14], [0, 1, 2, 3, 4, 5, 6, 7, 8, 9, 10, 11, 12, 13, 14, 15], [0, 1, 2, 3, 4, 5, 6, 7, 8, 9, 10, 11, 12, 13, 14, 15, 16], [0, 1, 2, 3, 4, 5, 6, 7, 8, 9, 10, 11, 12, 13, 14, 15, 16, 17]] [] (by decide) (by decide) (by decide) fun K hK => ?_
              first | dsimp only [List.take, List.drop] | dsimp [List.take, List.drop]
              rcases Nat.lt_or_ge 15 x.op.toNat with h3 | h3
              · have h3I : 15 < x.op := by omega
                simp [go_sem, h3I, insC, nn50, mm50, nn0, mm0, nn1, mm1, mV_112 hq, mV_pc hq hi, mV_wait hq hi, hp, nn50, mm50, nn0, mm0, nn1, mm1, hd, hd8, hdI]
                refine callD_lend (targ_pf q hq i hi x.aR x.aN hok.a) 1 (by simp [go_sem, mV_frz, nn50, mm50, nn0, mm0, nn1, mm1]) ?_
                simp [go_sem, h3I, insC, nn50, mm50, nn0, mm0, nn1, mm1, mV_112 hq, mV_pc hq hi, mV_wait hq hi, hp, nn50, mm50, nn0, mm0, nn1, mm1, hd, hd8, hdI]
                refine callD_lend (targ_pf q hq i hi x.bR x.bN hok.b) 1 (by simp [go_sem, mV_frz, nn50, mm50, nn0, mm0, nn1, mm1]) ?_
                simp [go_sem, h3I, insC, nn50, mm50, nn0, mm0, nn1, mm1, mV_112 hq, mV_pc hq hi, mV_wait hq hi, hp, nn50, mm50, nn0, mm0, nn1, mm1, hd, hd8, hdI]
                refine hK _ ?_; clear hK K
                refine cond_k rfl (fun h => ?_) (fun h => ?_)
                · have hb : brT q i x = true := by simpa [brT, h3I, int_beq, decide_eq_decide] using h
                  have hs1 := hok.skip
                  have hs0 := hok.skip0
                  have hsk : IntKind.i8.wrap x.skip = x.skip := wrap_i8 (by omega) (by omega)
                  have hskp : IntKind.i8.wrap ((p : Int) + x.skip) = (p : Int) + x.skip := wrap_i8 (by omega) (by omega)
                  refine draw_e T_ok (by kernel_rfl) 7 [[], [0], [0, 1], [0, 1, 2], [], [4], [4, 5], [0, 1, 2, 3, 4, 5, 6], [0, 1, 2, 3, 4, 5, 6, 7], [0, 1, 2, 3, 4, 5, 6, 7, 8], [0, 1, 2, 3, 4, 5, 6, 7, 8, 9]] [] (by decide) (by decide) (by decide) fun K hK => ?_
                  first | dsimp only [List.take, List.drop] | dsimp [List.take, List.drop]
                  simp [go_sem, insC, nn50, mm50, nn0, mm0, nn1, mm1, mV_112 hq, mV_pc hq hi, mV_wait hq hi, hp, nn50, mm50, nn0, mm0, nn1, mm1, hd, hd8, hdI, hsk, hskp, putT_pc hq hi]
                  repeat refine ⟨by omega, ?_⟩
                  have hls : lstT x i q = q.set (i * 26) ((p : Int) + x.skip) := by unfold lstT; rw [if_neg h1, if_neg h2, if_pos hb, hp]
                  refine hK _ ?_; clear hK K
                  refine ⟨(), hns, ?_⟩
                  refine Weaker.fzk 1 0 (by omega) ?_ ?_ ?_
                  · simp [go_sem, hls, nn50, mm50, nn0, mm0, nn1, mm1]
                  · first | (simp; done) | (simp; omega)
                  · simp [go_sem, hls, nn50, mm50, nn0, mm0, nn1, mm1]
                · have hb : brT q i x = false := by simpa [brT, h3I, int_beq, decide_eq_decide] using h
                  have hls : lstT x i q = q := by unfold lstT; rw [if_neg h1, if_neg h2, hb]; rfl
                  refine tr_skip ?_
                  refine ⟨(), hns, ?_⟩
                  refine Weaker.fzk 1 0 (by omega) ?_ ?_ ?_
                  · simp [go_sem, hls, nn50, mm50, nn0, mm0, nn1, mm1]
                  · first | (simp; done) | (simp; omega)
                  · simp [go_sem, hls, nn50, mm50, nn0, mm0, nn1, mm1]
              · have h3I : ¬ 15 < x.op := by omega
                simp [go_sem, h3I, insC, nn50, mm50, nn0, mm0, nn1, mm1, mV_112 hq, mV_pc hq hi, mV_wait hq hi, hp, nn50, mm50, nn0, mm0, nn1, mm1, hd, hd8, hdI]
                refine hK _ ?_; clear hK K
                refine cond_k rfl (fun h => ?_) (fun h => ?_)
                · simp at h
                · clear h
                  have hb : brT q i x = false := by simp [brT, h3I]
                  have hls : lstT x i q = q := by unfold lstT; rw [if_neg h1, if_neg h2, hb]; rfl
                  refine tr_skip ?_
                  refine ⟨(), hns, ?_⟩
                  refine Weaker.fzk 1 0 (by omega) ?_ ?_ ?_
                  · simp [go_sem, hls, nn50, mm50, nn0, mm0, nn1, mm1]
                  · first | (simp; done) | (simp; omega)
                  · simp [go_sem, hls, nn50, mm50, nn0, mm0, nn1, mm1]
      · simp [go_sem, hm, insC, nn50, mm50, nn0, mm0, nn1, mm1]
        refine call_pf (drains_pf x hok.fence) ?_
        simp [go_sem, hm, hd2, insC, nn50, mm50, nn0, mm0, nn1, mm1, mV_112 hq, mV_pc hq hi, mV_wait hq hi, hp, nn50, mm50, nn0, mm0, nn1, mm1]
        repeat refine ⟨by omega, ?_⟩
        refine hK _ ?_; clear hK K
        refine cond_k rfl (fun h => ?_) (fun h => ?_)
        · have hs : stopT x i q = true := by simpa [stopT, hm, hd2] using h
          refine Tr.weaken (Weaker.del j) ?_
          refine tr_ret ⟨.inr rfl, ?_⟩
          have hq9 : locT l i (e + 1) q = q := by rw [locT, hp, Int.toNat_natCast, hg]; simp only [hs, if_true]
          rw [← hlt, hq9]
          simp [go_sem, Sl.del, nn50, mm50, nn0, mm0, nn1, mm1]
        · have hns : stopT x i q = false := by simpa [stopT, hm, hd2] using h
          refine region_k T_ok (by decide) fun K hK => ?_
          simp [go_sem, insC, nn50, mm50, nn0, mm0, nn1, mm1]
          refine hK _ ?_; clear hK K
          refine cond_k rfl (fun h => ?_) (fun h => ?_)
          · have h1 : x.op = 1 := by simpa using h
            refine draw_e T_ok (by kernel_rfl) 8 [[], [], [1], [], [3], [3, 4], [0], [0, 6], [0, 1, 2, 3, 4, 5, 6, 7], [0, 1, 2, 3, 4, 5, 6, 7, 8]] [] (by decide) (by decide) (by decide) fun K hK => ?_
            first | dsimp only [List.take, List.drop] | dsimp [List.take, List.drop]
            simp [go_sem, insC, nn50, mm50, nn0, mm0, nn1, mm1, mV_112 hq, mV_pc hq hi, mV_wait hq hi, hp, nn50, mm50, nn0, mm0, nn1, mm1, hd, hd8, hdI, putT_reg hq hi hd8]
            repeat refine ⟨by omega, ?_⟩
            have hls : lstT x i q = q.set (i * 26 + 2 + d) x.aN := by unfold lstT; rw [if_pos h1, hd]; rfl
            refine hK _ ?_; clear hK K
            refine ⟨(), hns, ?_⟩
            refine Weaker.fzk 1 0 (by omega) ?_ ?_ ?_
            · simp [go_sem, hls, nn50, mm50, nn0, mm0, nn1, mm1]
            · first | (simp; done) | (simp; omega)
            · simp [go_sem, hls, nn50, mm50, nn0, mm0, nn1, mm1]
          · have h1 : ¬ x.op = 1 := by simpa using h
            refine region_k T_ok (by decide) fun K hK => ?_
            simp [go_sem, insC, nn50, mm50, nn0, mm0, nn1, mm1]
            refine hK _ ?_; clear hK K
            refine cond_k rfl (fun h => ?_) (fun h => ?_)
            · have h2 : x.op < 9 := by simpa using h
              refine draw_e T_ok (by kernel_rfl) 16 [[], [], [1], [], [3], [], [], [6], [5, 6, 7], [], [], [10], [5, 6, 7, 8, 9, 10, 11], [3, 4, 5, 6, 7, 8, 9, 10, 11, 12], [0], [0, 14], [0, 1, 2, 3, 4, 5, 6, 7, 8, 9, 10, 11, 12, 13, 14, 15], [0, 1, 2, 3, 4, 5, 6, 7, 8, 9, 10, 11, 12, 13, 14, 15, 16]] [] (by decide) (by decide) (by decide) fun K hK => ?_
              first | dsimp only [List.take, List.drop] | dsimp [List.take, List.drop]
              simp [go_sem, insC, nn50, mm50, nn0, mm0, nn1, mm1, mV_112 hq, mV_pc hq hi, mV_wait hq hi, hp, nn50, mm50, nn0, mm0, nn1, mm1, hd, hd8, hdI]
              refine callD_lend (targ_pf q hq i hi x.aR x.aN hok.a) 1 (by simp [go_sem, mV_frz, nn50, mm50, nn0, mm0, nn1, mm1]) ?_
              simp [go_sem, insC, nn50, mm50, nn0, mm0, nn1, mm1, mV_112 hq, mV_pc hq hi, mV_wait hq hi, hp, nn50, mm50, nn0, mm0, nn1, mm1, hd, hd8, hdI]
              refine callD_lend (targ_pf q hq i hi x.bR x.bN hok.b) 1 (by simp [go_sem, mV_frz, nn50, mm50, nn0, mm0, nn1, mm1]) ?_
              simp [go_sem, insC, nn50, mm50, nn0, mm0, nn1, mm1, mV_112 hq, mV_pc hq hi, mV_wait hq hi, hp, nn50, mm50, nn0, mm0, nn1, mm1, hd, hd8, hdI]
              refine callD_of (reckon_pf x.op _ _) ?_
              simp [go_sem, putT_reg hq hi hd8, insC, nn50, mm50, nn0, mm0, nn1, mm1, mV_112 hq, mV_pc hq hi, mV_wait hq hi, hp, nn50, mm50, nn0, mm0, nn1, mm1, hd, hd8, hdI]
              repeat refine ⟨by omega, ?_⟩
              have hls : lstT x i q = q.set (i * 26 + 2 + d) (reck x.op (aArg q i x.aR x.aN) (aArg q i x.bR x.bN)) := by unfold lstT; rw [if_neg h1, if_pos h2, hd]; rfl
              refine hK _ ?_; clear hK K
              refine ⟨(), hns, ?_⟩
              refine Weaker.fzk 1 0 (by omega) ?_ ?_ ?_
              · simp [go_sem, hls, nn50, mm50, nn0, mm0, nn1, mm1]
              · first | (simp; done) | (simp; omega)
              · simp [go_sem, hls, nn50, mm50, nn0, mm0, nn1, mm1]
            · have h2 : ¬ x.op < 9 := by simpa using h
              refine draw_k T_ok (by kernel_rfl) 16 [[], [0], [0, 1], [0, 1, 2], [0, 1, 2, 3], [0, 1, 2, 3], [0, 1, 2, 3, 5], [0, 1, 2, 3, 4, 5, 6], [0, 1, 2, 3], [0, 1, 2, 3], [0, 1, 2, 3, 9], [0, 1, 2, 3, 4, 5, 6, 7, 8, 9, 10], [0, 1, 2, 3, 4, 5, 6, 7, 8, 9, 10, 11], [0, 1, 2, 3], [0, 1, 2, 3, 13], [0, 1, 2, 3, 13, 14], [0, 1, 2, 3, 4, 5, 6, 7, 8, 9, 10, 11, 12, 13, 14, 15], [0, 1, 2, 3, 4, 5, 6, 7, 8, 9, 10, 11, 12, 13, 14, 15, 16], [0, 1, 2, 3, 4, 5, 6, 7, 8, 9, 10, 11, 12, 13, 14, 15, 16, 17]] [] (by decide) (by decide) (by decide) fun K hK => ?_
              first | dsimp only [List.take, List.drop] | dsimp [List.take, List.drop]
              rcases Nat.lt_or_ge 15 x.op.toNat with h3 | h3
              · have h3I : 15 < x.op := by omega
                simp [go_sem, h3I, insC, nn50, mm50, nn0, mm0, nn1, mm1, mV_112 hq, mV_pc hq hi, mV_wait hq hi, hp, nn50, mm50, nn0, mm0, nn1, mm1, hd, hd8, hdI]
                refine callD_lend (targ_pf q hq i hi x.aR x.aN hok.a) 1 (by simp [go_sem, mV_frz, nn50, mm50, nn0, mm0, nn1, mm1]) ?_
                simp [go_sem, h3I, insC, nn50, mm50, nn0, mm0, nn1, mm1, mV_112 hq, mV_pc hq hi, mV_wait hq hi, hp, nn50, mm50, nn0, mm0, nn1, mm1, hd, hd8, hdI]
                refine callD_lend (targ_pf q hq i hi x.bR x.bN hok.b) 1 (by simp [go_sem, mV_frz, nn50, mm50, nn0, mm0, nn1, mm1]) ?_
                simp [go_sem, h3I, insC, nn50, mm50, nn0, mm0, nn1, mm1, mV_112 hq, mV_pc hq hi, mV_wait hq hi, hp, nn50, mm50, nn0, mm0, nn1, mm1, hd, hd8, hdI]
                refine hK _ ?_; clear hK K
                refine cond_k rfl (fun h => ?_) (fun h => ?_)
                · have hb : brT q i x = true := by simpa [brT, h3I, int_beq, decide_eq_decide] using h
                  have hs1 := hok.skip
                  have hs0 := hok.skip0
                  have hsk : IntKind.i8.wrap x.skip = x.skip := wrap_i8 (by omega) (by omega)
                  have hskp : IntKind.i8.wrap ((p : Int) + x.skip) = (p : Int) + x.skip := wrap_i8 (by omega) (by omega)
                  refine draw_e T_ok (by kernel_rfl) 7 [[], [0], [0, 1], [0, 1, 2], [], [4], [4, 5], [0, 1, 2, 3, 4, 5, 6], [0, 1, 2, 3, 4, 5, 6, 7], [0, 1, 2, 3, 4, 5, 6, 7, 8], [0, 1, 2, 3, 4, 5, 6, 7, 8, 9]] [] (by decide) (by decide) (by decide) fun K hK => ?_
                  first | dsimp only [List.take, List.drop] | dsimp [List.take, List.drop]
                  simp [go_sem, insC, nn50, mm50, nn0, mm0, nn1, mm1, mV_112 hq, mV_pc hq hi, mV_wait hq hi, hp, nn50, mm50, nn0, mm0, nn1, mm1, hd, hd8, hdI, hsk, hskp, putT_pc hq hi]
                  repeat refine ⟨by omega, ?_⟩
                  have hls : lstT x i q = q.set (i * 26) ((p : Int) + x.skip) := by unfold lstT; rw [if_neg h1, if_neg h2, if_pos hb, hp]
                  refine hK _ ?_; clear hK K
                  refine ⟨(), hns, ?_⟩
                  refine Weaker.fzk 1 0 (by omega) ?_ ?_ ?_
                  · simp [go_sem, hls, nn50, mm50, nn0, mm0, nn1, mm1]
                  · first | (simp; done) | (simp; omega)
                  · simp [go_sem, hls, nn50, mm50, nn0, mm0, nn1, mm1]
                · have hb : brT q i x = false := by simpa [brT, h3I, int_beq, decide_eq_decide] using h
                  have hls : lstT x i q = q := by unfold lstT; rw [if_neg h1, if_neg h2, hb]; rfl
                  refine tr_skip ?_
                  refine ⟨(), hns, ?_⟩
                  refine Weaker.fzk 1 0 (by omega) ?_ ?_ ?_
                  · simp [go_sem, hls, nn50, mm50, nn0, mm0, nn1, mm1]
                  · first | (simp; done) | (simp; omega)
                  · simp [go_sem, hls, nn50, mm50, nn0, mm0, nn1, mm1]
              · have h3I : ¬ 15 < x.op := by omega
                simp [go_sem, h3I, insC, nn50, mm50, nn0, mm0, nn1, mm1, mV_112 hq, mV_pc hq hi, mV_wait hq hi, hp, nn50, mm50, nn0, mm0, nn1, mm1, hd, hd8, hdI]
                refine hK _ ?_; clear hK K
                refine cond_k rfl (fun h => ?_) (fun h => ?_)
                · simp at h
                · clear h
                  have hb : brT q i x = false := by simp [brT, h3I]
                  have hls : lstT x i q = q := by unfold lstT; rw [if_neg h1, if_neg h2, hb]; rfl
                  refine tr_skip ?_
                  refine ⟨(), hns, ?_⟩
                  refine Weaker.fzk 1 0 (by omega) ?_ ?_ ?_
                  · simp [go_sem, hls, nn50, mm50, nn0, mm0, nn1, mm1]
                  · first | (simp; done) | (simp; omega)
                  · simp [go_sem, hls, nn50, mm50, nn0, mm0, nn1, mm1]
    · rintro u hns
      obtain ⟨p', hp2, hpp, hpl2, hq3⟩ := step_pc hq hi hp hok
      have hq2 : (lstT x i q).length = 112 := (lstT_len x i q).trans hq
      have hwp : IntKind.i8.wrap ((p' : Int) + 1) = (p' : Int) + 1 := wrap_i8 (by omega) (by omega)
      have hinc : (lstT x i q).set (i * 26) ((p' : Int) + 1) = incT (lstT x i q) i := by unfold incT; rw [hp2]
      refine region_e T_ok (by decide) fun K hK => ?_
      simp [go_sem, mV_112 hq2, mV_pc hq2 hi, hp2, hwp, putT_pc hq2 hi, hinc, nn50, mm50, nn0, mm0, nn1, mm1]
      repeat refine ⟨by omega, ?_⟩
      refine hK _ ?_; clear hK K
      refine ⟨(incT (lstT x i q) i, p' + 1, e, j + 200), ?_, ?_, ?_⟩
      · dsimp only; exact ⟨by rw [incT_len, lstT_len, hq], hq3, by omega, by omega, by rw [← hlt, locT, hp, Int.toNat_natCast, hg]; simp only [hns, Bool.false_eq_true, if_false], by omega, by omega⟩
      · dsimp only; omega
      · refine Weaker.fzk 1 0 (by first | omega | (dsimp only; omega)) ?_ ?_ ?_
        · simp [go_sem, nn50, mm50, nn0, mm0, nn1, mm1]
        · first | (simp; done) | (simp; omega)
        simp [go_sem, nn50, mm50, nn0, mm0, nn1, mm1]
  · simp at h
    have hpn : p = l.length := by omega
    clear h
    obtain ⟨e, rfl⟩ : ∃ e2, e = e2 + 1 := ⟨e - 1, by omega⟩
    refine tr_exit ?_
    refine ⟨.inl rfl, ?_⟩
    have hq9 : locT l i (e + 1) q = q := by rw [locT, hp, Int.toNat_natCast, List.getElem?_eq_none (by omega)]
    rw [← hlt, hq9]
    simp [go_sem, nn50, mm50, nn0, mm0, nn1, mm1]

end Go.Proofs.Ytflooghnoljpcaa
/- The machine with store buffers: the walk of step. -/
namespace Go.Proofs.Ytflooghnoljpcaa
open Go Go.Sl Go.Proofs.Try
theorem lookB_U (k : List Int) (i : Nat) (loc : Int) : ∀ n, lookB k i loc n = lookU k i loc n
  | 0 => rfl
  | n + 1 => by rw [lookB, lookU, lookB_U k i loc n]

set_option maxHeartbeats 8000000 in
set_option maxRecDepth 100000 in
theorem step_fn (t : Tst) (i : Nat) (hi : i < 4) (l : List Ins) (hx : t.ths[i]? = some l) (hl : ThrOk l) (q : List Int) (hq : q.length = 112) (p : Nat) (hp : gt q (i * 26) = (p : Nat)) (hpl : p ≤ l.length) (w : Nat) (hw : gt q (i * 26 + 1) = (w : Nat)) (hwp : w ≤ p) (hlo : ∀ s, s < 8 → 0 ≤ gt q (i * 26 + 10 + s * 2) ∧ gt q (i * 26 + 10 + s * 2) < 8) (r n : Nat) (hr : r ≠ 2) (hrn : r < n) (h2n : 2 < n) : Sl.Fn Try.prog 119 [.ptr 2 0 0, .ptr r 0 0, iV (i : Nat)] [(2, .rows 3 [.agg [.rp t.cs 0, .map 0, .map 1]]), (r, .rows 112 [.agg (mV q)])] n fun v H _ => v = bV (mstepT l i q).isSome ∧ H = [(2, .rows 3 [.agg [.rp t.cs 0, .map 0, .map 1]]), (r, .rows 112 [.agg (mV ((mstepT l i q).getD q))])] := by
  have nn50 : ¬ r = 2 := by omega
  have mm50 : ¬ 2 = r := by omega
  have hil : i < t.ths.length := (List.getElem?_eq_some_iff.1 hx).1
  have hiI : (i : Int) < (t.ths.length : Nat) := by omega
  have hi0 : (0 : Int) ≤ (i : Nat) := by omega
  have hiI4 : (i : Int) < 4 := by omega
  have hx' : t.ths[i] = l := (List.getElem?_eq_some_iff.1 hx).2
  have hl8 := hl.1
  have hw64 : IntKind.i64.wrap (p : Nat) = (p : Nat) := wrap_i64 (by omega) (by omega)
  have hlos := hlo
  clear hlo
  have hwI : (w : Int) < 9 := by omega
  refine fn_in T_ok func119 rfl rfl ntmps119 rfl (by simp) ?_
  refine region_k T_ok (by decide) fun K hK => ?_
  simp [go_sem]
  refine hK _ ?_; clear hK K
  refine region_k T_ok (by decide) fun K hK => ?_
  simp [go_sem, hiI4, hi, hi0, nn50, mm50]
  refine hK _ ?_; clear hK K
  refine seq_k fun K1 hK1 => ?_
  refine draw_k T_ok (by kernel_rfl) 16 [[], [0], [0, 1], [0, 1, 2], [0, 1, 2, 3], [], [5], [5, 6], [5, 6, 7], [5, 6, 7, 8], [5, 6, 7, 8, 9], [5, 6, 7, 8, 9, 10], [], [5, 6, 7, 8, 9, 10, 11, 12], [5, 6, 7, 8, 9, 10, 11, 12, 13], [5, 6, 7, 8, 9, 10, 11, 12, 13, 14], [0, 1, 2, 3, 4, 5, 6, 7, 8, 9, 10, 11, 12, 13, 14, 15]] [] (by decide) (by decide) (by decide) fun K hK => ?_
  first | dsimp only [List.take, List.drop] | dsimp [List.take, List.drop]
  simp [go_sem, hiI, hil, hx, hx', Tst.cs, mV_112 hq, mV_pc hq hi, hp, hw64, hiI4, hi, hi0, nn50, mm50]
  repeat refine ⟨by omega, ?_⟩
  refine hK _ ?_; clear hK K
  refine cond_k rfl (fun h => ?_) (fun h => ?_)
  · simp at h
    have hpn : p = l.length := by omega
    clear h
    have hst : mstepT l i q = none := by unfold mstepT; rw [hp, Int.toNat_natCast, List.getElem?_eq_none (by omega)]
    refine region_k T_ok (by decide) fun K hK => ?_
    simp [go_sem]
    refine hK _ ?_; clear hK K
    refine tr_ret ⟨.inr rfl, ?_⟩
    simp [go_sem, hst, Tst.cs, nn50, mm50]
  · simp at h
    have hpI : (p : Int) < (l.length : Nat) := by omega
    have hpn : p < l.length := by omega
    clear h
    obtain ⟨x, hg, hg'⟩ := getAt hpn
    have hok := hl.2 p x hg
    obtain ⟨d, hd⟩ : ∃ d : Nat, x.rd = d := ⟨x.rd.toNat, by have := hok.rd0; omega⟩
    have hd8 : d < 8 := by have := hok.rd8; omega
    have hdI : (d : Int) < 8 := by omega
    have hp00 : (0 : Int) ≤ (p : Nat) := by omega
    refine tr_skip ?_
    refine hK1 _ ?_; try clear hK1 K1
    have nn20 : ¬ r = n + 32 := by omega
    have mm20 : ¬ n + 32 = r := by omega
    have nn21 : ¬ 2 = n + 32 := by omega
    have mm21 : ¬ n + 32 = 2 := by omega
    refine draw_to T_ok (by kernel_rfl) 17 [[], [0], [0, 1], [0, 1, 2], [0, 1, 2, 3], [0, 1, 2, 3, 4], [0, 1, 2, 3, 4, 5], [], [0, 1, 2, 3, 4, 5, 6, 7], [0, 1, 2, 3, 4, 5, 6, 7, 8], [], [10], [10, 11], [10, 11, 12], [0, 1, 2, 3, 4, 5, 6, 7, 8, 9, 10, 11, 12, 13], [0, 1, 2, 3, 4, 5, 6, 7, 8, 9, 10, 11, 12, 13, 14], [], [0, 1, 2, 3, 4, 5, 6, 7, 8, 9, 10, 11, 12, 13, 14, 15, 16]] [(0, 16), (1, 16), (2, 16), (3, 16), (4, 16), (5, 16), (6, 16), (7, 16), (8, 16), (9, 16), (10, 16), (11, 16), (12, 16), (13, 16), (14, 16), (15, 16)] (by decide) (by decide) (by decide) ⟨139, [(0, .ptr 2 0 0), (1, .ptr r 0 0), (2, iV (i : Nat)), (7, .ptr r 0 (i * 26)), (8, .ptr (n + 32) 0 0)], [(n + 32, .rows 13 [insC x]), (2, .rows 3 [.agg [.rp t.cs 0, .map 0, .map 1]]), (r, .rows 112 [.agg (mV q)])], n + 32 + 1⟩ ?_ ?_
    · first | dsimp only [List.take, List.drop] | dsimp [List.take, List.drop]
      simp [go_sem, hiI, hil, hx, hx', Tst.cs, hpI, hp00, hpn, hg, hg', mV_112 hq, mV_pc hq hi, hp, hi0, insC, len_ins, fits_ins, nn50, mm50, nn20, mm20, nn21, mm21]
      repeat refine ⟨by omega, ?_⟩
      refine Weaker.fz 1 0 ?_ ?_ ?_
      · simp [go_sem, insC, Tst.cs, nn50, mm50, nn20, mm20, nn21, mm21]
      · first | (simp; done) | (simp; omega)
      · simp [go_sem, insC, Tst.cs, nn50, mm50, nn20, mm20, nn21, mm21]
    · generalize hj : n + 32 = j
      have hjr : r < j := by omega
      have hj2 : 2 < j := by omega
      have nn0 : ¬ r = j := by omega
      have mm0 : ¬ j = r := by omega
      have nn1 : ¬ 2 = j := by omega
      have mm1 : ¬ j = 2 := by omega
      refine seq_ex (fun k1 : List Int => ⟨139, [(0, .ptr 2 0 0), (1, .ptr r 0 0), (2, iV (i : Nat)), (7, .ptr r 0 (i * 26))], [(2, .rows 3 [.agg [.rp t.cs 0, .map 0, .map 1]]), (r, .rows 112 [.agg (mV k1)])], j + 200⟩) (fun k1 : List Int => mopT x i q = some k1) ?_ ?_
      · skip
        refine region_k T_ok (by decide) fun K hK => ?_
        simp [go_sem, insC, nn50, mm50, nn0, mm0, nn1, mm1]
        refine hK _ ?_; clear hK K
        refine tr_block ?_
        refine region_k T_ok (by decide) fun K hK => ?_
        simp [go_sem, insC, nn50, mm50, nn0, mm0, nn1, mm1]
        refine hK _ ?_; clear hK K
        refine cond_k rfl (fun h => ?_) (fun h => ?_)
        · have h1 : x.op = 9 := by simpa using h
          have hlc := hok.loc (by simp [memB, rdB, wrB, h1])
          obtain ⟨y, hlo⟩ : ∃ y : Nat, x.loc = y := ⟨x.loc.toNat, by omega⟩
          have hlo8 : y < 8 := by omega
          have hloI : (y : Int) < 8 := by omega
          refine draw_e T_ok (by kernel_rfl) 10 [[], [], [1], [], [], [], [5], [3, 4, 5, 6], [0], [0, 8], [0, 1, 2, 3, 4, 5, 6, 7, 8, 9], [0, 1, 2, 3, 4, 5, 6, 7, 8, 9, 10]] [] (by decide) (by decide) (by decide) fun K hK => ?_
          first | dsimp only [List.take, List.drop] | dsimp [List.take, List.drop]
          simp [go_sem, insC, nn50, mm50, nn0, mm0, nn1, mm1, mV_112 hq, mV_pc hq hi, mV_wait hq hi, hp, hd, hd8, hdI, hw, hwI, hiI4, hi, hi0, hw64, nn50, mm50, nn0, mm0, nn1, mm1, hlo, hlo8, hloI, mV_mem hq hlo8]
          refine callD_lend (look_pf q hq i hi w hw (by omega) hlos y hlo8) 1 (by simp [go_sem, mV_frz, nn50, mm50, nn0, mm0, nn1, mm1]) ?_
          simp [go_sem, putT_reg hq hi hd8, insC, nn50, mm50, nn0, mm0, nn1, mm1, mV_112 hq, mV_pc hq hi, mV_wait hq hi, hp, hd, hd8, hdI, hw, hwI, hiI4, hi, hi0, hw64, nn50, mm50, nn0, mm0, nn1, mm1]
          repeat refine ⟨by omega, ?_⟩
          have hop : mopT x i q = some (q.set (i * 26 + 2 + d) (lookB q i (y : Nat) w)) := by unfold mopT; rw [if_pos h1, hd, hw, hlo, lookB_U]; rfl
          refine hK _ ?_; clear hK K
          refine ⟨_, hop, ?_⟩
          refine Weaker.fzk 1 0 (by omega) ?_ ?_ ?_
          · simp [go_sem, nn50, mm50, nn0, mm0, nn1, mm1]
          · first | (simp; done) | (simp; omega)
          · simp [go_sem, nn50, mm50, nn0, mm0, nn1, mm1]
        · have h1 : ¬ x.op = 9 := by simpa using h
          refine region_k T_ok (by decide) fun K hK => ?_
          simp [go_sem, insC, nn50, mm50, nn0, mm0, nn1, mm1]
          refine hK _ ?_; clear hK K
          refine cond_k rfl (fun h => ?_) (fun h => ?_)
          · have h2 : x.op = 10 := by simpa using h
            have hlc := hok.loc (by simp [memB, rdB, wrB, h2])
            obtain ⟨y, hlo⟩ : ∃ y : Nat, x.loc = y := ⟨x.loc.toNat, by omega⟩
            have hlo8 : y < 8 := by omega
            have hloI : (y : Int) < 8 := by omega
            have hws : w < 8 := by omega
            have hw8 : (w : Int) < 8 := by omega
            have hlw : IntKind.i8.wrap (y : Nat) = (y : Nat) := wrap_i8 (by omega) (by omega)
            refine draw_k T_ok (by kernel_rfl) 15 [[], [], [1], [1, 2], [1, 2, 3], [], [5], [5, 6], [], [], [9], [8, 9, 10], [5, 6, 7, 8, 9, 10, 11], [0], [0, 13], [0, 1, 2, 3, 4, 5, 6, 7, 8, 9, 10, 11, 12, 13, 14], [0, 1, 2, 3, 4, 5, 6, 7, 8, 9, 10, 11, 12, 13, 14, 15]] [] (by decide) (by decide) (by decide) fun K hK => ?_
            first | dsimp only [List.take, List.drop] | dsimp [List.take, List.drop]
            simp [go_sem, insC, nn50, mm50, nn0, mm0, nn1, mm1, mV_112 hq, mV_pc hq hi, mV_wait hq hi, hp, hd, hd8, hdI, hw, hwI, hiI4, hi, hi0, hw64, nn50, mm50, nn0, mm0, nn1, mm1, hlo, hlo8, hloI, mV_mem hq hlo8, hw8]
            repeat refine ⟨by omega, ?_⟩
            refine callD_lend (targ_pf q hq i hi x.aR x.aN hok.a) 1 (by simp [go_sem, mV_frz, nn50, mm50, nn0, mm0, nn1, mm1]) ?_
            simp [go_sem, hw8, hloI, hlo8, hlo, hlw, putT_ent hq hi hws, putT_wait, insC, nn50, mm50, nn0, mm0, nn1, mm1, mV_112 hq, mV_pc hq hi, mV_wait hq hi, hp, hd, hd8, hdI, hw, hwI, hiI4, hi, hi0, hw64, nn50, mm50, nn0, mm0, nn1, mm1]
            repeat refine ⟨by omega, ?_⟩
            generalize hq1e : (q.set (i * 26 + 10 + w * 2) (y : Nat)).set (i * 26 + 10 + w * 2 + 1) (aArg q i x.aR x.aN) = q1
            have hq1 : q1.length = 112 := by rw [← hq1e]; simp [hq]
            have hw1 : gt q1 (i * 26 + 1) = (w : Nat) := by rw [← hq1e, gt_ne (by omega), gt_ne (by omega), hw]
            have hwi : IntKind.i8.wrap ((w : Int) + 1) = (w : Int) + 1 := wrap_i8 (by omega) (by omega)
            refine hK _ ?_; clear hK K
            refine region_e T_ok (by decide) fun K hK => ?_
            simp [go_sem, mV_112 hq1, mV_wait hq1 hi, hw1, hwi, putT_wait hq1 hi, nn50, mm50, nn0, mm0, nn1, mm1]
            repeat refine ⟨by omega, ?_⟩
            have hop : mopT x i q = some (q1.set (i * 26 + 1) ((w : Int) + 1)) := by
              unfold mopT
              rw [if_neg h1, if_pos h2, hw, Int.toNat_natCast, hlo, hq1e]
            refine hK _ ?_; clear hK K
            refine ⟨_, hop, ?_⟩
            refine Weaker.fzk 1 0 (by omega) ?_ ?_ ?_
            · simp [go_sem, nn50, mm50, nn0, mm0, nn1, mm1]
            · first | (simp; done) | (simp; omega)
            · simp [go_sem, nn50, mm50, nn0, mm0, nn1, mm1]
          · have h2 : ¬ x.op = 10 := by simpa using h
            refine seq_k fun K2 hK2 => ?_
            refine region_k T_ok (by decide) fun K hK => ?_
            simp [go_sem, insC, nn50, mm50, nn0, mm0, nn1, mm1]
            refine hK _ ?_; clear hK K
            refine cond_k rfl (fun h => ?_) (fun h => ?_)
            · have h3 : x.op = 11 := by simpa using h
              refine tr_skip ?_
              refine hK2 _ ?_; try clear hK2 K2
              refine cond_k rfl (fun h => ?_) (fun h => ?_)
              · clear h
                have hlc := hok.loc (by simp [memB, rdB, wrB, h3])
                obtain ⟨y, hlo⟩ : ∃ y : Nat, x.loc = y := ⟨x.loc.toNat, by omega⟩
                have hlo8 : y < 8 := by omega
                have hloI : (y : Int) < 8 := by omega
                refine seq_k fun K3 hK3 => ?_
                refine region_k T_ok (by decide) fun K hK => ?_
                simp [go_sem, insC, nn50, mm50, nn0, mm0, nn1, mm1, mV_112 hq, mV_pc hq hi, mV_wait hq hi, hp, hd, hd8, hdI, hw, hwI, hiI4, hi, hi0, hw64, nn50, mm50, nn0, mm0, nn1, mm1]
                repeat refine ⟨by omega, ?_⟩
                refine hK _ ?_; clear hK K
                refine cond_k rfl (fun h => ?_) (fun h => ?_)
                · have hw0 : 0 < w := by simpa using h
                  refine region_k T_ok (by decide) fun K hK => ?_
                  simp [go_sem]
                  refine hK _ ?_; clear hK K
                  refine Tr.weaken (Weaker.del j) ?_
                  have hst : mstepT l i q = none := by unfold mstepT; rw [hp, Int.toNat_natCast, hg]; simp [mopT, h3, hw, hw0]
                  refine tr_ret ⟨.inr rfl, ?_⟩
                  simp [go_sem, hst, Sl.del, nn50, mm50, nn0, mm0, nn1, mm1]
                · have hw0 : w = 0 := by simpa using h
                  refine tr_skip ?_
                  refine hK3 _ ?_; try clear hK3 K3
                  refine draw_k T_ok (by kernel_rfl) 11 [[], [], [1], [0], [0, 3], [0, 1, 2, 3, 4], [0, 1, 2, 3, 4, 5], [], [], [8], [7, 8, 9], [0, 1, 2, 3, 4, 5, 6, 7, 8, 9, 10], [0, 1, 2, 3, 4, 5, 6, 7, 8, 9, 10, 11]] [] (by decide) (by decide) (by decide) fun K hK => ?_
                  first | dsimp only [List.take, List.drop] | dsimp [List.take, List.drop]
                  simp [go_sem, insC, nn50, mm50, nn0, mm0, nn1, mm1, mV_112 hq, mV_pc hq hi, mV_wait hq hi, hp, hd, hd8, hdI, hw, hwI, hiI4, hi, hi0, hw64, nn50, mm50, nn0, mm0, nn1, mm1, hlo, hlo8, hloI, mV_mem hq hlo8]
                  repeat refine ⟨by omega, ?_⟩
                  refine callD_lend (targ_pf q hq i hi x.aR x.aN hok.a) 1 (by simp [go_sem, mV_frz, nn50, mm50, nn0, mm0, nn1, mm1]) ?_
                  simp [go_sem, insC, nn50, mm50, nn0, mm0, nn1, mm1, mV_112 hq, mV_pc hq hi, mV_wait hq hi, hp, hd, hd8, hdI, hw, hwI, hiI4, hi, hi0, hw64, nn50, mm50, nn0, mm0, nn1, mm1, hlo, hlo8, hloI, mV_mem hq hlo8]
                  repeat refine ⟨by omega, ?_⟩
                  refine hK _ ?_; clear hK K
                  refine seq_k fun K4 hK4 => ?_
                  refine region_k T_ok (by decide) fun K hK => ?_
                  simp [go_sem, insC, nn50, mm50, nn0, mm0, nn1, mm1]
                  refine hK _ ?_; clear hK K
                  refine cond_k rfl (fun h => ?_) (fun h => ?_)
                  · simp [h3] at h
                  · clear h
                    refine tr_skip ?_
                    refine hK4 _ ?_; try clear hK4 K4
                    refine draw_k T_ok (by kernel_rfl) 6 [[], [], [1], [], [0], [0, 4], [0, 1, 2, 3, 4, 5], [0, 1, 2, 3, 4, 5, 6]] [] (by decide) (by decide) (by decide) fun K hK => ?_
                    first | dsimp only [List.take, List.drop] | dsimp [List.take, List.drop]
                    simp [go_sem, insC, nn50, mm50, nn0, mm0, nn1, mm1, mV_112 hq, mV_pc hq hi, mV_wait hq hi, hp, hd, hd8, hdI, hw, hwI, hiI4, hi, hi0, hw64, nn50, mm50, nn0, mm0, nn1, mm1, hlo, hlo8, hloI, mV_mem hq hlo8, putT_mem hq hlo8]
                    repeat refine ⟨by omega, ?_⟩
                    generalize hq4e : q.set (104 + y) (aArg q i x.aR x.aN) = q4
                    have hq4 : q4.length = 112 := by rw [← hq4e, List.length_set, hq]
                    refine hK _ ?_; clear hK K
                    refine draw_e T_ok (by kernel_rfl) 6 [[], [], [1], [], [0], [0, 4], [0, 1, 2, 3, 4, 5], [0, 1, 2, 3, 4, 5, 6]] [] (by decide) (by decide) (by decide) fun K hK => ?_
                    first | dsimp only [List.take, List.drop] | dsimp [List.take, List.drop]
                    simp [go_sem, insC, nn50, mm50, nn0, mm0, nn1, mm1, hd, hd8, hdI, mV_112 hq4, putT_reg hq4 hi hd8]
                    repeat refine ⟨by omega, ?_⟩
                    have hop : mopT x i q = some (q4.set (i * 26 + 2 + d) (gt q (104 + y))) := by
                      unfold mopT
                      rw [if_neg h1, if_neg h2, if_pos (by omega), if_neg (by omega), if_neg (by omega), hd, hlo, Int.toNat_natCast, Int.toNat_natCast, hq4e]
                    refine hK _ ?_; clear hK K
                    refine ⟨_, hop, ?_⟩
                    refine Weaker.fzk 1 0 (by omega) ?_ ?_ ?_
                    · simp [go_sem, nn50, mm50, nn0, mm0, nn1, mm1]
                    · first | (simp; done) | (simp; omega)
                    · simp [go_sem, nn50, mm50, nn0, mm0, nn1, mm1]
              · simp [h3] at h
            · have h3 : ¬ x.op = 11 := by simpa using h
              refine region_e T_ok (by decide) fun K hK => ?_
              simp [go_sem, insC, nn50, mm50, nn0, mm0, nn1, mm1]
              refine hK _ ?_; clear hK K
              refine hK2 _ ?_; try clear hK2 K2
              refine cond_k rfl (fun h => ?_) (fun h => ?_)
              · have h4 : x.op = 12 := by simpa using h
                have hlc := hok.loc (by simp [memB, rdB, wrB, h4])
                obtain ⟨y, hlo⟩ : ∃ y : Nat, x.loc = y := ⟨x.loc.toNat, by omega⟩
                have hlo8 : y < 8 := by omega
                have hloI : (y : Int) < 8 := by omega
                refine seq_k fun K5 hK5 => ?_
                refine region_k T_ok (by decide) fun K hK => ?_
                simp [go_sem, insC, nn50, mm50, nn0, mm0, nn1, mm1, mV_112 hq, mV_pc hq hi, mV_wait hq hi, hp, hd, hd8, hdI, hw, hwI, hiI4, hi, hi0, hw64, nn50, mm50, nn0, mm0, nn1, mm1]
                repeat refine ⟨by omega, ?_⟩
                refine hK _ ?_; clear hK K
                refine cond_k rfl (fun h => ?_) (fun h => ?_)
                · have hw0 : 0 < w := by simpa using h
                  refine region_k T_ok (by decide) fun K hK => ?_
                  simp [go_sem]
                  refine hK _ ?_; clear hK K
                  refine Tr.weaken (Weaker.del j) ?_
                  have hst : mstepT l i q = none := by unfold mstepT; rw [hp, Int.toNat_natCast, hg]; simp [mopT, h4, hw, hw0]
                  refine tr_ret ⟨.inr rfl, ?_⟩
                  simp [go_sem, hst, Sl.del, nn50, mm50, nn0, mm0, nn1, mm1]
                · have hw0 : w = 0 := by simpa using h
                  refine tr_skip ?_
                  refine hK5 _ ?_; try clear hK5 K5
                  refine draw_k T_ok (by kernel_rfl) 11 [[], [], [1], [0], [0, 3], [0, 1, 2, 3, 4], [0, 1, 2, 3, 4, 5], [], [], [8], [7, 8, 9], [0, 1, 2, 3, 4, 5, 6, 7, 8, 9, 10], [0, 1, 2, 3, 4, 5, 6, 7, 8, 9, 10, 11]] [] (by decide) (by decide) (by decide) fun K hK => ?_
                  first | dsimp only [List.take, List.drop] | dsimp [List.take, List.drop]
                  simp [go_sem, insC, nn50, mm50, nn0, mm0, nn1, mm1, mV_112 hq, mV_pc hq hi, mV_wait hq hi, hp, hd, hd8, hdI, hw, hwI, hiI4, hi, hi0, hw64, nn50, mm50, nn0, mm0, nn1, mm1, hlo, hlo8, hloI, mV_mem hq hlo8]
                  repeat refine ⟨by omega, ?_⟩
                  refine callD_lend (targ_pf q hq i hi x.aR x.aN hok.a) 1 (by simp [go_sem, mV_frz, nn50, mm50, nn0, mm0, nn1, mm1]) ?_
                  simp [go_sem, insC, nn50, mm50, nn0, mm0, nn1, mm1, mV_112 hq, mV_pc hq hi, mV_wait hq hi, hp, hd, hd8, hdI, hw, hwI, hiI4, hi, hi0, hw64, nn50, mm50, nn0, mm0, nn1, mm1, hlo, hlo8, hloI, mV_mem hq hlo8]
                  repeat refine ⟨by omega, ?_⟩
                  refine hK _ ?_; clear hK K
                  refine seq_k fun K6 hK6 => ?_
                  refine region_k T_ok (by decide) fun K hK => ?_
                  simp [go_sem, insC, nn50, mm50, nn0, mm0, nn1, mm1]
                  refine hK _ ?_; clear hK K
                  refine cond_k rfl (fun h => ?_) (fun h => ?_)
                  · clear h
                    refine region_e T_ok (by decide) fun K hK => ?_
                    simp [go_sem]
                    refine hK _ ?_; clear hK K
                    refine hK6 _ ?_; try clear hK6 K6
                    refine draw_k T_ok (by kernel_rfl) 6 [[], [], [1], [], [0], [0, 4], [0, 1, 2, 3, 4, 5], [0, 1, 2, 3, 4, 5, 6]] [] (by decide) (by decide) (by decide) fun K hK => ?_
                    first | dsimp only [List.take, List.drop] | dsimp [List.take, List.drop]
                    simp [go_sem, insC, nn50, mm50, nn0, mm0, nn1, mm1, mV_112 hq, mV_pc hq hi, mV_wait hq hi, hp, hd, hd8, hdI, hw, hwI, hiI4, hi, hi0, hw64, nn50, mm50, nn0, mm0, nn1, mm1, hlo, hlo8, hloI, mV_mem hq hlo8, putT_mem hq hlo8]
                    repeat refine ⟨by omega, ?_⟩
                    generalize hq4e : q.set (104 + y) (IntKind.u64.wrap (aArg q i x.aR x.aN + gt q (104 + y))) = q4
                    have hq4 : q4.length = 112 := by rw [← hq4e, List.length_set, hq]
                    refine hK _ ?_; clear hK K
                    refine draw_e T_ok (by kernel_rfl) 6 [[], [], [1], [], [0], [0, 4], [0, 1, 2, 3, 4, 5], [0, 1, 2, 3, 4, 5, 6]] [] (by decide) (by decide) (by decide) fun K hK => ?_
                    first | dsimp only [List.take, List.drop] | dsimp [List.take, List.drop]
                    simp [go_sem, insC, nn50, mm50, nn0, mm0, nn1, mm1, hd, hd8, hdI, mV_112 hq4, putT_reg hq4 hi hd8]
                    repeat refine ⟨by omega, ?_⟩
                    have hop : mopT x i q = some (q4.set (i * 26 + 2 + d) (gt q (104 + y))) := by
                      unfold mopT
                      rw [if_neg h1, if_neg h2, if_pos (by omega), if_neg (by omega), if_pos h4, hd, hlo, Int.toNat_natCast, Int.toNat_natCast, hq4e]
                    refine hK _ ?_; clear hK K
                    refine ⟨_, hop, ?_⟩
                    refine Weaker.fzk 1 0 (by omega) ?_ ?_ ?_
                    · simp [go_sem, nn50, mm50, nn0, mm0, nn1, mm1]
                    · first | (simp; done) | (simp; omega)
                    · simp [go_sem, nn50, mm50, nn0, mm0, nn1, mm1]
                  · simp [h4] at h
              · have h4 : ¬ x.op = 12 := by simpa using h
                have hst : mstepT l i q = none := by unfold mstepT; rw [hp, Int.toNat_natCast, hg]; simp [mopT, h1, h2, h3, h4]
                refine region_k T_ok (by decide) fun K hK => ?_
                simp [go_sem]
                refine hK _ ?_; clear hK K
                refine Tr.weaken (Weaker.del j) ?_
                refine tr_ret ⟨.inr rfl, ?_⟩
                simp [go_sem, hst, Sl.del, nn50, mm50, nn0, mm0, nn1, mm1]
      · rintro k1 hop
        have hk1 : k1.length = 112 := (mopT_len hop).trans hq
        have hp1 : gt k1 (i * 26) = (p : Nat) := (mopT_pc hi hok.rd0 (fun h => (hok.loc h).2) hop).trans hp
        have hwp1 : IntKind.i8.wrap ((p : Int) + 1) = (p : Int) + 1 := wrap_i8 (by omega) (by omega)
        have hinc : k1.set (i * 26) ((p : Int) + 1) = incT k1 i := by unfold incT; rw [hp1]
        have hk2 : (incT k1 i).length = 112 := (incT_len k1 i).trans hk1
        have hp2 : gt (incT k1 i) (i * 26) = ((p + 1 : Nat) : Int) := by unfold incT; rw [gt_same (by omega), hp1]; rfl
        have hst : mstepT l i q = some (locT l i (l.length + 1) (incT k1 i)) := by unfold mstepT; rw [hp, Int.toNat_natCast, hg]; simp only [hop, Option.map_some]
        refine region_k T_ok (by decide) fun K hK => ?_
        simp [go_sem, mV_112 hk1, mV_pc hk1 hi, hp1, hwp1, putT_pc hk1 hi, hinc, nn50, mm50]
        repeat refine ⟨by omega, ?_⟩
        refine hK _ ?_; clear hK K
        refine region_k T_ok (by decide) fun K hK => ?_
        simp [go_sem]
        refine call_own (local_fn t i hi l hx hl (incT k1 i) hk2 (p + 1) hp2 (by omega) r (j + 200) hr (by omega) (by omega)) rfl (by simp [nn50, mm50]) (by simp [go_sem, nn50, mm50]) fun k9 hk9 => ?_
        simp [go_sem, upds, nn50, mm50]
        refine hK _ ?_; clear hK K
        refine region_k T_ok (by decide) fun K hK => ?_
        simp [go_sem]
        refine hK _ ?_; clear hK K
        refine tr_ret ⟨.inr rfl, ?_⟩
        simp [go_sem, hst, nn50, mm50]

end Go.Proofs.Ytflooghnoljpcaa
/- Litmus tests: the walks of HasPairs, Cut, Passing. -/
namespace Go.Proofs.Ytflooghnoljpcaa
open Go Go.Sl Go.Proofs.Try

theorem Pf.seen_res' {P : Program} {f : FuncId} {args : List V} {r r' : V} (h : SeenAs r r') (p : Pf P f args r) : Pf P f args r' :=
  ⟨p.enters, fun ι O w cargs hO hv => (p.calls ι O w cargs hO hv).mono fun e w' ⟨cv, he, hr, h1⟩ => ⟨cv, he, h _ _ _ _ hr, h1⟩⟩

theorem hasPairs_pf (t : Tst) (ht : t.ths.length ≤ 1000) (hl : ∀ x ∈ t.ths, x.length ≤ 1000) : Pf Try.prog 65 [.rp t.cs 0] (bV (hasPairs t.ths)) := by
  refine Pf.of_fn (.cons (nl_rp t) .nil) (.val _) ?_
  refine fn_in T_ok func65 rfl rfl ntmps65 rfl (by simp) ?_
  refine region_k T_ok (by decide) fun K hK => ?_
  simp [go_sem]
  refine hK _ ?_; clear hK K
  refine seq_k fun K1 hK1 => ?_
  refine region_k T_ok (by decide) fun K hK => ?_
  simp [go_sem, Tst.cs]
  refine hK _ ?_; clear hK K
  refine tr_block ?_
  refine loop_p (α := Nat × Nat) (fun a => ⟨32, [(10, .ro 1 (thrs t.ths)), (11, iV (t.ths.length : Nat)), (12, iV (a.1 : Nat))], [], a.2⟩) (fun a => a.1 ≤ t.ths.length ∧ (t.ths.take a.1).any (fun x => x.any isPair) = false) (fun a => t.ths.length - a.1) (0, 0) ?_ ?_ ?_
  · exact ⟨by dsimp only; omega, rfl⟩
  · refine Weaker.fz 1 0 ?_ ?_ ?_
    · simp [go_sem]
    · first | (simp; done) | (simp; omega)
    · simp [go_sem]
  rintro ⟨i, j⟩ ⟨hi, hf⟩
  dsimp only at hi hf ⊢
  refine region_k T_ok (by decide) fun K hK => ?_
  simp [go_sem]
  refine hK _ ?_; clear hK K
  refine seq_k fun K2 hK2 => ?_
  refine cond_k rfl (fun h => ?_) (fun h => ?_)
  · simp at h
    have hI := h
    clear h
    have h' : i < (t.ths).length := by omega
    obtain ⟨l, hx, hx'⟩ := getAt h'
    have hi0 : (0 : Int) ≤ (i : Nat) := by omega
    have hw : IntKind.i64.wrap ((i : Nat) + 1) = (i : Nat) + 1 := wrap_i64 (by omega) (by omega)
    have hll := hl l (List.mem_of_getElem? hx)
    refine tr_skip ?_
    refine hK2 _ ?_; try clear hK2 K2
    refine seq_k fun K3 hK3 => ?_
    refine tr_block ?_
    refine region_k T_ok (by decide) fun K hK => ?_
    simp [go_sem, hI, hx, hx', hi0, h']
    refine hK _ ?_; clear hK K
    refine region_k T_ok (by decide) fun K hK => ?_
    simp [go_sem]
    refine hK _ ?_; clear hK K
    refine tr_block ?_
    refine loop_p (α := Nat × Nat) (fun b => ⟨32, [(10, .ro 1 (thrs t.ths)), (11, iV (t.ths.length : Nat)), (12, iV (i : Nat)), (16, .ro 13 (inss l)), (17, iV (l.length : Nat)), (18, iV (b.1 : Nat))], [], b.2⟩) (fun b => b.1 ≤ l.length ∧ (l.take b.1).any isPair = false) (fun b => l.length - b.1) (0, j) ?_ ?_ ?_
    · exact ⟨by dsimp only; omega, rfl⟩
    · refine Weaker.fz 1 0 ?_ ?_ ?_
      · simp [go_sem]
      · first | (simp; done) | (simp; omega)
      · simp [go_sem]
    rintro ⟨b, c⟩ ⟨hib, hfb⟩
    dsimp only at hib hfb ⊢
    refine region_k T_ok (by decide) fun K hK => ?_
    simp [go_sem]
    refine hK _ ?_; clear hK K
    refine seq_k fun K4 hK4 => ?_
    refine cond_k rfl (fun h => ?_) (fun h => ?_)
    · simp at h
      have hIb := h
      clear h
      have h'b : b < (l).length := by omega
      obtain ⟨x, hxb, hx'b⟩ := getAt h'b
      have hi0b : (0 : Int) ≤ (b : Nat) := by omega
      have hwb : IntKind.i64.wrap ((b : Nat) + 1) = (b : Nat) + 1 := wrap_i64 (by omega) (by omega)
      refine tr_skip ?_
      refine hK4 _ ?_; try clear hK4 K4
      refine seq_k fun K5 hK5 => ?_
      refine tr_block ?_
      refine region_k T_ok (by decide) fun K hK => ?_
      simp [go_sem, hIb, hxb, hx'b, hi0b, h'b, insC]
      refine hK _ ?_; clear hK K
      refine region_to T_ok (by decide) ⟨32, [(10, .ro 1 (thrs t.ths)), (11, iV (t.ths.length : Nat)), (12, iV (i : Nat)), (16, .ro 13 (inss l)), (17, iV (l.length : Nat)), (18, iV (b : Nat)), (29, bV (isPair x))], [], c + 1⟩ ?_ ?_
      · by_cases c1 : x.op = 13
        · simp [go_sem, c1]
          refine Weaker.fz 1 0 ?_ ?_ ?_
          · simp [go_sem, c1, isPair]
          · first | (simp; done) | (simp; omega)
          · simp [go_sem, c1, isPair]
        · by_cases c2 : x.op = 14
          · simp [go_sem, c1, c2]
            refine Weaker.fz 1 0 ?_ ?_ ?_
            · simp [go_sem, c1, c2, isPair]
            · first | (simp; done) | (simp; omega)
            · simp [go_sem, c1, c2, isPair]
          · simp [go_sem, c1, c2]
            refine Weaker.fz 1 0 ?_ ?_ ?_
            · simp [go_sem, c1, c2, isPair]
            · first | (simp; done) | (simp; omega)
            · simp [go_sem, c1, c2, isPair]
      · skip
        refine cond_k rfl (fun h => ?_) (fun h => ?_)
        · have hp := h
          refine region_k T_ok (by decide) fun K hK => ?_
          simp [go_sem]
          refine hK _ ?_; clear hK K
          refine tr_ret ⟨.inr rfl, ?_⟩
          simp [go_sem, show hasPairs t.ths = true from any_at hx (any_at hxb hp)]
        · have hp := h
          refine tr_skip ?_
          refine hK5 _ ?_; try clear hK5 K5
          refine region_e T_ok (by decide) fun K hK => ?_
          simp [go_sem, hwb]
          refine hK _ ?_; clear hK K
          refine ⟨(b + 1, c + 1), ?_, ?_, ?_⟩
          · exact ⟨by dsimp only; omega, any_step hxb hfb hp⟩
          · dsimp only; omega
          · refine Weaker.fz 1 0 ?_ ?_ ?_
            · simp [go_sem]
            · first | (simp; done) | (simp; omega)
            simp [go_sem]
    · simp at h
      obtain rfl : b = l.length := by omega
      rw [List.take_length] at hfb
      refine tr_exit ?_
      refine hK3 _ ?_; try clear hK3 K3
      refine region_e T_ok (by decide) fun K hK => ?_
      simp [go_sem, hw]
      refine hK _ ?_; clear hK K
      refine ⟨(i + 1, c), ?_, ?_, ?_⟩
      · exact ⟨by dsimp only; omega, any_step hx hf hfb⟩
      · dsimp only; omega
      · refine Weaker.fz 1 0 ?_ ?_ ?_
        · simp [go_sem]
        · first | (simp; done) | (simp; omega)
        simp [go_sem]
  · simp at h
    obtain rfl : i = t.ths.length := by omega
    rw [List.take_length] at hf
    refine tr_exit ?_
    refine hK1 _ ?_; try clear hK1 K1
    refine region_k T_ok (by decide) fun K hK => ?_
    simp [go_sem]
    refine hK _ ?_; clear hK K
    refine tr_ret ⟨.inr rfl, ?_⟩
    simp [go_sem, show hasPairs t.ths = false from hf]

theorem cut_pf (s : ByteArray) (n : Nat) (hs : s.size ≤ 9223372036854775807) : Pf Try.prog 74 [.val (.string s), iV (n : Nat)] (.val (.string (cutS s n))) := by
  refine Pf.of_fn (.cons (.val _) (.cons (.val _) .nil)) (.val _) ?_
  refine fn_in T_ok func74 rfl rfl ntmps74 rfl (by simp) ?_
  refine region_k T_ok (by decide) fun K hK => ?_
  simp [go_sem]
  refine hK _ ?_; clear hK K
  refine seq_k fun K1 hK1 => ?_
  refine region_k T_ok (by decide) fun K hK => ?_
  simp [go_sem]
  refine hK _ ?_; clear hK K
  refine cond_k rfl (fun h => ?_) (fun h => ?_)
  · simp at h
    have hI := h
    have h' : n < s.size := by omega
    have hn0 : (0 : Int) ≤ (n : Nat) := by omega
    have hle : (n : Int) ≤ (s.size : Nat) := by omega
    have hle' : n ≤ s.size := by omega
    refine region_k T_ok (by decide) fun K hK => ?_
    simp [go_sem, hn0, hle, hle']
    refine hK _ ?_; clear hK K
    refine tr_ret ⟨.inr rfl, ?_⟩
    simp [go_sem, cutS, h']
  · simp at h
    have h' : ¬ n < s.size := by omega
    refine tr_skip ?_
    refine hK1 _ ?_; try clear hK1 K1
    refine region_k T_ok (by decide) fun K hK => ?_
    simp [go_sem]
    refine hK _ ?_; clear hK K
    refine tr_ret ⟨.inr rfl, ?_⟩
    simp [go_sem, cutS, h']

set_option maxRecDepth 100000 in
set_option maxHeartbeats 16000000 in
theorem passing_pf0  : Pf Try.prog 75 [] (.agg [.ro 2 (inis passing.locs), .ro 1 (thrs passing.ths), .val (.slice none 0 0)]) := by
  refine Pf.of_fz 3 .nil (.agg (.cons (nl_inis _) (.cons (nl_thrs _) (.cons (.val _) .nil)))) ?_
  refine fn_in T_ok func75 rfl rfl ntmps75 rfl (by simp) ?_
  refine region_k T_ok (by decide) fun K hK => ?_
  simp [go_sem]
  refine hK _ ?_; clear hK K
  refine region_k T_ok (by decide) fun K hK => ?_
  simp [go_sem]
  refine hK _ ?_; clear hK K
  refine region_k T_ok (by decide) fun K hK => ?_
  simp [go_sem]
  refine hK _ ?_; clear hK K
  refine tr_ret ⟨.inr rfl, ?_⟩
  simp [go_sem, passing, zI, inis, iniC, Ini.cs, thrs, inss, insC, Ins.cs]

theorem passing_pf : Pf Try.prog 75 [] (.agg passing.cs) :=
  Pf.seen_res' (seen_agg (.cons (SeenAs.refl _) (.cons (SeenAs.refl _) (.cons (seen_nil 3) .nil)))) passing_pf0

end Go.Proofs.Ytflooghnoljpcaa
/- Litmus tests: the walk of Regs. -/
namespace Go.Proofs.Ytflooghnoljpcaa
open Go Go.Sl Go.Proofs.Try

set_option maxHeartbeats 4000000 in
theorem regs_pf (t : Tst) (n : Nat) (l : List Ins) (hn : t.ths[n]? = some l) (hl : l.length ≤ 1000) (hr : ∀ x ∈ l, setB x.op = true → 0 ≤ x.rd ∧ x.rd < 8) : Pf Try.prog 76 [.rp t.cs 0, iV (n : Nat)] (.ro 1 (natV (upTo (setR l) 8))) := by
  refine Pf.of_fz 1 (.cons (nl_rp t) (.cons (.val _) .nil)) (nl_natV _) ?_
  obtain ⟨hlt, hn'⟩ := List.getElem?_eq_some_iff.1 hn
  have hltI : (n : Int) < (t.ths.length : Nat) := by omega
  have hn0 : (0 : Int) ≤ (n : Nat) := by omega
  refine fn_in T_ok func76 rfl rfl ntmps76 rfl (by simp) ?_
  refine region_k T_ok (by decide) fun K hK => ?_
  simp [go_sem]
  refine hK _ ?_; clear hK K
  refine region_k T_ok (by decide) fun K hK => ?_
  simp [go_sem]
  refine hK _ ?_; clear hK K
  refine seq_k fun K1 hK1 => ?_
  refine region_k T_ok (by decide) fun K hK => ?_
  simp [go_sem, Tst.cs, hltI, hlt, hn, hn', hn0]
  refine hK _ ?_; clear hK K
  refine tr_block ?_
  refine loop_p (α := Nat × Nat) (fun a => ⟨41, [(5, .ptr 0 0 0), (17, .ro 13 (inss l)), (18, iV (l.length : Nat)), (19, iV (a.1 : Nat))], [(0, .rows 8 [.agg (boolsC (setR (l.take a.1)))])], a.2 + 1⟩) (fun a => a.1 ≤ l.length) (fun a => l.length - a.1) (0, 0) ?_ ?_ ?_
  · dsimp only; omega
  · refine Weaker.fz 1 0 ?_ ?_ ?_
    · simp [go_sem]
    · first | (simp; done) | (simp; omega)
    · simp [go_sem, setR_nil]
  rintro ⟨i, j⟩ hi
  dsimp only at hi ⊢
  refine region_k T_ok (by decide) fun K hK => ?_
  simp [go_sem]
  refine hK _ ?_; clear hK K
  refine seq_k fun K2 hK2 => ?_
  refine cond_k rfl (fun h => ?_) (fun h => ?_)
  · simp at h
    have hI := h
    clear h
    have h' : i < (l).length := by omega
    obtain ⟨x, hx, hx'⟩ := getAt h'
    have hi0 : (0 : Int) ≤ (i : Nat) := by omega
    have hw : IntKind.i64.wrap ((i : Nat) + 1) = (i : Nat) + 1 := wrap_i64 (by omega) (by omega)
    refine tr_skip ?_
    refine hK2 _ ?_; try clear hK2 K2
    refine seq_k fun K3 hK3 => ?_
    refine tr_block ?_
    refine region_k T_ok (by decide) fun K hK => ?_
    simp [go_sem, hI, hx, hx', hi0, h', insC]
    refine hK _ ?_; clear hK K
    refine region_k T_ok (by decide) fun K hK => ?_
    simp [go_sem, insC]
    refine call_pf (sets_pf x) ?_
    simp [go_sem]
    refine hK _ ?_; clear hK K
    refine cond_k rfl (fun h => ?_) (fun h => ?_)
    · have hs := h
      obtain ⟨g1, g2⟩ := hr x (List.mem_of_getElem? hx) h
      obtain ⟨m, hm⟩ := Int.eq_ofNat_of_zero_le g1
      have hm8 : m < 8 := by omega
      have hmI : (m : Int) < 8 := by omega
      have hm0 : (0 : Int) ≤ (m : Nat) := by omega
      have hm7 : m + 1 ≤ 8 := by omega
      refine region_e T_ok (by decide) fun K hK => ?_
      simp [go_sem, hm, hm8, hmI, hm0, hm7]
      refine hK _ ?_; clear hK K
      refine hK3 _ ?_; try clear hK3 K3
      refine region_e T_ok (by decide) fun K hK => ?_
      simp [go_sem, hw]
      refine hK _ ?_; clear hK K
      refine ⟨(i + 1, j + 1), ?_, ?_, ?_⟩
      · dsimp only; omega
      · dsimp only; omega
      · refine Weaker.fz 1 0 ?_ ?_ ?_
        · simp [go_sem]
        · first | (simp; done) | (simp; omega)
        simp [go_sem]
        refine boolsC_ext fun r _ => ?_
        rw [setR_step hx, hs]
        by_cases e : r = m
        · subst e; simp [hm]
        · have : ¬ x.rd = (r : Int) := by omega
          simp [e, this]
    · have hs := h
      refine tr_skip ?_
      refine hK3 _ ?_; try clear hK3 K3
      refine region_e T_ok (by decide) fun K hK => ?_
      simp [go_sem, hw]
      refine hK _ ?_; clear hK K
      refine ⟨(i + 1, j + 1), ?_, ?_, ?_⟩
      · dsimp only; omega
      · dsimp only; omega
      · refine Weaker.fz 1 0 ?_ ?_ ?_
        · simp [go_sem]
        · first | (simp; done) | (simp; omega)
        simp [go_sem]
        refine boolsC_ext fun r _ => ?_
        rw [setR_step hx, hs]; simp
  · simp at h
    obtain rfl : i = l.length := by omega
    rw [List.take_length]
    refine tr_exit ?_
    refine hK1 _ ?_; try clear hK1 K1
    refine region_k T_ok (by decide) fun K hK => ?_
    simp [go_sem]
    refine hK _ ?_; clear hK K
    refine seq_k fun K4 hK4 => ?_
    refine region_k T_ok (by decide) fun K hK => ?_
    simp [go_sem]
    refine hK _ ?_; clear hK K
    refine tr_block ?_
    refine Tr.weaken (Weaker.ghost 8 1 rfl) ?_
    refine loop_p (α := Nat × Nat × Nat) (fun b => ⟨41, [(8, .sl b.2.1 0 (upTo (setR l) b.1).length), (29, .agg (boolsC (setR l))), (30, iV (b.1 : Nat))], [(b.2.1, .rows 1 (natV (upTo (setR l) b.1)))], b.2.1 + b.2.2 + 1⟩) (fun b => b.1 ≤ 8) (fun b => 8 - b.1) (0, j + 1, 0) ?_ ?_ ?_
    · dsimp only; omega
    · refine Weaker.fz 1 0 ?_ ?_ ?_
      · simp [go_sem, upTo]
      · first | (simp; done) | (simp; omega)
      · simp [go_sem, upTo, natV]
    rintro ⟨b, r, c⟩ hib
    dsimp only at hib ⊢
    refine region_k T_ok (by decide) fun K hK => ?_
    simp [go_sem]
    refine hK _ ?_; clear hK K
    refine seq_k fun K5 hK5 => ?_
    refine cond_k rfl (fun h => ?_) (fun h => ?_)
    · simp at h
      have h' : b < 8 := by omega
      have hbI := h
      clear h
      have hb0 : (0 : Int) ≤ (b : Nat) := by omega
      have hb7 : b + 1 ≤ 8 := by omega
      have hbl := upTo_len (setR l) b
      have hwb : IntKind.i64.wrap ((b : Nat) + 1) = (b : Nat) + 1 := wrap_i64 (by omega) (by omega)
      refine tr_skip ?_
      refine hK5 _ ?_; try clear hK5 K5
      refine seq_k fun K6 hK6 => ?_
      refine tr_block ?_
      refine region_k T_ok (by decide) fun K hK => ?_
      simp [go_sem, h', hbI, hb0, hb7]
      refine hK _ ?_; clear hK K
      refine region_k T_ok (by decide) fun K hK => ?_
      simp [go_sem]
      refine hK _ ?_; clear hK K
      refine cond_k rfl (fun h => ?_) (fun h => ?_)
      · have hb := h
        refine region_e T_ok (by decide) fun K hK => ?_
        simp [go_sem]
        refine ⟨by omega, ?_⟩
        refine hK _ ?_; clear hK K
        refine hK6 _ ?_; try clear hK6 K6
        refine region_e T_ok (by decide) fun K hK => ?_
        simp [go_sem, hwb]
        refine hK _ ?_; clear hK K
        refine ⟨(b + 1, r + c + 2, 0), ?_, ?_, ?_⟩
        · dsimp only; omega
        · dsimp only; omega
        · refine Weaker.fz 1 0 ?_ ?_ ?_
          · simp [go_sem, upTo_yes hb]
          · first | (simp; done) | (simp; omega)
          simp [go_sem, upTo_yes hb, natV_append, natV_one]
      · have hb := h
        refine tr_skip ?_
        refine hK6 _ ?_; try clear hK6 K6
        refine region_e T_ok (by decide) fun K hK => ?_
        simp [go_sem, hwb]
        refine hK _ ?_; clear hK K
        refine ⟨(b + 1, r, c), ?_, ?_, ?_⟩
        · dsimp only; omega
        · dsimp only; omega
        · refine Weaker.fz 1 0 ?_ ?_ ?_
          · simp [go_sem, upTo_no hb]
          · first | (simp; done) | (simp; omega)
          simp [go_sem, upTo_no hb]
    · simp at h
      obtain rfl : b = 8 := by omega
      refine tr_exit ?_
      refine hK4 _ ?_; try clear hK4 K4
      refine region_k T_ok (by decide) fun K hK => ?_
      simp [go_sem]
      refine hK _ ?_; clear hK K
      refine tr_ret ⟨.inr rfl, ?_⟩
      simp [go_sem]

end Go.Proofs.Ytflooghnoljpcaa
/- What tests end with: the walks of Slots and Made. -/
namespace Go.Proofs.Ytflooghnoljpcaa
open Go Go.Sl Go.Proofs.Try

set_option maxHeartbeats 4000000 in
theorem slots_pf (t : Tst) (ht : t.ths.length ≤ 1000) (hl : ∀ x ∈ t.ths, x.length ≤ 1000) (hr : ∀ l ∈ t.ths, ∀ x ∈ l, setB x.op = true → 0 ≤ x.rd ∧ x.rd < 8) (hlo : t.locs.length ≤ 1000) : Pf Try.prog 69 [.rp t.cs 0] (.ro 2 (sloV (slotsT t))) := by
  refine Pf.of_fz 1 (.cons (nl_rp t) .nil) (nl_slo _) ?_
  refine fn_in T_ok func69 rfl rfl ntmps69 rfl (by simp) ?_
  refine region_k T_ok (by decide) fun K hK => ?_
  simp [go_sem]
  refine hK _ ?_; clear hK K
  refine region_k T_ok (by decide) fun K hK => ?_
  simp [go_sem]
  refine hK _ ?_; clear hK K
  refine seq_k fun K1 hK1 => ?_
  refine region_k T_ok (by decide) fun K hK => ?_
  simp [go_sem, Tst.cs]
  refine hK _ ?_; clear hK K
  refine tr_block ?_
  refine Tr.weaken (Weaker.ghost 3 2 rfl) ?_
  refine loop_p (α := Nat × Nat × Nat) (fun a => ⟨47, [(0, .rp t.cs 0), (11, .ro 1 (thrs t.ths)), (12, iV (t.ths.length : Nat)), (13, iV (a.1 : Nat)), (3, .sl a.2.1 0 (slO t.ths a.1).length)], [(a.2.1, .rows 2 (sloV (slO t.ths a.1)))], a.2.1 + a.2.2 + 1⟩) (fun a => a.1 ≤ t.ths.length) (fun a => t.ths.length - a.1) (0, 0, 0) ?_ ?_ ?_
  · dsimp only; omega
  · refine Weaker.fz 1 0 ?_ ?_ ?_
    · simp [go_sem, slO_zero, Tst.cs]
    · first | (simp; done) | (simp; omega)
    · simp [go_sem, slO_zero, sloV_nil]
  rintro ⟨i, r, c⟩ hi
  dsimp only at hi ⊢
  refine region_k T_ok (by decide) fun K hK => ?_
  simp [go_sem]
  refine hK _ ?_; clear hK K
  refine seq_k fun K2 hK2 => ?_
  refine cond_k rfl (fun h => ?_) (fun h => ?_)
  · simp at h
    have hI := h
    clear h
    have h' : i < (t.ths).length := by omega
    obtain ⟨l, hx, hx'⟩ := getAt h'
    have hi0 : (0 : Int) ≤ (i : Nat) := by omega
    have hlm := List.mem_of_getElem? hx
    have hw : IntKind.i64.wrap ((i : Nat) + 1) = (i : Nat) + 1 := wrap_i64 (by omega) (by omega)
    refine tr_skip ?_
    refine hK2 _ ?_; try clear hK2 K2
    refine seq_k fun K3 hK3 => ?_
    refine tr_block ?_
    refine region_k T_ok (by decide) fun K hK => ?_
    simp [go_sem]
    refine hK _ ?_; clear hK K
    refine region_k T_ok (by decide) fun K hK => ?_
    simp [go_sem]
    refine call_pf (regs_pf t i l hx (hl l hlm) (hr l hlm)) ?_
    simp [go_sem]
    refine hK _ ?_; clear hK K
    refine tr_block ?_
    refine loop_p (α := Nat × Nat × Nat) (fun b => ⟨47, [(0, .rp t.cs 0), (11, .ro 1 (thrs t.ths)), (12, iV (t.ths.length : Nat)), (13, iV (i : Nat)), (4, iV (i : Nat)), (18, .ro 1 (natV (upTo (setR l) 8))), (19, iV ((upTo (setR l) 8).length : Nat)), (20, iV (b.1 : Nat)), (3, .sl b.2.1 0 (slP t.ths i l b.1).length)], [(b.2.1, .rows 2 (sloV (slP t.ths i l b.1)))], b.2.1 + b.2.2 + 1⟩) (fun b => b.1 ≤ (upTo (setR l) 8).length) (fun b => (upTo (setR l) 8).length - b.1) (0, r, c) ?_ ?_ ?_
    · dsimp only; omega
    · refine Weaker.fz 1 0 ?_ ?_ ?_
      · simp [go_sem, slP_zero]
      · first | (simp; done) | (simp; omega)
      · simp [go_sem, slP_zero]
    rintro ⟨b, r, c⟩ hib
    dsimp only at hib ⊢
    refine region_k T_ok (by decide) fun K hK => ?_
    simp [go_sem]
    refine hK _ ?_; clear hK K
    refine seq_k fun K4 hK4 => ?_
    refine cond_k rfl (fun h => ?_) (fun h => ?_)
    · have hul := upTo_len (setR l) 8
      simp at h
      have hI2 := h
      clear h
      have h'2 : b < ((upTo (setR l) 8)).length := by omega
      obtain ⟨m, hx2, hx'2⟩ := getAt h'2
      have hi02 : (0 : Int) ≤ (b : Nat) := by omega
      have hw2 : IntKind.i64.wrap ((b : Nat) + 1) = (b : Nat) + 1 := wrap_i64 (by omega) (by omega)
      have hpl := slP_len t.ths i l b
      refine tr_skip ?_
      refine hK4 _ ?_; try clear hK4 K4
      refine seq_k fun K5 hK5 => ?_
      refine tr_block ?_
      refine region_k T_ok (by decide) fun K hK => ?_
      simp [go_sem, hI2, hx2, hx'2, hi02, h'2]
      refine hK _ ?_; clear hK K
      refine region_e T_ok (by decide) fun K hK => ?_
      simp [go_sem]
      refine ⟨by omega, ?_⟩
      refine hK _ ?_; clear hK K
      refine hK5 _ ?_; try clear hK5 K5
      refine region_e T_ok (by decide) fun K hK => ?_
      simp [go_sem, hw2]
      refine hK _ ?_; clear hK K
      refine ⟨(b + 1, r + c + 2, 0), ?_, ?_, ?_⟩
      · dsimp only; omega
      · dsimp only; omega
      · refine Weaker.fz 1 0 ?_ ?_ ?_
        · simp [go_sem, slP_step hx2]
        · first | (simp; done) | (simp; omega)
        simp [go_sem, slP_step hx2, sloV_append]
    · simp at h
      obtain rfl : b = (upTo (setR l) 8).length := by omega
      refine tr_exit ?_
      refine hK3 _ ?_; try clear hK3 K3
      refine region_e T_ok (by decide) fun K hK => ?_
      simp [go_sem, hw]
      refine hK _ ?_; clear hK K
      refine ⟨(i + 1, r, c), ?_, ?_, ?_⟩
      · dsimp only; omega
      · dsimp only; omega
      · refine Weaker.fz 1 0 ?_ ?_ ?_
        · simp [go_sem, slP_all hx]
        · first | (simp; done) | (simp; omega)
        simp [go_sem, slP_all hx]
  · simp at h
    obtain rfl : i = t.ths.length := by omega
    refine tr_exit ?_
    refine hK1 _ ?_; try clear hK1 K1
    refine seq_k fun K6 hK6 => ?_
    refine region_k T_ok (by decide) fun K hK => ?_
    simp [go_sem, Tst.cs]
    refine hK _ ?_; clear hK K
    refine tr_block ?_
    refine loop_p (α := Nat × Nat × Nat) (fun a => ⟨47, [(0, .rp t.cs 0), (36, iV (t.locs.length : Nat)), (37, iV (a.1 : Nat)), (3, .sl a.2.1 0 (slQ t a.1).length)], [(a.2.1, .rows 2 (sloV (slQ t a.1)))], a.2.1 + a.2.2 + 1⟩) (fun a => a.1 ≤ t.locs.length) (fun a => t.locs.length - a.1) (0, r, c) ?_ ?_ ?_
    · dsimp only; omega
    · refine Weaker.fz 1 0 ?_ ?_ ?_
      · simp [go_sem, slO_all, Tst.cs]
      · first | (simp; done) | (simp; omega)
      · simp [go_sem, slO_all]
    rintro ⟨b, r, c⟩ hib
    dsimp only at hib ⊢
    refine region_k T_ok (by decide) fun K hK => ?_
    simp [go_sem]
    refine hK _ ?_; clear hK K
    refine seq_k fun K7 hK7 => ?_
    refine cond_k rfl (fun h => ?_) (fun h => ?_)
    · simp at h
      have hql := slQ_len t b
      have hw3 : IntKind.i64.wrap ((b : Nat) + 1) = (b : Nat) + 1 := wrap_i64 (by omega) (by omega)
      refine tr_skip ?_
      refine hK7 _ ?_; try clear hK7 K7
      refine seq_k fun K8 hK8 => ?_
      refine tr_block ?_
      refine region_k T_ok (by decide) fun K hK => ?_
      simp [go_sem]
      refine hK _ ?_; clear hK K
      refine region_e T_ok (by decide) fun K hK => ?_
      simp [go_sem]
      refine ⟨by omega, ?_⟩
      refine hK _ ?_; clear hK K
      refine hK8 _ ?_; try clear hK8 K8
      refine region_e T_ok (by decide) fun K hK => ?_
      simp [go_sem, hw3]
      refine hK _ ?_; clear hK K
      refine ⟨(b + 1, r + c + 2, 0), ?_, ?_, ?_⟩
      · dsimp only; omega
      · dsimp only; omega
      · refine Weaker.fz 1 0 ?_ ?_ ?_
        · simp [go_sem, slQ_step]
        · first | (simp; done) | (simp; omega)
        simp [go_sem, slQ_step, sloV_append]
    · simp at h
      obtain rfl : b = t.locs.length := by omega
      refine tr_exit ?_
      refine hK6 _ ?_; try clear hK6 K6
      refine region_k T_ok (by decide) fun K hK => ?_
      simp [go_sem]
      refine hK _ ?_; clear hK K
      refine tr_ret ⟨.inr rfl, ?_⟩
      simp [go_sem, slQ_all, List.take_of_length_le]

set_option maxHeartbeats 4000000 in
theorem made_pf (t : Tst) (ht : t.ths.length ≤ 4) (hl : ∀ x ∈ t.ths, x.length ≤ 1000) (hr : ∀ l ∈ t.ths, ∀ x ∈ l, setB x.op = true → 0 ≤ x.rd ∧ x.rd < 8) (hlo : t.locs.length ≤ 8) (g : List (Nat → Int)) (hg : g.length = t.ths.length) (f : Nat → Int) : Pf Try.prog 114 [.rp t.cs 0, .ro 8 (usRows g), .agg (hangC f)] (.agg (stK (madeK t g f))) := by
  refine Pf.of_fz 1 (.cons (nl_rp t) (.cons (nl_usRows g) (.cons (.agg (nl_hang f)) .nil))) (.agg (nl_stK _)) ?_
  have hs40 := slotsT_len ht hlo
  have hml := madeL_len t g f
  have hslots := slots_pf t (by omega) hl hr (by omega)
  refine fn_in T_ok func114 rfl rfl ntmps114 rfl (by simp) ?_
  refine region_k T_ok (by decide) fun K hK => ?_
  simp [go_sem, uVs_zeros40]
  refine hK _ ?_; clear hK K
  refine region_k T_ok (by decide) fun K hK => ?_
  simp [go_sem, uVs_zeros40]
  refine hK _ ?_; clear hK K
  refine seq_k fun K1 hK1 => ?_
  refine region_k T_ok (by decide) fun K hK => ?_
  simp [go_sem]
  refine call_pf hslots ?_
  simp [go_sem]
  refine hK _ ?_; clear hK K
  refine tr_block ?_
  refine loop_p (α := Nat × Nat) (fun a => ⟨46, [(1, .ro 8 (usRows g)), (5, .ptr 0 0 0), (6, .ptr 1 0 0), (7, .ptr 2 0 0), (11, .ro 2 (sloV (slotsT t))), (12, iV ((slotsT t).length : Nat)), (13, iV (a.1 : Nat))], [(2, .rows 41 [.agg (iV (a.1 : Nat) :: uVs (padT ((madeL t g f).take a.1)))]), (0, .rows 8 [.agg (hangC f)]), (1, .rows 41 [.agg (iV 0 :: uVs (List.replicate 40 0))])], a.2⟩) (fun a => a.1 ≤ (slotsT t).length ∧ 2 < a.2) (fun a => (slotsT t).length - a.1) (0, 3) ?_ ?_ ?_
  · dsimp only; omega
  · refine Weaker.fzk 1 0 (by first | omega | (dsimp only; omega)) ?_ ?_ ?_
    · simp [go_sem]
    · first | (simp; done) | (simp; omega)
    · simp [go_sem, padT, uVs]
  rintro ⟨i, j⟩ ⟨hi, hj⟩
  dsimp only at hi hj ⊢
  refine region_k T_ok (by decide) fun K hK => ?_
  simp [go_sem]
  refine hK _ ?_; clear hK K
  refine seq_k fun K2 hK2 => ?_
  refine cond_k rfl (fun h => ?_) (fun h => ?_)
  · simp at h
    have hI := h
    clear h
    have h' : i < (slotsT t).length := by omega
    obtain ⟨p, hx, hx'⟩ := getAt h'
    have hi0 : (0 : Int) ≤ (i : Nat) := by omega
    obtain ⟨a, b⟩ := p
    have hmem := slots_mem (List.mem_of_getElem? hx)
    have hm : (madeL t g f)[i]? = some (madeN g f (a, b)) := by unfold madeL; rw [List.getElem?_map, hx]; rfl
    have hpl : (padT ((madeL t g f).take i)).length = 40 := padT_len (by rw [List.length_take]; omega)
    have hi40 : i < 40 := by omega
    have hI40 : (i : Int) < 40 := by omega
    have hst := padT_step hm (by omega)
    have hw : IntKind.i64.wrap ((i : Nat) + 1) = (i : Nat) + 1 := wrap_i64 (by omega) (by omega)
    have e0 : ¬ j = 0 := by omega
    have eq0 : ¬ 0 = j := by omega
    have e2 : ¬ j = 1 := by omega
    have eq2 : ¬ 1 = j := by omega
    have e4 : ¬ j = 2 := by omega
    have eq4 : ¬ 2 = j := by omega
    refine tr_skip ?_
    refine hK2 _ ?_; try clear hK2 K2
    refine seq_k fun K3 hK3 => ?_
    refine tr_block ?_
    refine region_k T_ok (by decide) fun K hK => ?_
    simp [go_sem, hI, hx, hx', hi0, h', e0, eq0, e2, eq2, e4, eq4]
    refine hK _ ?_; clear hK K
    refine seq_to ⟨46, [(1, .ro 8 (usRows g)), (5, .ptr 0 0 0), (6, .ptr 1 0 0), (7, .ptr 2 0 0), (11, .ro 2 (sloV (slotsT t))), (12, iV ((slotsT t).length : Nat)), (13, iV (i : Nat))], [(2, .rows 41 [.agg (iV (i : Nat) :: uVs (padT ((madeL t g f).take (i + 1))))]), (0, .rows 8 [.agg (hangC f)]), (1, .rows 41 [.agg (iV 0 :: uVs (List.replicate 40 0))])], j + 40⟩ ?_ ?_
    · skip
      refine region_k T_ok (by decide) fun K hK => ?_
      simp [go_sem, e0, eq0, e2, eq2, e4, eq4]
      refine hK _ ?_; clear hK K
      refine cond_k rfl (fun h => ?_) (fun h => ?_)
      · have ha : a < 0 := by simpa using h
        obtain ⟨n, hn, hn8⟩ : ∃ n : Nat, b = n ∧ n < 8 := by
          rcases hmem with ⟨n, hn, h2⟩ | ⟨q, r, hn, h2, h3⟩
          · cases hn; exact ⟨n, rfl, by omega⟩
          · cases hn; omega
        subst hn
        have hnI : (n : Int) < 8 := by omega
        have hn0 : (0 : Int) ≤ (n : Nat) := by omega
        have hmv : madeN g f (a, (n : Int)) = f n := by simp [madeN, ha]
        rw [hmv] at hst
        refine draw_e T_ok (by kernel_rfl) 7 [[], [0], [], [2], [2, 3], [2, 3, 4], [], [0, 1, 2, 3, 4, 5, 6], [0, 1, 2, 3, 4, 5, 6, 7]] [] (by decide) (by decide) (by decide) fun K hK => ?_
        first | dsimp only [List.take, List.drop] | dsimp [List.take, List.drop]
        simp [go_sem, hnI, hn0, hn8, hangC_part f hn8, hI40, hi40, hi0, hpl, put_stV, hst, e0, eq0, e2, eq2, e4, eq4]
        refine ⟨by omega, by omega, ?_⟩
        refine hK _ ?_; clear hK K
        refine Weaker.fzk 1 0 (by omega) ?_ ?_ ?_
        · simp [go_sem, e0, eq0, e2, eq2, e4, eq4]
        · first | (simp; done) | (simp; omega)
        · simp [go_sem, e0, eq0, e2, eq2, e4, eq4]
      · have ha : ¬ a < 0 := by simpa using h
        obtain ⟨q, r, hq, hr2, hq2, hr8⟩ : ∃ q r : Nat, a = q ∧ b = r ∧ q < g.length ∧ r < 8 := by
          rcases hmem with ⟨n, hn, h2⟩ | ⟨q, r, hn, h2, h3⟩
          · cases hn; omega
          · cases hn; exact ⟨q, r, rfl, rfl, by omega, h3⟩
        subst hq hr2
        obtain ⟨gf, hgf, hgf'⟩ := getAt hq2
        have hrI : (r : Int) < 8 := by omega
        have hr0 : (0 : Int) ≤ (r : Nat) := by omega
        have hqI : (q : Int) < (g.length : Nat) := by omega
        have hq0 : (0 : Int) ≤ (q : Nat) := by omega
        have hmv : madeN g f ((q : Int), (r : Int)) = gf r := by unfold madeN; rw [if_neg ha]; simp [hgf]
        rw [hmv] at hst
        refine draw_e T_ok (by kernel_rfl) 11 [[], [0], [], [], [3], [], [5], [2, 3, 4], [2, 3, 4, 5, 6, 7], [2, 3, 4, 5, 6, 7, 8], [], [0, 1, 2, 3, 4, 5, 6, 7, 8, 9, 10], [0, 1, 2, 3, 4, 5, 6, 7, 8, 9, 10, 11]] [] (by decide) (by decide) (by decide) fun K hK => ?_
        first | dsimp only [List.take, List.drop] | dsimp [List.take, List.drop]
        simp [go_sem, hrI, hr0, hr8, hqI, hq0, hq2, hgf, hgf', hangC_part gf hr8, hI40, hi40, hi0, hpl, put_stV, hst, e0, eq0, e2, eq2, e4, eq4]
        refine ⟨by omega, by omega, ?_⟩
        refine hK _ ?_; clear hK K
        refine Weaker.fzk 1 0 (by omega) ?_ ?_ ?_
        · simp [go_sem, e0, eq0, e2, eq2, e4, eq4]
        · first | (simp; done) | (simp; omega)
        · simp [go_sem, e0, eq0, e2, eq2, e4, eq4]
    · skip
      refine region_e T_ok (by decide) fun K hK => ?_
      simp [go_sem, hw, put_stN, e0, eq0, e2, eq2, e4, eq4]
      refine hK _ ?_; clear hK K
      refine hK3 _ ?_; try clear hK3 K3
      refine region_e T_ok (by decide) fun K hK => ?_
      simp [go_sem, hw]
      refine hK _ ?_; clear hK K
      refine ⟨(i + 1, j + 100), ?_, ?_, ?_⟩
      · dsimp only; omega
      · dsimp only; omega
      · refine Weaker.fzk 1 0 (by first | omega | (dsimp only; omega)) ?_ ?_ ?_
        · simp [go_sem, e0, eq0, e2, eq2, e4, eq4]
        · first | (simp; done) | (simp; omega)
        simp [go_sem, e0, eq0, e2, eq2, e4, eq4]
  · simp at h
    obtain rfl : i = (slotsT t).length := by omega
    have hpe : (padT (madeL t g f)).length = 40 := padT_len (by omega)
    have htk : (madeL t g f).take (slotsT t).length = madeL t g f := List.take_of_length_le (by omega)
    refine tr_exit ?_
    refine hK1 _ ?_; try clear hK1 K1
    refine region_k T_ok (by decide) fun K hK => ?_
    simp [go_sem, htk, hpe, us_ones, List.take_of_length_le]
    refine hK _ ?_; clear hK K
    refine tr_ret ⟨.inr rfl, ?_⟩
    simp [go_sem, madeK, stK_cons, hml, htk, hpe, uVs_nil, List.take_of_length_le]

end Go.Proofs.Ytflooghnoljpcaa
/- The machine with store buffers: the walk of end. -/
namespace Go.Proofs.Ytflooghnoljpcaa
open Go Go.Sl Go.Proofs.Try
theorem hang_drop (f : Nat → Int) : List.drop 8 (hangC f) = [] := rfl
theorem hang_frz (f : Nat → Int) (S : List Nat) (H : Heap) (d : Nat) : (hangC f).map (frz S H d) = hangC f := by cases d <;> rfl
theorem us_elem (g : List (Nat → Int)) (S : List Nat) (H : Heap) (d : Nat) : (usRows g).map (elemF (frz S H d)) = usRows g := by
  simp only [usRows, List.map_map]
  exact List.map_congr_left fun f _ => by simp only [Function.comp, elemF, hang_frz]
theorem us_take (k : List Int) (n : Nat) : List.take n (usRows (gA k n)) = usRows (gA k n) := List.take_of_length_le (by simp [usRows, gA])
theorem specS : eqSpec T 16 125 = some stSpec := by kernel_rfl

set_option maxHeartbeats 8000000 in
set_option maxRecDepth 100000 in
theorem end_fn (t : Tst) (ht : t.ths.length ≤ 4) (hlt : ∀ x ∈ t.ths, x.length ≤ 1000) (hrd : ∀ l ∈ t.ths, ∀ x ∈ l, setB x.op = true → 0 ≤ x.rd ∧ x.rd < 8) (hlo : t.locs.length ≤ 8) (k : List Int) (hk : k.length = 112) (D : List (List Int)) (hD : ∀ q ∈ D, q.length = 41) (r n : Nat) (hr : 2 < r) (hrn : r < n) : Sl.Fn Try.prog 121 [.ptr 2 0 0, .ptr r 0 0] [(2, .rows 3 [.agg [.rp t.cs 0, .map 0, .map 1]]), (1, .map (seenM D)), (r, .rows 112 [.agg (mV k)])] n fun v H _ => v = .tup [] ∧ H = [(2, .rows 3 [.agg [.rp t.cs 0, .map 0, .map 1]]), (1, .map (seenM (addK (endK t k) D))), (r, .rows 112 [.agg (mV k)])] := by
  refine Fn.view ?_
  have nn0 : ¬ r = 2 := by omega
  have mm0 : ¬ 2 = r := by omega
  have nn1 : ¬ r = 1 := by omega
  have mm1 : ¬ 1 = r := by omega
  have nn2 : ¬ r = n := by omega
  have mm2 : ¬ n = r := by omega
  have nn3 : ¬ 2 = n := by omega
  have mm3 : ¬ n = 2 := by omega
  have nn4 : ¬ 1 = n := by omega
  have mm4 : ¬ n = 1 := by omega
  have hke : (endK t k).length = 41 := madeK_len ht hlo _ _
  have hn0 : (0 : Int) ≤ (t.ths.length : Nat) := by omega
  refine fn_in T_ok func121 rfl rfl ntmps121 rfl (by simp) ?_
  refine region_k T_ok (by decide) fun K hK => ?_
  simp [go_sem, nn0, mm0, nn1, mm1, nn2, mm2, nn3, mm3, nn4, mm4, Tst.cs, hn0]
  repeat refine ⟨by omega, ?_⟩
  refine hK _ ?_; clear hK K
  refine seq_k fun K1 hK1 => ?_
  refine region_k T_ok (by decide) fun K hK => ?_
  simp [go_sem]
  refine hK _ ?_; clear hK K
  refine tr_block ?_
  refine loop_p (α := Nat) (fun a => ⟨45, [(0, .ptr 2 0 0), (1, .ptr r 0 0), (4, .sl n 0 t.ths.length), (16, iV (t.ths.length : Nat)), (17, iV (a : Nat))], [(n, .rows 8 (usRows (gI k t.ths.length a))), (2, .rows 3 [.agg [.rp t.cs 0, .map 0, .map 1]]), (1, .map (seenM D)), (r, .rows 112 [.agg (mV k)])], n + 1⟩) (fun a => a ≤ t.ths.length) (fun a => t.ths.length - a) 0 ?_ ?_ ?_
  · exact Nat.zero_le _
  · refine Weaker.fz 1 0 ?_ ?_ ?_
    · simp [go_sem, nn0, mm0, nn1, mm1, nn2, mm2, nn3, mm3, nn4, mm4, gI_zero, Tst.cs, List.replicate_succ]
    · first | (simp; done) | (simp; omega)
    · simp [go_sem, nn0, mm0, nn1, mm1, nn2, mm2, nn3, mm3, nn4, mm4, gI_zero, Tst.cs, List.replicate_succ]
  rintro i hi
  skip
  refine region_k T_ok (by decide) fun K hK => ?_
  simp [go_sem]
  refine hK _ ?_; clear hK K
  refine seq_k fun K2 hK2 => ?_
  refine cond_k rfl (fun h => ?_) (fun h => ?_)
  · simp at h
    have hin : i < t.ths.length := by omega
    clear h
    have hinI : (i : Int) < (t.ths.length : Nat) := by omega
    have hi4 : i < 4 := by omega
    have hi4I : (i : Int) < 4 := by omega
    have hi0 : (0 : Int) ≤ (i : Nat) := by omega
    have hw : IntKind.i64.wrap ((i : Nat) + 1) = (i : Nat) + 1 := wrap_i64 (by omega) (by omega)
    refine tr_skip ?_
    refine hK2 _ ?_; try clear hK2 K2
    refine seq_k fun K3 hK3 => ?_
    refine tr_block ?_
    refine region_k T_ok (by decide) fun K hK => ?_
    simp [go_sem]
    refine hK _ ?_; clear hK K
    refine region_e T_ok (by decide) fun K hK => ?_
    simp [go_sem, nn0, mm0, nn1, mm1, nn2, mm2, nn3, mm3, nn4, mm4, hin, hinI, hi4, hi4I, hi0, mV_112 hk, mV_regs hk hi4, gI_len, hang_drop, gI_set hin]
    repeat refine ⟨by omega, ?_⟩
    refine hK _ ?_; clear hK K
    refine hK3 _ ?_; try clear hK3 K3
    refine region_e T_ok (by decide) fun K hK => ?_
    simp [go_sem, hw]
    refine hK _ ?_; clear hK K
    refine ⟨i + 1, ?_, ?_, ?_⟩
    · omega
    · omega
    · refine Weaker.fz 1 0 ?_ ?_ ?_
      · simp [go_sem, nn0, mm0, nn1, mm1, nn2, mm2, nn3, mm3, nn4, mm4, gI_zero, Tst.cs, List.replicate_succ]
      · first | (simp; done) | (simp; omega)
      simp [go_sem, nn0, mm0, nn1, mm1, nn2, mm2, nn3, mm3, nn4, mm4, gI_zero, Tst.cs, List.replicate_succ]
  · simp at h
    obtain rfl : i = t.ths.length := by omega
    clear h
    refine tr_exit ?_
    refine hK1 _ ?_; try clear hK1 K1
    have hmk : Pf Try.prog 114 [.rp t.cs 0, .ro 8 (usRows (gA k t.ths.length)), .agg (hangC (fM k))] (.agg (stK (endK t k))) := made_pf t ht hlt hrd hlo (gA k t.ths.length) (gA_len _ _) (fM k)
    have he : eqCells [EK.int, EK.int, EK.int, EK.int, EK.int, EK.int, EK.int, EK.int, EK.int, EK.int, EK.int, EK.int, EK.int, EK.int, EK.int, EK.int, EK.int, EK.int, EK.int, EK.int, EK.int, EK.int, EK.int, EK.int, EK.int, EK.int, EK.int, EK.int, EK.int, EK.int, EK.int, EK.int, EK.int, EK.int, EK.int, EK.int, EK.int, EK.int, EK.int, EK.int, EK.int] (stK (endK t k)) (stK (endK t k)) = _ := eq_stK hke hke
    have hi : insV [EK.int, EK.int, EK.int, EK.int, EK.int, EK.int, EK.int, EK.int, EK.int, EK.int, EK.int, EK.int, EK.int, EK.int, EK.int, EK.int, EK.int, EK.int, EK.int, EK.int, EK.int, EK.int, EK.int, EK.int, EK.int, EK.int, EK.int, EK.int, EK.int, EK.int, EK.int, EK.int, EK.int, EK.int, EK.int, EK.int, EK.int, EK.int, EK.int, EK.int, EK.int] (stK (endK t k)) (bV true) (seenM D) = _ := ins_seen hke hD
    have ha : (if endK t k ∈ D then D else D ++ [endK t k]) = addK (endK t k) D := rfl
    rw [ha] at hi
    refine draw_e T_ok (by kernel_rfl) 14 [[], [0], [0, 1], [0, 1, 2], [], [4], [4, 5], [4, 5, 6], [], [], [9], [9, 10], [9, 10, 11], [4, 5, 6, 7, 8, 9, 10, 11, 12], [0, 1, 2, 3, 4, 5, 6, 7, 8, 9, 10, 11, 12, 13]] [] (by decide) (by decide) (by decide) fun K hK => ?_
    first | dsimp only [List.take, List.drop] | dsimp [List.take, List.drop]
    simp [go_sem, nn0, mm0, nn1, mm1, nn2, mm2, nn3, mm3, nn4, mm4, mV_112 hk, mV_mems hk]
    refine callD_lendP hmk (pure_agg (stK_vals _)) 2 (by simp [go_sem, gI_all, gA_len, us_elem, us_take, hang_frz, nn0, mm0, nn1, mm1, nn2, mm2, nn3, mm3, nn4, mm4]) ?_
    simp [go_sem, he, hi, nn0, mm0, nn1, mm1, nn2, mm2, nn3, mm3, nn4, mm4]
    refine hK _ ?_; clear hK K
    refine ⟨.inl rfl, ?_⟩
    simp [go_sem]
    exact ⟨_, _, View.del n _, rfl, by simp [Sl.del, nn0, mm0, nn1, mm1, nn2, mm2, nn3, mm3, nn4, mm4]⟩

end Go.Proofs.Ytflooghnoljpcaa
/- The machine with store buffers: the walk of explore. -/
namespace Go.Proofs.Ytflooghnoljpcaa
open Go Go.Sl Go.Proofs.Try
theorem setB_rd {t : Tst} (ht : TTOk t) : ∀ l ∈ t.ths, ∀ x ∈ l, setB x.op = true → 0 ≤ x.rd ∧ x.rd < 8 := fun l hl x hx _ => by
  obtain ⟨i, hi⟩ := List.getElem?_of_mem hl
  obtain ⟨p, hp⟩ := List.getElem?_of_mem hx
  have := (ht.thr i l hi).2 p x hp
  exact ⟨this.rd0, this.rd8⟩
theorem thr_len {t : Tst} (ht : TTOk t) : ∀ x ∈ t.ths, x.length ≤ 1000 := fun l hl => by
  obtain ⟨i, hi⟩ := List.getElem?_of_mem hl
  have := (ht.thr i l hi).1
  omega
abbrev exH (t : Tst) (s : Ex) : Heap := [(2, .rows 3 [.agg [.rp t.cs 0, .map 0, .map 1]]), (0, .map (seenT s.1)), (1, .map (seenM s.2))]
def ExpC (t : Tst) (n : Nat) : Prop := ∀ k, MOk t k → muT t k < n → ∀ s, ExOk s → ∀ j, 2 < j → Sl.Fn Try.prog 101 [.ptr 2 0 0, .agg (mV k)] (exH t s) j fun v H _ => v = .tup [] ∧ H = exH t (explT t n k s)

set_option maxHeartbeats 8000000 in
set_option maxRecDepth 100000 in
theorem explore1_fn (t : Tst) (ht : TTOk t) (n : Nat) (ih : ExpC t n) (k : List Int) (hM : MOk t k) (hmu : muT t k < n + 1) (s : Ex) (hs : ExOk s) (j : Nat) (hj : 2 < j) : Sl.Fn Try.prog 101 [.ptr 2 0 0, .agg (mV k)] (exH t s) j fun v H _ => v = .tup [] ∧ H = exH t (explT t (n + 1) k s) := by
  refine Fn.view ?_
  have nn50 : ¬ j = 0 := by omega
  have mm50 : ¬ 0 = j := by omega
  have nn51 : ¬ j = 1 := by omega
  have mm51 : ¬ 1 = j := by omega
  have nn52 : ¬ j = 2 := by omega
  have mm52 : ¬ 2 = j := by omega
  have hk := hM.len
  have hkl : (mV k).length = 112 := mV_112 hk
  have hko := mV_one k
  have hkt : List.take 112 (mV k) = mV k := List.take_of_length_le (by omega)
  have hf := find_seenT hk hs.seen
  have hi2 := ins_seenT hk hs.seen
  have he : eqCells [EK.int, EK.int, EK.int, EK.int, EK.int, EK.int, EK.int, EK.int, EK.int, EK.int, EK.int, EK.int, EK.int, EK.int, EK.int, EK.int, EK.int, EK.int, EK.int, EK.int, EK.int, EK.int, EK.int, EK.int, EK.int, EK.int, EK.int, EK.int, EK.int, EK.int, EK.int, EK.int, EK.int, EK.int, EK.int, EK.int, EK.int, EK.int, EK.int, EK.int, EK.int, EK.int, EK.int, EK.int, EK.int, EK.int, EK.int, EK.int, EK.int, EK.int, EK.int, EK.int, EK.int, EK.int, EK.int, EK.int, EK.int, EK.int, EK.int, EK.int, EK.int, EK.int, EK.int, EK.int, EK.int, EK.int, EK.int, EK.int, EK.int, EK.int, EK.int, EK.int, EK.int, EK.int, EK.int, EK.int, EK.int, EK.int, EK.int, EK.int, EK.int, EK.int, EK.int, EK.int, EK.int, EK.int, EK.int, EK.int, EK.int, EK.int, EK.int, EK.int, EK.int, EK.int, EK.int, EK.int, EK.int, EK.int, EK.int, EK.int, EK.int, EK.int, EK.int, EK.int, EK.int, EK.int, EK.int, EK.int, EK.int, EK.int, EK.int, EK.int] (mV k) (mV k) = some (decide (k = k)) := eq_mV hk hk
  have hf1 : findV [EK.int, EK.int, EK.int, EK.int, EK.int, EK.int, EK.int, EK.int, EK.int, EK.int, EK.int, EK.int, EK.int, EK.int, EK.int, EK.int, EK.int, EK.int, EK.int, EK.int, EK.int, EK.int, EK.int, EK.int, EK.int, EK.int, EK.int, EK.int, EK.int, EK.int, EK.int, EK.int, EK.int, EK.int, EK.int, EK.int, EK.int, EK.int, EK.int, EK.int, EK.int, EK.int, EK.int, EK.int, EK.int, EK.int, EK.int, EK.int, EK.int, EK.int, EK.int, EK.int, EK.int, EK.int, EK.int, EK.int, EK.int, EK.int, EK.int, EK.int, EK.int, EK.int, EK.int, EK.int, EK.int, EK.int, EK.int, EK.int, EK.int, EK.int, EK.int, EK.int, EK.int, EK.int, EK.int, EK.int, EK.int, EK.int, EK.int, EK.int, EK.int, EK.int, EK.int, EK.int, EK.int, EK.int, EK.int, EK.int, EK.int, EK.int, EK.int, EK.int, EK.int, EK.int, EK.int, EK.int, EK.int, EK.int, EK.int, EK.int, EK.int, EK.int, EK.int, EK.int, EK.int, EK.int, EK.int, EK.int, EK.int, EK.int, EK.int, EK.int] (mV k) (seenT s.1) = some (if k ∈ s.1 then some (bV true) else none) := hf
  have hi1 : insV [EK.int, EK.int, EK.int, EK.int, EK.int, EK.int, EK.int, EK.int, EK.int, EK.int, EK.int, EK.int, EK.int, EK.int, EK.int, EK.int, EK.int, EK.int, EK.int, EK.int, EK.int, EK.int, EK.int, EK.int, EK.int, EK.int, EK.int, EK.int, EK.int, EK.int, EK.int, EK.int, EK.int, EK.int, EK.int, EK.int, EK.int, EK.int, EK.int, EK.int, EK.int, EK.int, EK.int, EK.int, EK.int, EK.int, EK.int, EK.int, EK.int, EK.int, EK.int, EK.int, EK.int, EK.int, EK.int, EK.int, EK.int, EK.int, EK.int, EK.int, EK.int, EK.int, EK.int, EK.int, EK.int, EK.int, EK.int, EK.int, EK.int, EK.int, EK.int, EK.int, EK.int, EK.int, EK.int, EK.int, EK.int, EK.int, EK.int, EK.int, EK.int, EK.int, EK.int, EK.int, EK.int, EK.int, EK.int, EK.int, EK.int, EK.int, EK.int, EK.int, EK.int, EK.int, EK.int, EK.int, EK.int, EK.int, EK.int, EK.int, EK.int, EK.int, EK.int, EK.int, EK.int, EK.int, EK.int, EK.int, EK.int, EK.int, EK.int, EK.int] (mV k) (bV true) (seenT s.1) = some (seenT (if k ∈ s.1 then s.1 else s.1 ++ [k])) := hi2
  clear hf hi2
  have hn0 : (0 : Int) ≤ (t.ths.length : Nat) := by omega
  have hall := fun i (hi : i ≤ t.ths.length) => allT_ok ht hM (fun q s hq hs => explT_ok ht n q s hq hs) i hi (s := (s.1 ++ [k], s.2)) ⟨fun q hq => by rcases List.mem_append.1 hq with hq | hq; exact hs.seen q hq; simp at hq; subst hq; exact hM.len, hs.ends⟩
  refine fn_in T_ok func101 rfl rfl ntmps101 rfl (by simp) ?_
  refine region_k T_ok (by decide) fun K hK => ?_
  simp [go_sem, hkl, hko, hkt, nn50, mm50, nn51, mm51, nn52, mm52]
  refine ⟨hko, ?_⟩
  refine hK _ ?_; clear hK K
  refine seq_k fun K1 hK1 => ?_
  refine draw_k T_ok (by kernel_rfl) 5 [[], [0], [0, 1], [0, 1, 2], [], [0, 1, 2, 3, 4]] [] (by decide) (by decide) (by decide) fun K hK => ?_
  first | dsimp only [List.take, List.drop] | dsimp [List.take, List.drop]
  simp [go_sem, hkl, hko, hkt, nn50, mm50, nn51, mm51, nn52, mm52, he, hf1]
  by_cases hk1 : k ∈ s.1
  · simp [go_sem, hk1]
    refine hK _ ?_; clear hK K
    refine cond_k rfl (fun h => ?_) (fun h => ?_)
    · clear h
      refine tr_ret ⟨.inr rfl, ?_⟩
      have hex : explT t (n + 1) k s = s := by rw [explT, if_pos hk1]
      rw [hex]
      simp [go_sem]
      exact ⟨_, _, View.del j _, rfl, by simp [Sl.del, nn50, mm50, nn51, mm51, nn52, mm52]⟩
    · simp at h
  · simp [go_sem, hk1]
    refine hK _ ?_; clear hK K
    refine cond_k rfl (fun h => ?_) (fun h => ?_)
    · simp at h
    · clear h
      refine tr_skip ?_
      refine hK1 _ ?_; try clear hK1 K1
      refine draw_k T_ok (by kernel_rfl) 5 [[], [0], [0, 1], [0, 1, 2], [], [0, 1, 2, 3, 4]] [] (by decide) (by decide) (by decide) fun K hK => ?_
      first | dsimp only [List.take, List.drop] | dsimp [List.take, List.drop]
      simp [go_sem, hkl, hko, hkt, nn50, mm50, nn51, mm51, nn52, mm52, he, hi1, hk1]
      refine hK _ ?_; clear hK K
      refine region_k T_ok (by decide) fun K hK => ?_
      simp [go_sem]
      refine hK _ ?_; clear hK K
      refine seq_k fun K2 hK2 => ?_
      refine region_k T_ok (by decide) fun K hK => ?_
      simp [go_sem, nn50, mm50, nn51, mm51, nn52, mm52, Tst.cs]
      refine hK _ ?_; clear hK K
      refine tr_block ?_
      refine loop_p (α := Nat × Nat) (fun a => ⟨59, [(0, .ptr 2 0 0), (3, .ptr j 0 0), (26, iV (t.ths.length : Nat)), (27, iV (a.1 : Nat)), (4, bV (overT t k a.1))], [(j, .rows 112 [.agg (mV k)]), (2, .rows 3 [.agg [.rp t.cs 0, .map 0, .map 1]]), (0, .map (seenT (allT (explT t n) t k a.1 (s.1 ++ [k], s.2)).1)), (1, .map (seenM (allT (explT t n) t k a.1 (s.1 ++ [k], s.2)).2))], a.2⟩) (fun a => a.1 ≤ t.ths.length ∧ j < a.2) (fun a => t.ths.length - a.1) (0, j + 1 + 5 + 5) ?_ ?_ ?_
      · exact ⟨Nat.zero_le _, by dsimp only; omega⟩
      · refine Weaker.fzk 1 0 (by first | omega | (dsimp only; omega)) ?_ ?_ ?_
        · simp [go_sem, overT, nn50, mm50, nn51, mm51, nn52, mm52]
        · first | (simp; done) | (simp; omega)
        · simp [go_sem, allT, Tst.cs, nn50, mm50, nn51, mm51, nn52, mm52]
      rintro ⟨i, jn⟩ ⟨hi, hjn⟩
      dsimp only at hi hjn ⊢
      have nn0 : ¬ jn = 0 := by omega
      have mm0 : ¬ 0 = jn := by omega
      have nn1 : ¬ jn = 1 := by omega
      have mm1 : ¬ 1 = jn := by omega
      have nn2 : ¬ jn = 2 := by omega
      have mm2 : ¬ 2 = jn := by omega
      have nn3 : ¬ j = jn := by omega
      have mm3 : ¬ jn = j := by omega
      refine region_k T_ok (by decide) fun K hK => ?_
      simp [go_sem]
      refine hK _ ?_; clear hK K
      refine seq_k fun K3 hK3 => ?_
      refine cond_k rfl (fun h => ?_) (fun h => ?_)
      · simp at h
        have hin : i < t.ths.length := by omega
        clear h
        have hi4 : i < 4 := by have := ht.ths; omega
        have hi4I : (i : Int) < 4 := by omega
        have hi0 : (0 : Int) ≤ (i : Nat) := by omega
        have hw1 : IntKind.i64.wrap ((i : Nat) + 1) = (i : Nat) + 1 := wrap_i64 (by omega) (by have := ht.ths; omega)
        have hx : t.ths[i]? = some (lth t i) := by rw [lth, List.getD, List.getElem?_eq_getElem hin]; rfl
        have hl := ht.thr i _ hx
        obtain ⟨p, w, hp, hw, hwp, hpl⟩ := hM.th i hi4
        have hSI := hall i hi
        refine tr_skip ?_
        refine hK3 _ ?_; try clear hK3 K3
        refine seq_k fun K4 hK4 => ?_
        refine tr_block ?_
        refine region_k T_ok (by decide) fun K hK => ?_
        simp [go_sem]
        refine hK _ ?_; clear hK K
        refine region_k T_ok (by decide) fun K hK => ?_
        simp [go_sem, hkl, hko, hkt, nn50, mm50, nn51, mm51, nn52, mm52, nn0, mm0, nn1, mm1, nn2, mm2, nn3, mm3]
        refine ⟨hko, ?_⟩
        refine hK _ ?_; clear hK K
        refine seq_ex (fun ku : Nat => ⟨59, [(0, .ptr 2 0 0), (3, .ptr j 0 0), (26, iV (t.ths.length : Nat)), (27, iV (i : Nat)), (4, bV (overT t k i && (mstepT (lth t i) i k).isNone)), (5, iV (i : Nat))], [(j, .rows 112 [.agg (mV k)]), (2, .rows 3 [.agg [.rp t.cs 0, .map 0, .map 1]]), (0, .map (seenT (vis1 (explT t n) t k i (allT (explT t n) t k i (s.1 ++ [k], s.2))).1)), (1, .map (seenM (vis1 (explT t n) t k i (allT (explT t n) t k i (s.1 ++ [k], s.2))).2))], ku⟩) (fun ku : Nat => j < ku) ?_ ?_
        · skip
          refine region_k T_ok (by decide) fun K hK => ?_
          simp [go_sem, nn50, mm50, nn51, mm51, nn52, mm52, nn0, mm0, nn1, mm1, nn2, mm2, nn3, mm3]
          refine call_own (step_fn t i hi4 (lth t i) hx hl k hk p hp hpl w hw hwp (hM.loc i hi4) jn (jn + 1) (by omega) (by omega) (by omega)) rfl (by simp [nn0, mm0, nn1, mm1, nn2, mm2, nn3, mm3]) (by simp [go_sem, nn50, mm50, nn51, mm51, nn52, mm52, nn0, mm0, nn1, mm1, nn2, mm2, nn3, mm3]) fun k9 hk9 => ?_
          simp [go_sem, upds, nn50, mm50, nn51, mm51, nn52, mm52, nn0, mm0, nn1, mm1, nn2, mm2, nn3, mm3]
          refine hK _ ?_; clear hK K
          refine cond_k rfl (fun h => ?_) (fun h => ?_)
          · obtain ⟨q, hq⟩ : ∃ q, mstepT (lth t i) i k = some q := Option.isSome_iff_exists.1 (by simpa using h)
            have hqm := mstepT_ok ht hM hx hq
            have hql : (mV q).length = 112 := mV_112 hqm.1.len
            have hqo := mV_one q
            have hqt : List.take 112 (mV q) = mV q := List.take_of_length_le (by omega)
            have hv1 : vis1 (explT t n) t k i (allT (explT t n) t k i (s.1 ++ [k], s.2)) = explT t n q (allT (explT t n) t k i (s.1 ++ [k], s.2)) := by unfold vis1; rw [hq]
            refine region_k T_ok (by decide) fun K hK => ?_
            simp [go_sem]
            refine hK _ ?_; clear hK K
            refine region_e T_ok (by decide) fun K hK => ?_
            simp [go_sem, nn50, mm50, nn51, mm51, nn52, mm52, nn0, mm0, nn1, mm1, nn2, mm2, nn3, mm3, hq, hql, hqt]
            refine call_own (ih q hqm.1 (by omega) (allT (explT t n) t k i (s.1 ++ [k], s.2)) hSI k9 (by omega)) rfl (by simp) (by simp [go_sem, nn50, mm50, nn51, mm51, nn52, mm52, nn0, mm0, nn1, mm1, nn2, mm2, nn3, mm3]) fun k10 hk10 => ?_
            simp [go_sem, upds, nn50, mm50, nn51, mm51, nn52, mm52, nn0, mm0, nn1, mm1, nn2, mm2, nn3, mm3]
            obtain ⟨ku, hku⟩ : ∃ ku, ku = k10 := ⟨_, rfl⟩
            refine hK _ ?_; clear hK K
            refine ⟨ku, by omega, ?_⟩
            refine Weaker.fzk 1 0 (by omega) ?_ ?_ ?_
            · simp [go_sem, hq, hv1, nn50, mm50, nn51, mm51, nn52, mm52, nn0, mm0, nn1, mm1, nn2, mm2, nn3, mm3]
            · first | (simp; done) | (simp; omega)
            · simp [go_sem, hq, hv1, nn50, mm50, nn51, mm51, nn52, mm52, nn0, mm0, nn1, mm1, nn2, mm2, nn3, mm3]
          · have hq : mstepT (lth t i) i k = none := by simpa using h
            have hv1 : vis1 (explT t n) t k i (allT (explT t n) t k i (s.1 ++ [k], s.2)) = (allT (explT t n) t k i (s.1 ++ [k], s.2)) := by unfold vis1; rw [hq]
            obtain ⟨ku, hku⟩ : ∃ ku, ku = k9 := ⟨_, rfl⟩
            refine tr_skip ?_
            refine ⟨ku, by omega, ?_⟩
            refine Weaker.fzk 1 0 (by omega) ?_ ?_ ?_
            · simp [go_sem, hq, hv1, nn50, mm50, nn51, mm51, nn52, mm52, nn0, mm0, nn1, mm1, nn2, mm2, nn3, mm3]
            · first | (simp; done) | (simp; omega)
            · simp [go_sem, hq, hv1, nn50, mm50, nn51, mm51, nn52, mm52, nn0, mm0, nn1, mm1, nn2, mm2, nn3, mm3]
        · rintro ku hku
          have nn20 : ¬ ku = 0 := by omega
          have mm20 : ¬ 0 = ku := by omega
          have nn21 : ¬ ku = 1 := by omega
          have mm21 : ¬ 1 = ku := by omega
          have nn22 : ¬ ku = 2 := by omega
          have mm22 : ¬ 2 = ku := by omega
          have nn23 : ¬ j = ku := by omega
          have mm23 : ¬ ku = j := by omega
          have hS1 := vis1_ok ht hM hin (fun q s hq hs => explT_ok ht n q s hq hs) hSI
          refine region_k T_ok (by decide) fun K hK => ?_
          simp [go_sem, nn50, mm50, nn51, mm51, nn52, mm52, nn0, mm0, nn1, mm1, nn2, mm2, nn3, mm3, mV_112 hk, mV_wait hk hi4, hw, hi4, hi4I, hi0]
          repeat refine ⟨by omega, ?_⟩
          refine hK _ ?_; clear hK K
          refine cond_k rfl (fun h => ?_) (fun h => ?_)
          · have hw0 : 0 < w := by simpa using h
            obtain ⟨w', rfl⟩ : ∃ w', w = w' + 1 := ⟨w - 1, by omega⟩
            have hl8 := hl.1
            have hds := drainT_spec (w := w') hk hi4 (by omega) (hM.loc i hi4)
            have hdl : (drainT k i w').length = 112 := drainT_len hk hi4 w'
            have hdL : locT (lth t i) i ((lth t i).length + 1) (drainT k i w') = drainL t k i := by unfold drainL; rw [hw]; rfl
            have hdm := drainL_ok ht hM hx (by omega)
            have hgl : (mV (drainL t k i)).length = 112 := mV_112 hdm.1.len
            have hgo := mV_one (drainL t k i)
            have hgt : List.take 112 (mV (drainL t k i)) = mV (drainL t k i) := List.take_of_length_le (by omega)
            have hvs : visT (explT t n) t k i (allT (explT t n) t k i (s.1 ++ [k], s.2)) = explT t n (drainL t k i) (vis1 (explT t n) t k i (allT (explT t n) t k i (s.1 ++ [k], s.2))) := by unfold visT; rw [if_pos (by omega)]
            have hov : decide (gt k (i * 26 + 1) ≤ 0) = false := by simp; omega
            refine region_k T_ok (by decide) fun K hK => ?_
            simp [go_sem]
            refine hK _ ?_; clear hK K
            refine region_k T_ok (by decide) fun K hK => ?_
            simp [go_sem, hkl, hko, hkt, nn50, mm50, nn51, mm51, nn52, mm52, nn20, mm20, nn21, mm21, nn22, mm22, nn23, mm23]
            refine ⟨hko, ?_⟩
            refine hK _ ?_; clear hK K
            refine region_k T_ok (by decide) fun K hK => ?_
            simp [go_sem, nn50, mm50, nn51, mm51, nn52, mm52, nn20, mm20, nn21, mm21, nn22, mm22, nn23, mm23]
            refine call_own (drain_fn k hk i hi4 w' (by rw [hw]; rfl) (by omega) (hM.loc i hi4 0 (by omega)) ku (ku + 1)) rfl (by simp) (by simp [go_sem, nn50, mm50, nn51, mm51, nn52, mm52, nn20, mm20, nn21, mm21, nn22, mm22, nn23, mm23]) fun k11 hk11 => ?_
            simp [go_sem, upds, nn50, mm50, nn51, mm51, nn52, mm52, nn20, mm20, nn21, mm21, nn22, mm22, nn23, mm23]
            refine hK _ ?_; clear hK K
            refine region_k T_ok (by decide) fun K hK => ?_
            simp [go_sem, nn50, mm50, nn51, mm51, nn52, mm52, nn20, mm20, nn21, mm21, nn22, mm22, nn23, mm23, hi4, hi4I, hi0]
            refine call_own (local_fn t i hi4 (lth t i) hx hl (drainT k i w') hdl p (hds.2.1.trans hp) hpl ku k11 (by omega) (by omega) (by omega)) rfl (by simp [nn20, mm20, nn21, mm21, nn22, mm22, nn23, mm23]) (by simp [go_sem, nn50, mm50, nn51, mm51, nn52, mm52, nn20, mm20, nn21, mm21, nn22, mm22, nn23, mm23]) fun k12 hk12 => ?_
            simp [go_sem, upds, hdL, nn50, mm50, nn51, mm51, nn52, mm52, nn20, mm20, nn21, mm21, nn22, mm22, nn23, mm23]
            refine hK _ ?_; clear hK K
            refine region_e T_ok (by decide) fun K hK => ?_
            simp [go_sem, nn50, mm50, nn51, mm51, nn52, mm52, nn20, mm20, nn21, mm21, nn22, mm22, nn23, mm23, hgl, hgt]
            refine call_own (ih (drainL t k i) hdm.1 (by omega) (vis1 (explT t n) t k i (allT (explT t n) t k i (s.1 ++ [k], s.2))) hS1 k12 (by omega)) rfl (by simp) (by simp [go_sem, nn50, mm50, nn51, mm51, nn52, mm52, nn20, mm20, nn21, mm21, nn22, mm22, nn23, mm23]) fun k13 hk13 => ?_
            simp [go_sem, upds, nn50, mm50, nn51, mm51, nn52, mm52, nn20, mm20, nn21, mm21, nn22, mm22, nn23, mm23]
            obtain ⟨kv, hkv⟩ : ∃ kv, kv = k13 := ⟨_, rfl⟩
            refine hK _ ?_; clear hK K
            refine hK4 _ ?_; try clear hK4 K4
            refine region_e T_ok (by decide) fun K hK => ?_
            simp [go_sem, hw1]
            refine hK _ ?_; clear hK K
            refine ⟨(i + 1, kv), ?_, ?_, ?_⟩
            · dsimp only; exact ⟨by omega, by omega⟩
            · dsimp only; omega
            · refine Weaker.fzk 1 0 (by first | omega | (dsimp only; omega)) ?_ ?_ ?_
              · simp [go_sem, overT_succ, hov, nn50, mm50, nn51, mm51, nn52, mm52, nn0, mm0, nn1, mm1, nn2, mm2, nn3, mm3, nn20, mm20, nn21, mm21, nn22, mm22, nn23, mm23]
              · first | (simp; done) | (simp; omega)
              simp [go_sem, allT, hvs, nn50, mm50, nn51, mm51, nn52, mm52, nn0, mm0, nn1, mm1, nn2, mm2, nn3, mm3, nn20, mm20, nn21, mm21, nn22, mm22, nn23, mm23]
          · have hw0 : w = 0 := by simpa using h
            have hvs : visT (explT t n) t k i (allT (explT t n) t k i (s.1 ++ [k], s.2)) = (vis1 (explT t n) t k i (allT (explT t n) t k i (s.1 ++ [k], s.2))) := by unfold visT; rw [if_neg (by omega)]
            have hov : decide (gt k (i * 26 + 1) ≤ 0) = true := by simp; omega
            obtain ⟨kv, hkv⟩ : ∃ kv, kv = ku := ⟨_, rfl⟩
            refine tr_skip ?_
            refine hK4 _ ?_; try clear hK4 K4
            refine region_e T_ok (by decide) fun K hK => ?_
            simp [go_sem, hw1]
            refine hK _ ?_; clear hK K
            refine ⟨(i + 1, kv), ?_, ?_, ?_⟩
            · dsimp only; exact ⟨by omega, by omega⟩
            · dsimp only; omega
            · refine Weaker.fzk 1 0 (by first | omega | (dsimp only; omega)) ?_ ?_ ?_
              · simp [go_sem, overT_succ, hov, nn50, mm50, nn51, mm51, nn52, mm52, nn0, mm0, nn1, mm1, nn2, mm2, nn3, mm3, nn20, mm20, nn21, mm21, nn22, mm22, nn23, mm23]
              · first | (simp; done) | (simp; omega)
              simp [go_sem, allT, hvs, nn50, mm50, nn51, mm51, nn52, mm52, nn0, mm0, nn1, mm1, nn2, mm2, nn3, mm3, nn20, mm20, nn21, mm21, nn22, mm22, nn23, mm23]
      · simp at h
        obtain rfl : i = t.ths.length := by omega
        clear h
        refine tr_exit ?_
        refine hK2 _ ?_; try clear hK2 K2
        refine region_k T_ok (by decide) fun K hK => ?_
        simp [go_sem]
        refine hK _ ?_; clear hK K
        refine cond_k rfl (fun h => ?_) (fun h => ?_)
        · have hov : overT t k t.ths.length = true := h
          have hex : explT t (n + 1) k s = ((allT (explT t n) t k t.ths.length (s.1 ++ [k], s.2)).1, addK (endK t k) (allT (explT t n) t k t.ths.length (s.1 ++ [k], s.2)).2) := by rw [explT, if_neg hk1]; dsimp only; rw [if_pos hov]
          have hSN := hall t.ths.length (Nat.le_refl _)
          refine region_e T_ok (by decide) fun K hK => ?_
          simp [go_sem, nn50, mm50, nn51, mm51, nn52, mm52]
          refine call_own (end_fn t ht.ths (thr_len ht) (setB_rd ht) ht.locs k hk (allT (explT t n) t k t.ths.length (s.1 ++ [k], s.2)).2 hSN.ends j jn (by omega) (by omega)) rfl (by simp [nn50, mm50, nn51, mm51, nn52, mm52]) (by simp [go_sem, nn50, mm50, nn51, mm51, nn52, mm52]) fun k14 hk14 => ?_
          simp [go_sem, upds, nn50, mm50, nn51, mm51, nn52, mm52]
          refine hK _ ?_; clear hK K
          refine ⟨.inl rfl, ?_⟩
          rw [hex]
          simp [go_sem]
          exact ⟨_, _, View.del j _, rfl, by simp [Sl.del, nn50, mm50, nn51, mm51, nn52, mm52]⟩
        · have hov : ¬ overT t k t.ths.length = true := by simpa using h
          have hex : explT t (n + 1) k s = (allT (explT t n) t k t.ths.length (s.1 ++ [k], s.2)) := by rw [explT, if_neg hk1]; dsimp only; rw [if_neg hov]
          refine tr_skip ?_
          refine ⟨.inl rfl, ?_⟩
          rw [hex]
          simp [go_sem]
          exact ⟨_, _, View.del j _, rfl, by simp [Sl.del, nn50, mm50, nn51, mm51, nn52, mm52]⟩

end Go.Proofs.Ytflooghnoljpcaa
/- The machine with store buffers: the walk of States. -/
namespace Go.Proofs.Ytflooghnoljpcaa
open Go Go.Sl Go.Proofs.Try
theorem explore_fn {t : Tst} (ht : TTOk t) : ∀ n, ExpC t n
  | 0 => fun k _ h => absurd h (Nat.not_lt_zero _)
  | n + 1 => fun k hM hmu s hs j hj => explore1_fn t ht n (explore_fn ht n) k hM hmu s hs j hj
theorem initM_succ {t : Tst} {i : Nat} {l : Ini} (h : t.locs[i]? = some l) : initM t (i + 1) = (initM t i).set (104 + i) l.v := by rw [initM, List.getD, h]; rfl


set_option maxHeartbeats 8000000 in
set_option maxRecDepth 100000 in
theorem tso_pf (t : Tst) (ht : TTOk t) (hnp : hasPairs t.ths = false) (hb : (tsoEnds t).length ≤ 400000000000) : Pf Try.prog 66 [.rp t.cs 0] (.tup [.ro 41 (stR (setOf (tsoEnds t))), bV true]) := by
  refine Pf.of_fn (.cons (nl_rp t) .nil) (.tup (.cons (nl_stR _) (.cons (.val _) .nil))) ?_
  have hl8 := ht.locs
  have ht4 := ht.ths
  refine fn_in T_ok func66 rfl rfl ntmps66 rfl (by simp) ?_
  refine region_k T_ok (by decide) fun K hK => ?_
  simp [go_sem]
  refine hK _ ?_; clear hK K
  refine seq_k fun K1 hK1 => ?_
  refine region_k T_ok (by decide) fun K hK => ?_
  simp [go_sem]
  refine call_pf (hasPairs_pf t (by omega) (thr_len ht)) ?_
  simp [go_sem, hnp]
  refine hK _ ?_; clear hK K
  refine cond_k rfl (fun h => ?_) (fun h => ?_)
  · simp at h
  · clear h
    refine tr_skip ?_
    refine hK1 _ ?_; try clear hK1 K1
    refine region_k T_ok (by decide) fun K hK => ?_
    simp [go_sem]
    refine hK _ ?_; clear hK K
    refine region_k T_ok (by decide) fun K hK => ?_
    simp [go_sem]
    refine hK _ ?_; clear hK K
    refine seq_k fun K2 hK2 => ?_
    refine region_k T_ok (by decide) fun K hK => ?_
    simp [go_sem, Tst.cs]
    refine hK _ ?_; clear hK K
    refine tr_block ?_
    refine loop_p (α := Nat × Nat) (fun a => ⟨55, [(0, .rp t.cs 0), (4, .ptr 2 0 0), (5, .ptr 3 0 0), (19, .ro 2 (inis t.locs)), (20, iV (t.locs.length : Nat)), (21, iV (a.1 : Nat))], [(3, .rows 112 [.agg (mV (initM t a.1))]), (2, .rows 3 [.agg [.rp t.cs 0, .map 0, .map 1]]), (1, .map []), (0, .map [])], a.2⟩) (fun a => a.1 ≤ t.locs.length ∧ 3 < a.2) (fun a => t.locs.length - a.1) (0, 4) ?_ ?_ ?_
    · dsimp only; omega
    · refine Weaker.fzk 1 0 (by first | omega | (dsimp only; omega)) ?_ ?_ ?_
      · simp [go_sem, Tst.cs]
      · first | (simp; done) | (simp; omega)
      · simp [go_sem, Tst.cs]; rfl
    rintro ⟨i, jn⟩ ⟨hi, hjn⟩
    dsimp only at hi hjn ⊢
    have nn0 : ¬ jn = 0 := by omega
    have mm0 : ¬ 0 = jn := by omega
    have nn1 : ¬ jn = 1 := by omega
    have mm1 : ¬ 1 = jn := by omega
    have nn2 : ¬ jn = 2 := by omega
    have mm2 : ¬ 2 = jn := by omega
    have nn3 : ¬ jn = 3 := by omega
    have mm3 : ¬ 3 = jn := by omega
    refine region_k T_ok (by decide) fun K hK => ?_
    simp [go_sem]
    refine hK _ ?_; clear hK K
    refine seq_k fun K3 hK3 => ?_
    refine cond_k rfl (fun h => ?_) (fun h => ?_)
    · simp at h
      have hin : i < t.locs.length := by omega
      clear h
      have hinI : (i : Int) < (t.locs.length : Nat) := by omega
      obtain ⟨l, hx, hx'⟩ := getAt hin
      have hi8 : i < 8 := by omega
      have hi8I : (i : Int) < 8 := by omega
      have hi0 : (0 : Int) ≤ (i : Nat) := by omega
      have hw : IntKind.i64.wrap ((i : Nat) + 1) = (i : Nat) + 1 := wrap_i64 (by omega) (by omega)
      refine tr_skip ?_
      refine hK3 _ ?_; try clear hK3 K3
      refine seq_k fun K4 hK4 => ?_
      refine tr_block ?_
      refine region_k T_ok (by decide) fun K hK => ?_
      simp [go_sem, hin, hinI, hx, hx', hi0, iniC, Ini.cs, nn0, mm0, nn1, mm1, nn2, mm2, nn3, mm3]
      refine hK _ ?_; clear hK K
      refine region_e T_ok (by decide) fun K hK => ?_
      simp [go_sem, iniC, Ini.cs, hi8, hi8I, hi0, mV_112 (initM_len t i), putT_mem (initM_len t i) hi8, nn0, mm0, nn1, mm1, nn2, mm2, nn3, mm3]
      repeat refine ⟨by omega, ?_⟩
      refine hK _ ?_; clear hK K
      refine hK4 _ ?_; try clear hK4 K4
      refine region_e T_ok (by decide) fun K hK => ?_
      simp [go_sem, hw]
      refine hK _ ?_; clear hK K
      refine ⟨(i + 1, jn + 50), ?_, ?_, ?_⟩
      · dsimp only; omega
      · dsimp only; omega
      · refine Weaker.fzk 1 0 (by first | omega | (dsimp only; omega)) ?_ ?_ ?_
        · simp [go_sem, nn0, mm0, nn1, mm1, nn2, mm2, nn3, mm3]
        · first | (simp; done) | (simp; omega)
        simp [go_sem, initM_succ hx, nn0, mm0, nn1, mm1, nn2, mm2, nn3, mm3]
    · simp at h
      obtain rfl : i = t.locs.length := by omega
      clear h
      refine tr_exit ?_
      refine hK2 _ ?_; try clear hK2 K2
      refine seq_k fun K5 hK5 => ?_
      refine region_k T_ok (by decide) fun K hK => ?_
      simp [go_sem, Tst.cs]
      refine hK _ ?_; clear hK K
      refine tr_block ?_
      refine loop_p (α := Nat × Nat) (fun a => ⟨55, [(0, .rp t.cs 0), (4, .ptr 2 0 0), (5, .ptr 3 0 0), (36, iV (t.ths.length : Nat)), (37, iV (a.1 : Nat))], [(3, .rows 112 [.agg (mV (startM t a.1))]), (2, .rows 3 [.agg [.rp t.cs 0, .map 0, .map 1]]), (1, .map []), (0, .map [])], a.2⟩) (fun a => a.1 ≤ t.ths.length ∧ 3 < a.2) (fun a => t.ths.length - a.1) (0, jn) ?_ ?_ ?_
      · dsimp only; omega
      · refine Weaker.fzk 1 0 (by first | omega | (dsimp only; omega)) ?_ ?_ ?_
        · simp [go_sem, Tst.cs]
        · first | (simp; done) | (simp; omega)
        · simp [go_sem, startM, Tst.cs]
      rintro ⟨i, jn⟩ ⟨hi, hjn⟩
      dsimp only at hi hjn ⊢
      have nn0 : ¬ jn = 0 := by omega
      have mm0 : ¬ 0 = jn := by omega
      have nn1 : ¬ jn = 1 := by omega
      have mm1 : ¬ 1 = jn := by omega
      have nn2 : ¬ jn = 2 := by omega
      have mm2 : ¬ 2 = jn := by omega
      have nn3 : ¬ jn = 3 := by omega
      have mm3 : ¬ 3 = jn := by omega
      refine region_k T_ok (by decide) fun K hK => ?_
      simp [go_sem]
      refine hK _ ?_; clear hK K
      refine seq_k fun K6 hK6 => ?_
      refine cond_k rfl (fun h => ?_) (fun h => ?_)
      · simp at h
        have hin : i < t.ths.length := by omega
        clear h
        have hi4 : i < 4 := by omega
        have hi4I : (i : Int) < 4 := by omega
        have hi0 : (0 : Int) ≤ (i : Nat) := by omega
        have hw : IntKind.i64.wrap ((i : Nat) + 1) = (i : Nat) + 1 := wrap_i64 (by omega) (by omega)
        have hx : t.ths[i]? = some (lth t i) := by rw [lth, List.getD, List.getElem?_eq_getElem hin]; rfl
        have hl := ht.thr i _ hx
        have hM := (startM_ok ht i hi).1
        obtain ⟨p, w, hp, hw9, hwp, hpl⟩ := hM.th i hi4
        refine tr_skip ?_
        refine hK6 _ ?_; try clear hK6 K6
        refine seq_k fun K7 hK7 => ?_
        refine tr_block ?_
        refine region_k T_ok (by decide) fun K hK => ?_
        simp [go_sem]
        refine hK _ ?_; clear hK K
        refine region_e T_ok (by decide) fun K hK => ?_
        simp [go_sem, hi4, hi4I, hi0, nn0, mm0, nn1, mm1, nn2, mm2, nn3, mm3]
        refine call_own (local_fn t i hi4 (lth t i) hx hl (startM t i) hM.len p hp hpl 3 jn (by omega) (by omega) (by omega)) rfl (by simp) (by simp [go_sem, nn0, mm0, nn1, mm1, nn2, mm2, nn3, mm3]) fun k9 hk9 => ?_
        simp [go_sem, upds, nn0, mm0, nn1, mm1, nn2, mm2, nn3, mm3]
        refine hK _ ?_; clear hK K
        refine hK7 _ ?_; try clear hK7 K7
        refine region_e T_ok (by decide) fun K hK => ?_
        simp [go_sem, hw]
        refine hK _ ?_; clear hK K
        refine ⟨(i + 1, k9), ?_, ?_, ?_⟩
        · dsimp only; omega
        · dsimp only; omega
        · refine Weaker.fzk 1 0 (by first | omega | (dsimp only; omega)) ?_ ?_ ?_
          · simp [go_sem, nn0, mm0, nn1, mm1, nn2, mm2, nn3, mm3]
          · first | (simp; done) | (simp; omega)
          simp [go_sem, startM, nn0, mm0, nn1, mm1, nn2, mm2, nn3, mm3]
      · simp at h
        obtain rfl : i = t.ths.length := by omega
        clear h
        refine tr_exit ?_
        refine hK5 _ ?_; try clear hK5 K5
        have hTM := tsoM_ok ht
        have hl1 : (mV (tsoM t)).length = 112 := mV_112 hTM.len
        have hl2 : List.take 112 (mV (tsoM t)) = mV (tsoM t) := List.take_of_length_le (by omega)
        have hsM : startM t t.ths.length = tsoM t := rfl
        refine region_k T_ok (by decide) fun K hK => ?_
        simp [go_sem, hsM, hl1, hl2, nn0, mm0, nn1, mm1, nn2, mm2, nn3, mm3]
        refine call_own (explore_fn ht (muT t (tsoM t) + 1) (tsoM t) hTM (Nat.lt_succ_self _) ([], []) ⟨fun _ h => (by cases h), fun _ h => (by cases h)⟩ jn (by omega)) rfl (by simp) (by simp [go_sem, seenT, seenM, nn0, mm0, nn1, mm1, nn2, mm2, nn3, mm3]) fun k9 hk9 => ?_
        simp [go_sem, upds, nn0, mm0, nn1, mm1, nn2, mm2, nn3, mm3]
        refine hK _ ?_; clear hK K
        have hE : (explT t (muT t (tsoM t) + 1) (tsoM t) ([], [])).2 = tsoEnds t := rfl
        have hE1 := (explT_ok ht (muT t (tsoM t) + 1) (tsoM t) ([], []) hTM ⟨fun _ h => (by cases h), fun _ h => (by cases h)⟩).ends
        have hE2 := explT_nodup ht (muT t (tsoM t) + 1) (tsoM t) ([], []) hTM List.nodup_nil
        rw [hE] at hE1 hE2
        refine region_k T_ok (by decide) fun K hK => ?_
        simp [go_sem, nn0, mm0, nn1, mm1, nn2, mm2, nn3, mm3, hE]
        refine call_fn ((of_fn (tsoEnds t) hE1 hE2 hb 1 k9 (by omega)).frame (G := [_, _, _]) (List.perm_middle (l₁ := [_, _]) (l₂ := [_])) ?_)
        rintro v H' k' hk' ⟨rfl, rfl⟩
        simp [go_sem]
        refine hK _ ?_; clear hK K
        refine tr_ret ⟨.inr rfl, ?_⟩
        simp [go_sem]

end Go.Proofs.Ytflooghnoljpcaa
/- Store buffering: the walks of Buffering and State. -/
namespace Go.Proofs.Ytflooghnoljpcaa
open Go Go.Sl Go.Proofs.Try

set_option maxRecDepth 100000 in
set_option maxHeartbeats 16000000 in
theorem buffering_pf (f : Bool) : Pf Try.prog 97 [bV f] (.agg (bufT f).cs) := by
  refine Pf.of_fz 2 (.cons (.val _) .nil) (.agg (nl_tst _)) ?_
  refine fn_in T_ok func97 rfl rfl ntmps97 rfl (by simp) ?_
  refine region_k T_ok (by decide) fun K hK => ?_
  simp [go_sem]
  refine hK _ ?_; clear hK K
  refine region_k T_ok (by decide) fun K hK => ?_
  simp [go_sem]
  refine hK _ ?_; clear hK K
  refine seq_k fun K1 hK1 => ?_
  refine region_k T_ok (by decide) fun K hK => ?_
  simp [go_sem]
  refine hK _ ?_; clear hK K
  refine tr_block ?_
  refine Tr.weaken (Weaker.ghostH (sz := 3) (es := [.agg [.sl 1 0 2, .val (.slice none 0 0), .val (.slice none 0 0)]]) 2 3 [.agg [.sl 1 0 2, .val (.slice none 0 0), .sl 3 0 0]] (by simp [Sl.look]) (by simp) (by simp) (by simp [V.fits, V.cells, V.one]) (by simp only [List.flatMap_cons, List.flatMap_nil, V.cells, List.append_nil]; exact .same (.same (.to .nil)))) ?_
  simp only [Sl.put, if_true, if_false, Nat.reduceEqDiff, reduceIte]
  refine Tr.weaken (Weaker.ghostH (sz := 3) (es := [.agg [.sl 1 0 2, .val (.slice none 0 0), .sl 3 0 0]]) 2 1 [.agg [.sl 1 0 2, .sl 4 0 0, .sl 3 0 0]] (by simp [Sl.look]) (by simp) (by simp) (by simp [V.fits, V.cells, V.one]) (by simp only [List.flatMap_cons, List.flatMap_nil, V.cells, List.append_nil]; exact .same (.to (.same .nil)))) ?_
  simp only [Sl.put, if_true, if_false, Nat.reduceEqDiff, reduceIte]
  refine loop_p (α := Nat × Nat × Nat) (fun a => ⟨35, [(0, bV f), (2, .ptr 0 0 0), (3, .ptr 2 0 0), (4, iV (a.1 : Nat))], [(0, .rows 3 [.agg [.val (.slice none 0 0), .val (.slice none 0 0), .val (.slice none 0 0)]]), (1, .rows 2 (inis bufI)), (2, .rows 3 [.agg [.sl 1 0 2, .sl a.2.2 0 a.1, .sl 3 0 0]]), (a.2.2, .rows 1 (thrs (bufP f a.1))), (3, .rows 3 [])], a.2.1⟩) (fun a => a.1 ≤ 2 ∧ 3 < a.2.2 ∧ a.2.2 < a.2.1) (fun a => 2 - a.1) (0, 5, 4) ?_ ?_ ?_
  · dsimp only; omega
  · refine Weaker.fzk 1 1 (by first | omega | (dsimp only; omega)) ?_ ?_ ?_
    · simp [go_sem]
    · first | (simp; done) | (simp; omega)
    · simp [go_sem, bufI, inis, iniC, Ini.cs, nmX, nmY, bufP, thrs]
  rintro ⟨i, j, m⟩ ⟨hi, hm1, hm2⟩
  dsimp only at hi hm1 hm2 ⊢
  have nn0 : ¬ m = 0 := by omega
  have mm0 : ¬ 0 = m := by omega
  have nn1 : ¬ m = 1 := by omega
  have mm1 : ¬ 1 = m := by omega
  have nn2 : ¬ m = 2 := by omega
  have mm2 : ¬ 2 = m := by omega
  have nn3 : ¬ m = 3 := by omega
  have mm3 : ¬ 3 = m := by omega
  have nn4 : ¬ m = j := by omega
  have mm4 : ¬ j = m := by omega
  have nn5 : ¬ m = j + 1 := by omega
  have mm5 : ¬ j + 1 = m := by omega
  have nn6 : ¬ m = j + 2 := by omega
  have mm6 : ¬ j + 2 = m := by omega
  have nn7 : ¬ m = j + 3 := by omega
  have mm7 : ¬ j + 3 = m := by omega
  have nn8 : ¬ m = j + 4 := by omega
  have mm8 : ¬ j + 4 = m := by omega
  have nn9 : ¬ m = j + 5 := by omega
  have mm9 : ¬ j + 5 = m := by omega
  have nn10 : ¬ m = j + 6 := by omega
  have mm10 : ¬ j + 6 = m := by omega
  have nn11 : ¬ m = j + 7 := by omega
  have mm11 : ¬ j + 7 = m := by omega
  have nn12 : ¬ m = j + 8 := by omega
  have mm12 : ¬ j + 8 = m := by omega
  have nn13 : ¬ m = j + 9 := by omega
  have mm13 : ¬ j + 9 = m := by omega
  have nn14 : ¬ m = j + 10 := by omega
  have mm14 : ¬ j + 10 = m := by omega
  have nn15 : ¬ m = j + 11 := by omega
  have mm15 : ¬ j + 11 = m := by omega
  have nn16 : ¬ m = j + 12 := by omega
  have mm16 : ¬ j + 12 = m := by omega
  have nn17 : ¬ m = j + 13 := by omega
  have mm17 : ¬ j + 13 = m := by omega
  have nn18 : ¬ m = j + 14 := by omega
  have mm18 : ¬ j + 14 = m := by omega
  have nn19 : ¬ m = j + 15 := by omega
  have mm19 : ¬ j + 15 = m := by omega
  have nn20 : ¬ m = j + 16 := by omega
  have mm20 : ¬ j + 16 = m := by omega
  have nn21 : ¬ m = j + 17 := by omega
  have mm21 : ¬ j + 17 = m := by omega
  have nn22 : ¬ m = j + 18 := by omega
  have mm22 : ¬ j + 18 = m := by omega
  have nn23 : ¬ m = j + 19 := by omega
  have mm23 : ¬ j + 19 = m := by omega
  have nn24 : ¬ m = j + 20 := by omega
  have mm24 : ¬ j + 20 = m := by omega
  have nn25 : ¬ m = j + 21 := by omega
  have mm25 : ¬ j + 21 = m := by omega
  have nn26 : ¬ j = 0 := by omega
  have mm26 : ¬ 0 = j := by omega
  have nn27 : ¬ j = 1 := by omega
  have mm27 : ¬ 1 = j := by omega
  have nn28 : ¬ j = 2 := by omega
  have mm28 : ¬ 2 = j := by omega
  have nn29 : ¬ j = 3 := by omega
  have mm29 : ¬ 3 = j := by omega
  refine seq_k fun K2 hK2 => ?_
  refine region_k T_ok (by decide) fun K hK => ?_
  simp [go_sem]
  refine hK _ ?_; clear hK K
  refine cond_k rfl (fun h => ?_) (fun h => ?_)
  · have hi2 : i < 2 := by simp at h; omega
    have hw : IntKind.i64.wrap ((i : Nat) + 1) = (i : Nat) + 1 := wrap_i64 (by omega) (by omega)
    have hmi : List.take i (thrs (bufP f i)) = thrs (bufP f i) := List.take_of_length_le (by rw [thrs_len, bufP_len hi]; omega)
    have hw2 : IntKind.i64.wrap (1 - (i : Int)) = 1 - (i : Nat) := wrap_i64 (by omega) (by omega)
    refine tr_skip ?_
    refine hK2 _ ?_; try clear hK2 K2
    refine seq_k fun K3 hK3 => ?_
    refine tr_block ?_
    refine region_k T_ok (by decide) fun K hK => ?_
    simp [go_sem]
    refine hK _ ?_; clear hK K
    refine seq_k fun K4 hK4 => ?_
    refine region_k T_ok (by decide) fun K hK => ?_
    simp [go_sem]
    refine hK _ ?_; clear hK K
    refine cond_k rfl (fun h => ?_) (fun h => ?_)
    · have hf : f = true := h
      refine region_e T_ok (by decide) fun K hK => ?_
      simp [go_sem]
      refine hK _ ?_; clear hK K
      refine hK4 _ ?_; try clear hK4 K4
      refine draw_e T_ok (by kernel_rfl) 9 [[], [0], [], [], [3], [3, 4], [3, 4, 5], [2, 3, 4, 5, 6], [2, 3, 4, 5, 6, 7], [0, 1, 2, 3, 4, 5, 6, 7, 8], [0, 1, 2, 3, 4, 5, 6, 7, 8, 9], [0, 1, 2, 3, 4, 5, 6, 7, 8, 9, 10]] [(0, 6), (1, 6), (2, 6), (0, 7), (1, 7), (0, 8), (1, 8)] (by decide) (by decide) (by decide) fun K hK => ?_
      first | dsimp only [List.take, List.drop] | dsimp [List.take, List.drop]
      simp [go_sem, hw2, hmi, nn0, mm0, nn1, mm1, nn2, mm2, nn3, mm3, nn4, mm4, nn5, mm5, nn6, mm6, nn7, mm7, nn8, mm8, nn9, mm9, nn10, mm10, nn11, mm11, nn12, mm12, nn13, mm13, nn14, mm14, nn15, mm15, nn16, mm16, nn17, mm17, nn18, mm18, nn19, mm19, nn20, mm20, nn21, mm21, nn22, mm22, nn23, mm23, nn24, mm24, nn25, mm25, nn26, mm26, nn27, mm27, nn28, mm28, nn29, mm29]
      refine ⟨by rw [bufP_len hi]; omega, by omega, ?_⟩
      refine hK _ ?_; clear hK K
      refine hK3 _ ?_; try clear hK3 K3
      refine region_e T_ok (by decide) fun K hK => ?_
      simp [go_sem, hw]
      refine hK _ ?_; clear hK K
      refine ⟨(i + 1, j + 100, j + 12), ?_, ?_, ?_⟩
      · dsimp only; omega
      · dsimp only; omega
      · refine Weaker.fzk 1 1 (by first | omega | (dsimp only; omega)) ?_ ?_ ?_
        · simp [go_sem, nn0, mm0, nn1, mm1, nn2, mm2, nn3, mm3, nn4, mm4, nn5, mm5, nn6, mm6, nn7, mm7, nn8, mm8, nn9, mm9, nn10, mm10, nn11, mm11, nn12, mm12, nn13, mm13, nn14, mm14, nn15, mm15, nn16, mm16, nn17, mm17, nn18, mm18, nn19, mm19, nn20, mm20, nn21, mm21, nn22, mm22, nn23, mm23, nn24, mm24, nn25, mm25, nn26, mm26, nn27, mm27, nn28, mm28, nn29, mm29]
        · first | (simp; done) | (simp; omega)
        simp [go_sem, bufP_step hi2, thrs_append, thrs_one, hf, bufL, insS, insL, insF, inss, insC, Ins.cs, nn0, mm0, nn1, mm1, nn2, mm2, nn3, mm3, nn4, mm4, nn5, mm5, nn6, mm6, nn7, mm7, nn8, mm8, nn9, mm9, nn10, mm10, nn11, mm11, nn12, mm12, nn13, mm13, nn14, mm14, nn15, mm15, nn16, mm16, nn17, mm17, nn18, mm18, nn19, mm19, nn20, mm20, nn21, mm21, nn22, mm22, nn23, mm23, nn24, mm24, nn25, mm25, nn26, mm26, nn27, mm27, nn28, mm28, nn29, mm29]
    · have hf : f = false := h
      refine tr_skip ?_
      refine hK4 _ ?_; try clear hK4 K4
      refine draw_e T_ok (by kernel_rfl) 9 [[], [0], [], [], [3], [3, 4], [3, 4, 5], [2, 3, 4, 5, 6], [2, 3, 4, 5, 6, 7], [0, 1, 2, 3, 4, 5, 6, 7, 8], [0, 1, 2, 3, 4, 5, 6, 7, 8, 9], [0, 1, 2, 3, 4, 5, 6, 7, 8, 9, 10]] [(0, 6), (1, 6), (2, 6), (0, 7), (1, 7), (0, 8), (1, 8)] (by decide) (by decide) (by decide) fun K hK => ?_
      first | dsimp only [List.take, List.drop] | dsimp [List.take, List.drop]
      simp [go_sem, hw2, hmi, nn0, mm0, nn1, mm1, nn2, mm2, nn3, mm3, nn4, mm4, nn5, mm5, nn6, mm6, nn7, mm7, nn8, mm8, nn9, mm9, nn10, mm10, nn11, mm11, nn12, mm12, nn13, mm13, nn14, mm14, nn15, mm15, nn16, mm16, nn17, mm17, nn18, mm18, nn19, mm19, nn20, mm20, nn21, mm21, nn22, mm22, nn23, mm23, nn24, mm24, nn25, mm25, nn26, mm26, nn27, mm27, nn28, mm28, nn29, mm29]
      refine ⟨by rw [bufP_len hi]; omega, by omega, ?_⟩
      refine hK _ ?_; clear hK K
      refine hK3 _ ?_; try clear hK3 K3
      refine region_e T_ok (by decide) fun K hK => ?_
      simp [go_sem, hw]
      refine hK _ ?_; clear hK K
      refine ⟨(i + 1, j + 100, j + 10), ?_, ?_, ?_⟩
      · dsimp only; omega
      · dsimp only; omega
      · refine Weaker.fzk 1 1 (by first | omega | (dsimp only; omega)) ?_ ?_ ?_
        · simp [go_sem, nn0, mm0, nn1, mm1, nn2, mm2, nn3, mm3, nn4, mm4, nn5, mm5, nn6, mm6, nn7, mm7, nn8, mm8, nn9, mm9, nn10, mm10, nn11, mm11, nn12, mm12, nn13, mm13, nn14, mm14, nn15, mm15, nn16, mm16, nn17, mm17, nn18, mm18, nn19, mm19, nn20, mm20, nn21, mm21, nn22, mm22, nn23, mm23, nn24, mm24, nn25, mm25, nn26, mm26, nn27, mm27, nn28, mm28, nn29, mm29]
        · first | (simp; done) | (simp; omega)
        simp [go_sem, bufP_step hi2, thrs_append, thrs_one, hf, bufL, insS, insL, insF, inss, insC, Ins.cs, nn0, mm0, nn1, mm1, nn2, mm2, nn3, mm3, nn4, mm4, nn5, mm5, nn6, mm6, nn7, mm7, nn8, mm8, nn9, mm9, nn10, mm10, nn11, mm11, nn12, mm12, nn13, mm13, nn14, mm14, nn15, mm15, nn16, mm16, nn17, mm17, nn18, mm18, nn19, mm19, nn20, mm20, nn21, mm21, nn22, mm22, nn23, mm23, nn24, mm24, nn25, mm25, nn26, mm26, nn27, mm27, nn28, mm28, nn29, mm29]
  · obtain rfl : i = 2 := by simp at h; omega
    refine tr_exit ?_
    refine hK1 _ ?_; try clear hK1 K1
    refine region_k T_ok (by decide) fun K hK => ?_
    simp [go_sem]
    refine hK _ ?_; clear hK K
    refine tr_ret ⟨.inr rfl, ?_⟩
    simp [go_sem, buf_cs, bufP_all, nn0, mm0, nn1, mm1, nn2, mm2, nn3, mm3, nn4, mm4, nn5, mm5, nn6, mm6, nn7, mm7, nn8, mm8, nn9, mm9, nn10, mm10, nn11, mm11, nn12, mm12, nn13, mm13, nn14, mm14, nn15, mm15, nn16, mm16, nn17, mm17, nn18, mm18, nn19, mm19, nn20, mm20, nn21, mm21, nn22, mm22, nn23, mm23, nn24, mm24, nn25, mm25, nn26, mm26, nn27, mm27, nn28, mm28, nn29, mm29]
    exact ⟨rfl, rfl⟩

set_option maxRecDepth 100000 in
set_option maxHeartbeats 4000000 in
theorem state4_pf  : Pf Try.prog 99 [.ro 1 [uV 0, uV 0, uV 1, uV 1]] (.agg (stK st4)) := by
  refine Pf.of_fn (.cons (.ro (fun v hv => by simp at hv; rcases hv with rfl | rfl <;> exact .cons (.val _) .nil)) .nil) (.agg (nl_stK _)) ?_
  refine fn_in T_ok func99 rfl rfl ntmps99 rfl (by simp) ?_
  refine region_k T_ok (by decide) fun K hK => ?_
  simp [go_sem]
  refine hK _ ?_; clear hK K
  refine region_k T_ok (by decide) fun K hK => ?_
  simp [go_sem]
  refine hK _ ?_; clear hK K
  refine region_k T_ok (by decide) fun K hK => ?_
  simp [go_sem]
  trace_state
  refine hK _ ?_; clear hK K
  refine region_k T_ok (by decide) fun K hK => ?_
  simp [go_sem]
  refine hK _ ?_; clear hK K
  refine tr_ret ⟨.inr rfl, ?_⟩
  simp [go_sem]
  rfl

end Go.Proofs.Ytflooghnoljpcaa
/- Law 14: it is awake. -/
namespace Go.Proofs.Ytflooghnoljpcaa
open Go Go.Sl Go.Proofs.Try

def setF : List (List Int) := setOf (tsoEnds (bufT false))
def setT : List (List Int) := setOf (tsoEnds (bufT true))
theorem buf41 (f : Bool) : ∀ q ∈ setOf (tsoEnds (bufT f)), q.length = 41 := fun q hq => by
  have := mem_setOf.1 hq
  exact (explT_ok (bufT_ok f) _ _ _ (tsoM_ok (bufT_ok f)) ⟨fun _ h => (by cases h), fun _ h => (by cases h)⟩).ends q this
theorem bufLen (f : Bool) : (setOf (tsoEnds (bufT f))).length = (tsoEnds (bufT f)).length := setOf_len (explT_nodup (bufT_ok f) _ _ _ (tsoM_ok (bufT_ok f)) List.nodup_nil)
theorem setF_len : (setOf (tsoEnds (bufT false))).length = 4 := by rw [bufLen, endsF]; rfl
theorem setT_len : (setOf (tsoEnds (bufT true))).length = 3 := by rw [bufLen, endsT]; rfl
theorem setF_has : decide (st4 ∈ setOf (tsoEnds (bufT false))) = true := by
  rw [decide_eq_true_eq, mem_setOf, endsF]; exact .tail _ (.head _)
theorem setT_has : decide (st4 ∈ setOf (tsoEnds (bufT true))) = false := by
  rw [decide_eq_false_iff_not, mem_setOf, endsT]; decide
theorem buf_pairs (f : Bool) : hasPairs (bufT f).ths = false := by cases f <;> rfl

set_option maxRecDepth 100000 in
set_option maxHeartbeats 8000000 in
theorem awake14  : Pf Try.prog 63 [] (bV true) := by
  refine Pf.of_fn .nil (.val _) ?_
  refine fn_in T_ok func63 rfl rfl ntmps63 rfl (by simp) ?_
  refine region_k T_ok (by decide) fun K hK => ?_
  simp [go_sem]
  refine hK _ ?_; clear hK K
  refine region_k T_ok (by decide) fun K hK => ?_
  simp [go_sem]
  refine call_pf (buffering_pf false) ?_
  simp [go_sem]
  refine call_pf (buffering_pf true) ?_
  simp [go_sem, buf_cs]
  refine hK _ ?_; clear hK K
  refine Tr.weaken (Weaker.fz (t' := [(1, .rp (bufT false).cs 0), (2, .rp (bufT true).cs 0)]) (H' := []) 1 0 (by simp [go_sem, buf_cs]) (by simp) (by simp)) ?_
  refine region_k T_ok (by decide) fun K hK => ?_
  simp [go_sem]
  refine call_pf (tso_pf (bufT false) (bufT_ok _) (buf_pairs _) (by rw [endsF]; decide)) ?_
  simp [go_sem]
  refine hK _ ?_; clear hK K
  refine region_k T_ok (by decide) fun K hK => ?_
  simp [go_sem]
  refine call_pf (tso_pf (bufT true) (bufT_ok _) (buf_pairs _) (by rw [endsT]; decide)) ?_
  simp [go_sem]
  refine hK _ ?_; clear hK K
  refine region_k T_ok (by decide) fun K hK => ?_
  simp [go_sem, setF_len, setT_len]
  trace_state
  refine call_lendP state4_pf (pure_agg (stK_vals _)) 2 (by simp [go_sem]) ?_
  simp [go_sem, setF_len, setT_len]
  refine call_pf (has_pf _ (buf41 false) (rising_setOf _) (by rw [setF_len]; decide) st4 rfl) ?_
  simp [go_sem, setF_len, setT_len, setF_has]
  refine call_lendP state4_pf (pure_agg (stK_vals _)) 2 (by simp [go_sem]) ?_
  simp [go_sem, setF_len, setT_len, setF_has]
  refine call_pf (has_pf _ (buf41 true) (rising_setOf _) (by rw [setT_len]; decide) st4 rfl) ?_
  simp [go_sem, setF_len, setT_len, setF_has, setT_has]
  refine hK _ ?_; clear hK K
  refine tr_ret ⟨.inr rfl, ?_⟩
  simp [go_sem]

end Go.Proofs.Ytflooghnoljpcaa
