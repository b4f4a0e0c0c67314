/- Orders of relations, plainly: what an order is, and why there is none where there is none. -/
import Derived.Test.YtjdaofmhklihiaaW2
set_option linter.unusedVariables false
set_option linter.unusedSimpArgs false
namespace Go.Proofs.Ytjdaofmhklihiaa
open Go Go.Sl

theorem mask_sub {q s : Nat → Bool} (h : ∀ x, q x = true → s x = true) {a : Nat} (ha : a < 16) (h1 : s a = true) (h2 : q a = false) : mask q < mask s := by
  have e : mask q ||| mask s = mask s := Nat.eq_of_testBit_eq fun i => by
    rw [Nat.testBit_or, testBit_mask, testBit_mask]
    cases hq : q i
    · simp
    · simp [h i hq]
  have h3 : mask q ≤ mask s := by rw [← e]; exact Nat.left_le_or
  refine Nat.lt_of_le_of_ne h3 fun e3 => ?_
  have h4 := testBit_mask s a
  rw [← e3, testBit_mask] at h4
  simp [h1, h2, ha] at h4

theorem order_good {p : Nat → Nat → Bool} {s : Nat → Bool} {out L : List Nat} (h : order p s out = some L) :
    ∃ M, L = out ++ M ∧ (∀ a ∈ M, a < 16 ∧ s a = true) ∧ M.Nodup ∧ (∀ a, a < 16 → s a = true → a ∈ M) ∧ M.Pairwise fun b a => p a b = false := by
  by_cases h0 : mask s = 0
  · rw [order_done h0] at h
    cases h
    exact ⟨[], by simp, by simp, .nil, fun a ha hs => by rw [mask_eq_zero.1 h0 a ha] at hs; (cases hs), .nil⟩
  · cases hp : pick1 p s with
    | none => rw [order_none h0 hp] at h; cases h
    | some a =>
      obtain ⟨ha, hf, hs⟩ := pick1_in hp
      rw [order_some h0 hp] at h
      have hlt := mask_rem ha hs
      obtain ⟨M, e, h1, h2, h3, h4⟩ := order_good h
      refine ⟨a :: M, by rw [e]; simp, ?_, ?_, ?_, ?_⟩
      · intro x hx
        rcases List.mem_cons.1 hx with rfl | hx
        · exact ⟨ha, hs⟩
        · have := h1 x hx
          simp at this
          exact ⟨this.1, this.2.1⟩
      · refine List.nodup_cons.2 ⟨fun hm => ?_, h2⟩
        have := h1 a hm
        simp at this
      · intro x hx hsx
        by_cases e : x = a
        · subst e; simp
        · exact List.mem_cons_of_mem _ (h3 x hx (by simp [hsx, e]))
      · refine List.pairwise_cons.2 ⟨fun b hb => ?_, h4⟩
        have hb1 := h1 b hb
        simp at hb1
        unfold free at hf
        rw [Bool.and_eq_true, beq_iff_eq] at hf
        have := mask_eq_zero.1 (by omega : mask (fun b => p b a && s b) = 0) b hb1.1
        simpa [hb1.2.1] using this
termination_by mask s

theorem order_nil {p : Nat → Nat → Bool} {s : Nat → Bool} {out : List Nat} (h : order p s out = none) :
    ∃ s' : Nat → Bool, (∀ x, s' x = true → s x = true) ∧ ¬ mask s' = 0 ∧ pick1 p s' = none := by
  by_cases h0 : mask s = 0
  · rw [order_done h0] at h; cases h
  · cases hp : pick1 p s with
    | none => exact ⟨s, fun _ h => h, h0, hp⟩
    | some a =>
      obtain ⟨ha, hf, hs⟩ := pick1_in hp
      rw [order_some h0 hp] at h
      have hlt := mask_rem ha hs
      obtain ⟨s', h1, h2, h3⟩ := order_nil h
      exact ⟨s', fun x hx => by have := h1 x hx; simp at this; exact this.1, h2, h3⟩
termination_by mask s

theorem wN_mono {p : Nat → Nat → Bool} {a b : Nat} : ∀ {n : Nat} (m : Nat), n ≤ m → wN p n a b = true → wN p m a b = true
  | n, 0, h, hw => by have : n = 0 := by omega
                      subst this; exact hw
  | n, m + 1, h, hw => by
    by_cases e : n = m + 1
    · subst e; exact hw
    · simp only [wN, Bool.or_eq_true]
      exact .inl (wN_mono m (by omega) hw)

theorem wN_trans {p : Nat → Nat → Bool} : ∀ (n a k b : Nat), k < n → wN p n a k = true → wN p n k b = true → wN p n a b = true
  | 0, _, _, _, h, _, _ => by omega
  | n + 1, a, k, b, h, h1, h2 => by
    simp only [wN, Bool.or_eq_true, Bool.and_eq_true] at h1 h2 ⊢
    by_cases e : k = n
    · subst e
      have h3 : wN p k a k = true := by rcases h1 with h | h; exact h; exact h.1
      have h4 : wN p k k b = true := by rcases h2 with h | h; exact h; exact h.2
      exact .inr ⟨h3, h4⟩
    · have hk : k < n := by omega
      rcases h1 with h1 | ⟨h1, h1'⟩ <;> rcases h2 with h2 | ⟨h2, h2'⟩
      · exact .inl (wN_trans n a k b hk h1 h2)
      · exact .inr ⟨wN_trans n a k n hk h1 h2, h2'⟩
      · exact .inr ⟨h1, wN_trans n n k b hk h1' h2⟩
      · exact .inr ⟨h1, h2'⟩

theorem cl_base {p : Nat → Nat → Bool} {a b : Nat} (h : p a b = true) : cl p a b = true := wN_mono (n := 0) 16 (by omega) h
theorem cl_trans {p : Nat → Nat → Bool} {a k b : Nat} (hk : k < 16) (h1 : cl p a k = true) (h2 : cl p k b = true) : cl p a b = true := wN_trans 16 a k b hk h1 h2

/-- where none reaches itself a set has a first -/
theorem least {q : Nat → Nat → Bool} (hl : ∀ x, x < 16 → cl q x x = false) (s : Nat → Bool) (h0 : ¬ mask s = 0) : ∃ x, x < 16 ∧ s x = true ∧ ∀ y, y < 16 → s y = true → cl q y x = false := by
  obtain ⟨hx, hs⟩ := mask_low h0
  generalize lowb (mask s) = x at hx hs
  by_cases h1 : mask (fun y => s y && cl q y x) = 0
  · refine ⟨x, hx, hs, fun y hy hsy => ?_⟩
    have := mask_eq_zero.1 h1 y hy
    simpa [hsy] using this
  · have hlt : mask (fun y => s y && cl q y x) < mask s := mask_sub (fun y h => by simp at h; exact h.1) hx hs (by simp [hl x hx])
    obtain ⟨m, hm, hsm, hmin⟩ := least hl (fun y => s y && cl q y x) h1
    simp only [Bool.and_eq_true] at hsm hmin
    refine ⟨m, hm, hsm.1, fun y hy hsy => ?_⟩
    cases hc : cl q y m
    · rfl
    · have := hmin y hy ⟨hsy, cl_trans hm hc hsm.2⟩
      rw [hc] at this; cases this
termination_by mask s

theorem order_stuck {p : Nat → Nat → Bool} {s : Nat → Bool} {out : List Nat} (h : order p s out = none) : loopy (fun a b => p a b && (s a && s b)) = true := by
  obtain ⟨s', h1, h2, h3⟩ := order_nil h
  refine Classical.byContradiction fun hn => ?_
  have hl : ∀ x, x < 16 → cl (fun a b => p a b && (s a && s b)) x x = false := fun x hx => by
    cases hc : cl (fun a b => p a b && (s a && s b)) x x
    · rfl
    · exact absurd ((some16_iff (q := fun x => cl (fun a b => p a b && (s a && s b)) x x)).2 ⟨x, hx, hc⟩) hn
  obtain ⟨x, hx, hs, hmin⟩ := least hl s' h2
  unfold pick1 at h3
  rw [List.find?_eq_none] at h3
  refine h3 x (List.mem_range.2 hx) ?_
  unfold free
  rw [Bool.and_eq_true, beq_iff_eq]
  refine ⟨hs, ?_⟩
  have : mask (fun b => p b x && s' b) = 0 := mask_eq_zero.2 fun b hb => by
    cases hp : p b x
    · rfl
    · cases hsb : s' b
      · rfl
      · have := hmin b hb hsb
        rw [cl_base (by simp [hp, h1 _ hsb, h1 _ hs])] at this
        cases this
  rw [this]; rfl

theorem order_len {p : Nat → Nat → Bool} {s : Nat → Bool} {out L : List Nat} (h : order p s out = some L) : L.length ≤ out.length + mask s := by
  by_cases h0 : mask s = 0
  · rw [order_done h0] at h; cases h; omega
  · cases hp : pick1 p s with
    | none => rw [order_none h0 hp] at h; cases h
    | some a =>
      obtain ⟨ha, hf, hs⟩ := pick1_in hp
      rw [order_some h0 hp] at h
      have hlt := mask_rem ha hs
      have := order_len h
      simp only [List.length_append, List.length_singleton] at this
      omega
termination_by mask s

/-- is x among the first i? -/
def inL (L : List Nat) (i x : Nat) : Bool := (L.take i).contains x
theorem inL_zero (L : List Nat) : inL L 0 = fun _ => false := by funext x; simp [inL]

/-- what a good list says at one of its places -/
theorem good_at {p : Nat → Nat → Bool} {s : Nat → Bool} {L : List Nat} (h : order p s [] = some L) {i : Nat} (hi : i < L.length) :
    ∃ a, L[i]? = some a ∧ a < 16 ∧ s a = true ∧ inL L i a = false ∧ (∀ b, inL L i b = true → p a b = false) ∧ (∀ x, inL L (i + 1) x = (inL L i x || x == a)) := by
  unfold inL
  obtain ⟨M, e, h1, h2, h3, h4⟩ := order_good h
  simp only [List.nil_append] at e
  subst e
  have hg : L[i]? = some L[i] := List.getElem?_eq_getElem hi
  have hsplit : L = L.take i ++ L[i] :: L.drop (i + 1) := by
    rw [← List.drop_eq_getElem_cons hi, List.take_append_drop]
  refine ⟨L[i], hg, (h1 _ (List.getElem_mem hi)).1, (h1 _ (List.getElem_mem hi)).2, ?_, ?_, ?_⟩
  · have h5 := h2
    rw [hsplit, List.nodup_append] at h5
    cases hc : (L.take i).contains L[i]
    · rfl
    · exact absurd rfl (h5.2.2 _ (by simpa using hc) _ List.mem_cons_self)
  · intro b hb
    have h5 := h4
    rw [hsplit, List.pairwise_append] at h5
    exact h5.2.2 b (by simpa using hb) _ List.mem_cons_self
  · intro x
    rw [List.take_succ_eq_append_getElem hi, Bool.eq_iff_iff]
    simp only [List.contains_iff_mem, Bool.or_eq_true, beq_iff_eq, List.mem_append, List.mem_singleton]

theorem good_end {p : Nat → Nat → Bool} {s : Nat → Bool} {L : List Nat} (h : order p s [] = some L) : mask (inL L L.length) = mask s := by
  unfold inL
  obtain ⟨M, e, h1, h2, h3, h4⟩ := order_good h
  simp only [List.nil_append] at e
  subst e
  rw [List.take_length]
  refine mask_ext fun x hx => ?_
  rw [Bool.eq_iff_iff]
  simp only [List.contains_iff_mem]
  exact ⟨fun hm => (h1 x hm).2, fun hs => h3 x hx hs⟩

end Go.Proofs.Ytjdaofmhklihiaa
