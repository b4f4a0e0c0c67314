/- Relations as cells and as lists of pairs: what both say together. -/
import Derived.Test.YtjdaofmhklihiaaW5
set_option linter.unusedVariables false
set_option linter.unusedSimpArgs false
namespace Go.Proofs.Ytjdaofmhklihiaa
open Go Go.Sl

/-- the cells' relation of a list of pairs -/
def relL (x : List Pr) (a b : Nat) : Bool := x.contains ((a : Int), (b : Int))

def md (n : Int) : Int := (n.tmod 16 + 16).tmod 16
theorem md_range (n : Int) : 0 ≤ md n ∧ md n ≤ 15 := by
  unfold md
  have h1 : -16 < n.tmod 16 := Int.lt_tmod_of_pos n (by omega)
  have h2 : n.tmod 16 < 16 := Int.tmod_lt_of_pos n (by omega)
  generalize n.tmod 16 = x at h1 h2 ⊢
  have h3 : 0 ≤ (x + 16).tmod 16 := Int.tmod_nonneg _ (by omega)
  have h4 : (x + 16).tmod 16 < 16 := Int.tmod_lt_of_pos _ (by omega)
  omega
theorem tmod_range (n : Int) : -16 < n.tmod 16 ∧ n.tmod 16 < 16 := ⟨Int.lt_tmod_of_pos n (by omega), Int.tmod_lt_of_pos n (by omega)⟩

def growL (l : List Pr) : List Pr := l.foldl (fun x q => rWith x (md q.1, md q.2)) []
theorem growL_fin (l : List Pr) : Fin (growL l) := Fin.foldl (fun _ _ h => h.with _) l [] .nil

theorem relL_with (x : List Pr) (a b : Int) (c d : Nat) (hc : c < 16) (hd : d < 16) : (relL x c d || (decide ((c : Int) = a) && decide ((d : Int) = b))) = relL (rWith x (a, b)) c d := by
  unfold relL
  rw [Bool.eq_iff_iff]
  simp only [Bool.or_eq_true, Bool.and_eq_true, decide_eq_true_eq, List.contains_iff_mem, rWith_mem, Prod.mk.injEq]
  constructor
  · rintro (h | ⟨rfl, rfl⟩)
    · exact .inl h
    · exact .inr ⟨⟨rfl, rfl⟩, rIn_iff.2 (by dsimp only; omega)⟩
  · rintro (h | ⟨⟨rfl, rfl⟩, _⟩)
    · exact .inl h
    · exact .inr ⟨rfl, rfl⟩

def toldRow (p : Nat → Nat → Bool) (a : Nat) : Nat → List Pr
  | 0 => []
  | b + 1 => if p a b then toldRow p a b ++ [((a : Int), (b : Int))] else toldRow p a b
def toldN (p : Nat → Nat → Bool) : Nat → List Pr
  | 0 => []
  | a + 1 => toldN p a ++ toldRow p a 16
def told (p : Nat → Nat → Bool) : List Pr := toldN p 16

theorem toldRow_len (p : Nat → Nat → Bool) (a : Nat) : ∀ b, (toldRow p a b).length ≤ b
  | 0 => Nat.le_refl _
  | b + 1 => by
    have := toldRow_len p a b
    simp only [toldRow]; split <;> simp <;> omega
theorem toldN_len (p : Nat → Nat → Bool) : ∀ a, (toldN p a).length ≤ 16 * a
  | 0 => Nat.le_refl _
  | a + 1 => by
    have := toldN_len p a
    have := toldRow_len p a 16
    simp only [toldN, List.length_append]; omega
theorem told_len (p : Nat → Nat → Bool) : (told p).length ≤ 256 := toldN_len p 16

def toldP (p : Nat → Nat → Bool) (i b : Nat) : List Pr := toldN p i ++ toldRow p i b
theorem toldP_zero (p : Nat → Nat → Bool) (i : Nat) : toldP p i 0 = toldN p i := by simp [toldP, toldRow]
theorem toldP_end (p : Nat → Nat → Bool) (i : Nat) : toldP p i 16 = toldN p (i + 1) := rfl
theorem toldP_yes {p : Nat → Nat → Bool} {i b : Nat} (h : p i b = true) : toldP p i (b + 1) = toldP p i b ++ [((i : Int), (b : Int))] := by simp [toldP, toldRow, h]
theorem toldP_no {p : Nat → Nat → Bool} {i b : Nat} (h : p i b = false) : toldP p i (b + 1) = toldP p i b := by simp [toldP, toldRow, h]
theorem toldP_len (p : Nat → Nat → Bool) (i b : Nat) (hi : i < 16) (hb : b ≤ 16) : (toldP p i b).length ≤ 300 := by
  have := toldN_len p i; have := toldRow_len p i b; simp only [toldP, List.length_append]; omega

theorem toldRow_mem (p : Nat → Nat → Bool) (a : Nat) (q : Pr) : ∀ n, q ∈ toldRow p a n ↔ ∃ b, b < n ∧ p a b = true ∧ q = ((a : Int), (b : Int))
  | 0 => by simp [toldRow]
  | n + 1 => by
    simp only [toldRow]
    have ih := toldRow_mem p a q n
    constructor
    · intro h
      split at h
      · rename_i hp
        rcases List.mem_append.1 h with h | h
        · obtain ⟨b, h1, h2⟩ := ih.1 h; exact ⟨b, by omega, h2⟩
        · exact ⟨n, by omega, hp, by simpa using h⟩
      · obtain ⟨b, h1, h2⟩ := ih.1 h; exact ⟨b, by omega, h2⟩
    · rintro ⟨b, h1, h2, h3⟩
      by_cases e : b = n
      · subst e; rw [if_pos h2]; simp [h3]
      · have := ih.2 ⟨b, by omega, h2, h3⟩
        split
        · simp [this]
        · exact this
theorem toldN_mem (p : Nat → Nat → Bool) (q : Pr) : ∀ n, q ∈ toldN p n ↔ ∃ a b, a < n ∧ b < 16 ∧ p a b = true ∧ q = ((a : Int), (b : Int))
  | 0 => by simp [toldN]
  | n + 1 => by
    simp only [toldN, List.mem_append, toldN_mem p q n, toldRow_mem]
    constructor
    · rintro (⟨a, b, h1, h2⟩ | ⟨b, h1, h2⟩)
      · exact ⟨a, b, by omega, h2⟩
      · exact ⟨n, b, by omega, h1, h2⟩
    · rintro ⟨a, b, h1, h2, h3, h4⟩
      by_cases e : a = n
      · subst e; exact .inr ⟨b, h2, h3, h4⟩
      · exact .inl ⟨a, b, by omega, h2, h3, h4⟩

/-- both are the same relation -/
structure Agree (p : Nat → Nat → Bool) (z : List Pr) : Prop where
  rng : ∀ q ∈ z, rIn q = true
  eq : ∀ a, a < 16 → ∀ b, b < 16 → p a b = relL z a b

theorem Agree.same {p : Nat → Nat → Bool} {z : List Pr} (h : Agree p z) : rSame (told p) z = true := by
  have key : ∀ q, q ∈ told p ↔ q ∈ z := by
    intro q
    unfold told
    rw [toldN_mem]
    constructor
    · rintro ⟨a, b, h1, h2, h3, rfl⟩
      rw [h.eq a h1 b h2] at h3
      simpa [relL] using h3
    · intro hq
      have hr := rIn_iff.1 (h.rng q hq)
      obtain ⟨a, b⟩ := q
      dsimp only at hr
      refine ⟨a.toNat, b.toNat, by omega, by omega, ?_, ?_⟩
      · rw [h.eq _ (by omega) _ (by omega)]
        unfold relL
        rw [Int.toNat_of_nonneg (by omega), Int.toNat_of_nonneg (by omega)]
        simpa using hq
      · rw [Int.toNat_of_nonneg (by omega), Int.toNat_of_nonneg (by omega)]
  unfold rSame rLess
  rw [Bool.and_eq_true, List.isEmpty_iff, List.isEmpty_iff, List.filter_eq_nil_iff, List.filter_eq_nil_iff]
  constructor
  · intro q hq; simpa using (key q).1 hq
  · intro q hq; simpa using (key q).2 hq

theorem Agree.self {z : List Pr} (h : Fin z) : Agree (relL z) z := ⟨h.2, fun _ _ _ _ => rfl⟩
theorem Agree.with {z : List Pr} (h : Fin z) (a b : Int) : Agree (fun x y => relL z x y || (decide ((x : Int) = a) && decide ((y : Int) = b))) (rWith z (a, b)) :=
  ⟨(h.with _).2, fun c hc d hd => relL_with z a b c d hc hd⟩

theorem rOr_mem {q : Pr} : ∀ {y x : List Pr}, (∀ p ∈ y, rIn p = true) → (q ∈ rOr x y ↔ q ∈ x ∨ q ∈ y)
  | [], x, _ => by simp [rOr]
  | p :: y, x, h => by
    have ih := rOr_mem (q := q) (y := y) (x := rWith x p) fun p hp => h p (by simp [hp])
    have e : rOr x (p :: y) = rOr (rWith x p) y := rfl
    rw [e, ih, rWith_mem]
    simp only [List.mem_cons, h p (by simp), and_true]
    constructor
    · rintro ((h | h) | h)
      · exact .inl h
      · exact .inr (.inl h)
      · exact .inr (.inr h)
    · rintro (h | h | h)
      · exact .inl (.inl h)
      · exact .inl (.inr h)
      · exact .inr h

theorem relL_of {x : List Pr} {a b : Nat} : relL x a b = true ↔ ((a : Int), (b : Int)) ∈ x := by simp [relL]

theorem Agree.or {x y : List Pr} (hx : Fin x) (hy : Fin y) : Agree (fun a b => relL x a b || relL y a b) (rOr x y) :=
  ⟨(hx.or y).2, fun a _ b _ => by rw [Bool.eq_iff_iff, Bool.or_eq_true, relL_of, relL_of, relL_of, rOr_mem hy.2]⟩
theorem Agree.and {x y : List Pr} (hx : Fin x) (hy : Fin y) : Agree (fun a b => relL x a b && relL y a b) (rAnd x y) :=
  ⟨(hx.filter _).2, fun a _ b _ => by rw [Bool.eq_iff_iff, Bool.and_eq_true, relL_of, relL_of, relL_of]; simp [rAnd]⟩
theorem Agree.less {x y : List Pr} (hx : Fin x) (hy : Fin y) : Agree (fun a b => relL x a b && !relL y a b) (rLess x y) :=
  ⟨(hx.filter _).2, fun a _ b _ => by rw [Bool.eq_iff_iff, Bool.and_eq_true, Bool.not_eq_true', relL_of, ← Bool.not_eq_true, relL_of, relL_of]; simp [rLess]⟩
theorem Agree.turned {x : List Pr} (hx : Fin x) : Agree (fun a b => relL x b a) (rTurned x) :=
  ⟨fun q hq => by
    obtain ⟨p, hp, rfl⟩ := List.mem_map.1 hq
    have := rIn_iff.1 (hx.2 p hp)
    exact rIn_iff.2 (by dsimp only; omega), fun a _ b _ => by
    rw [Bool.eq_iff_iff, relL_of, relL_of]
    simp only [rTurned, List.mem_map]
    constructor
    · intro h; exact ⟨_, h, rfl⟩
    · rintro ⟨⟨c, d⟩, h, e⟩
      cases e; exact h⟩

theorem rThen1_mem {p q : Pr} : ∀ {m o : List Pr}, q ∈ rThen1 m o p ↔ q ∈ o ∨ ∃ r ∈ m, p.2 = r.1 ∧ q = (p.1, r.2) ∧ rIn q = true
  | [], o => by simp [rThen1]
  | r :: m, o => by
    have e : rThen1 (r :: m) o p = rThen1 m (if p.2 == r.1 then rWith o (p.1, r.2) else o) p := rfl
    rw [e, rThen1_mem]
    by_cases h : p.2 = r.1
    · simp only [h, beq_self_eq_true, if_true, rWith_mem]
      constructor
      · rintro ((h1 | ⟨h1, h2⟩) | ⟨r', h1, h2⟩)
        · exact .inl h1
        · exact .inr ⟨r, by simp, rfl, h1, h1 ▸ h2⟩
        · exact .inr ⟨r', by simp [h1], h2⟩
      · rintro (h1 | ⟨r', h1, h2, h3, h4⟩)
        · exact .inl (.inl h1)
        · rcases List.mem_cons.1 h1 with rfl | h1
          · exact .inl (.inr ⟨h3, h3 ▸ h4⟩)
          · exact .inr ⟨r', h1, h2, h3, h4⟩
    · have hb : (p.2 == r.1) = false := by simpa using h
      simp only [hb, Bool.false_eq_true, if_false]
      constructor
      · rintro (h1 | ⟨r', h1, h2⟩)
        · exact .inl h1
        · exact .inr ⟨r', by simp [h1], h2⟩
      · rintro (h1 | ⟨r', h1, h2, h3⟩)
        · exact .inl h1
        · rcases List.mem_cons.1 h1 with rfl | h1
          · exact absurd h2 h
          · exact .inr ⟨r', h1, h2, h3⟩

theorem rThen_memG {q : Pr} {m : List Pr} : ∀ {l o : List Pr}, q ∈ l.foldl (rThen1 m) o ↔ q ∈ o ∨ ∃ p ∈ l, ∃ r ∈ m, p.2 = r.1 ∧ q = (p.1, r.2) ∧ rIn q = true
  | [], o => by simp
  | p :: l, o => by
    rw [List.foldl_cons, rThen_memG, rThen1_mem]
    constructor
    · rintro ((h | h) | ⟨p', h1, h2⟩)
      · exact .inl h
      · exact .inr ⟨p, by simp, h⟩
      · exact .inr ⟨p', by simp [h1], h2⟩
    · rintro (h | ⟨p', h1, h2⟩)
      · exact .inl (.inl h)
      · rcases List.mem_cons.1 h1 with rfl | h1
        · exact .inl (.inr h2)
        · exact .inr ⟨p', h1, h2⟩

theorem rThen_mem {q : Pr} {l m : List Pr} : q ∈ rThen l m ↔ ∃ p ∈ l, ∃ r ∈ m, p.2 = r.1 ∧ q = (p.1, r.2) ∧ rIn q = true := by
  unfold rThen; rw [rThen_memG]; simp

theorem Agree.then {x y : List Pr} (hx : Fin x) (hy : Fin y) : Agree (th (relL x) (relL y)) (rThen x y) :=
  ⟨(Fin.then x y).2, fun a ha b hb => by
    rw [Bool.eq_iff_iff, relL_of, rThen_mem]
    unfold th
    rw [some16_iff]
    constructor
    · rintro ⟨k, hk, h⟩
      rw [Bool.and_eq_true, relL_of, relL_of] at h
      exact ⟨_, h.1, _, h.2, rfl, rfl, rIn_iff.2 (by dsimp only; omega)⟩
    · rintro ⟨⟨a', k⟩, h1, ⟨k', b'⟩, h2, e1, e2, _⟩
      dsimp only at e1 e2
      cases e2; subst e1
      have hr := rIn_iff.1 (hx.2 _ h1)
      dsimp only at hr
      refine ⟨k.toNat, by omega, ?_⟩
      rw [Bool.and_eq_true, relL_of, relL_of, Int.toNat_of_nonneg (by omega)]
      exact ⟨h1, h2⟩⟩

/-! ## closing by rounds -/

def card (q : Nat → Bool) : Nat := ((List.range 16).filter q).length
theorem card_le (q : Nat → Bool) : card q ≤ 16 := by have := List.length_filter_le q (List.range 16); rw [List.length_range] at this; exact this

theorem filter_le {q q' : Nat → Bool} : ∀ (l : List Nat), (∀ x ∈ l, q x = true → q' x = true) → (l.filter q).length ≤ (l.filter q').length ∧ ((∃ x ∈ l, q' x = true ∧ q x = false) → (l.filter q).length < (l.filter q').length)
  | [], _ => by simp
  | x :: l, h => by
    obtain ⟨h1, h2⟩ := filter_le l fun y hy => h y (by simp [hy])
    have hx := h x (by simp)
    cases hq : q x
    · cases hq' : q' x
      · simp only [List.filter_cons, hq, hq', Bool.false_eq_true, if_false]
        refine ⟨h1, ?_⟩
        rintro ⟨y, hy, h3, h4⟩
        rcases List.mem_cons.1 hy with rfl | hy
        · rw [hq'] at h3; cases h3
        · exact h2 ⟨y, hy, h3, h4⟩
      · simp only [List.filter_cons, hq, hq', Bool.false_eq_true, if_false, if_true, List.length_cons]
        exact ⟨by omega, fun _ => by omega⟩
    · have hq' := hx hq
      simp only [List.filter_cons, hq, hq', if_true, List.length_cons]
      refine ⟨by omega, ?_⟩
      rintro ⟨y, hy, h3, h4⟩
      rcases List.mem_cons.1 hy with rfl | hy
      · rw [hq] at h4; cases h4
      · have := h2 ⟨y, hy, h3, h4⟩; omega

theorem rClosed_succ {x : List Pr} (hx : Fin x) {q : Pr} (n : Nat) : q ∈ rClosed x (n + 1) ↔ q ∈ rClosed x n ∨ ∃ p ∈ rClosed x n, ∃ r ∈ x, p.2 = r.1 ∧ q = (p.1, r.2) ∧ rIn q = true := by
  rw [rClosed, rOr_mem (Fin.then _ _).2, rThen_mem]

theorem rClosed_sound {x : List Pr} (hx : Fin x) : ∀ (n : Nat) (q : Pr), q ∈ rClosed x n → cl (relL x) q.1.toNat q.2.toNat = true
  | 0, q, h => by
    have hr := rIn_iff.1 (hx.2 q h)
    refine cl_base ?_
    rw [relL_of, Int.toNat_of_nonneg (by omega), Int.toNat_of_nonneg (by omega)]
    exact h
  | n + 1, q, h => by
    rcases (rClosed_succ hx n).1 h with h | ⟨p, hp, r, hr, e1, rfl, _⟩
    · exact rClosed_sound hx n q h
    · have h1 := rClosed_sound hx n p hp
      have h2 := rIn_iff.1 ((hx.closed n).2 p hp)
      have h3 := rIn_iff.1 (hx.2 r hr)
      refine cl_trans (k := p.2.toNat) (by omega) h1 (cl_base ?_)
      rw [relL_of, e1, Int.toNat_of_nonneg (by omega), Int.toNat_of_nonneg (by omega)]
      exact hr

theorem rClosed_mono {x : List Pr} (hx : Fin x) {q : Pr} {n : Nat} : ∀ m, n ≤ m → q ∈ rClosed x n → q ∈ rClosed x m
  | 0, h, hq => by have : n = 0 := by omega
                   subst this; exact hq
  | m + 1, h, hq => by
    by_cases e : n = m + 1
    · subst e; exact hq
    · exact (rClosed_succ hx m).2 (.inl (rClosed_mono hx m (by omega) hq))

theorem rClosed_stable {x : List Pr} (hx : Fin x) (a : Nat) : ∀ b : Nat, b < 16 → ((a : Int), (b : Int)) ∈ rClosed x 17 → ((a : Int), (b : Int)) ∈ rClosed x 16 := by
  have stay : ∀ k, (∀ b : Nat, b < 16 → ((a : Int), (b : Int)) ∈ rClosed x (k + 1) → ((a : Int), (b : Int)) ∈ rClosed x k) → ∀ m, k ≤ m → ∀ b : Nat, b < 16 → ((a : Int), (b : Int)) ∈ rClosed x (m + 1) → ((a : Int), (b : Int)) ∈ rClosed x m := by
    intro k hk m
    induction m with
    | zero => intro h; have : k = 0 := by omega
              subst this; exact hk
    | succ m ih =>
      intro h b hb hm
      by_cases e : k = m + 1
      · subst e; exact hk b hb hm
      · rcases (rClosed_succ hx (m + 1)).1 hm with h1 | ⟨p, hp, r, hr, e1, e2, e3⟩
        · exact h1
        · obtain ⟨p1, p2⟩ := p
          have ea : (a : Int) = p1 := congrArg Prod.fst e2
          subst ea
          have h2 := rIn_iff.1 ((hx.closed _).2 _ hp)
          dsimp only at h2 e1
          have h4 := ih (by omega) p2.toNat (by omega)
          rw [Int.toNat_of_nonneg (by omega)] at h4
          exact (rClosed_succ hx m).2 (.inr ⟨_, h4 hp, r, hr, e1, e2, e3⟩)
  refine Classical.byContradiction fun hn => ?_
  have grow : ∀ k, k ≤ 17 → k ≤ card fun b => relL (rClosed x k) a b := by
    intro k
    induction k with
    | zero => intro _; exact Nat.zero_le _
    | succ k ih =>
      intro h
      have h1 := ih (by omega)
      have h2 : ∃ b : Nat, b < 16 ∧ ((a : Int), (b : Int)) ∈ rClosed x (k + 1) ∧ ¬ ((a : Int), (b : Int)) ∈ rClosed x k := by
        refine Classical.byContradiction fun hc => hn (stay k (fun b hb hm => Classical.byContradiction fun hk => hc ⟨b, hb, hm, hk⟩) 16 (by omega))
      obtain ⟨b, hb, h3, h4⟩ := h2
      have h5 := (filter_le (q := fun b => relL (rClosed x k) a b) (q' := fun b => relL (rClosed x (k + 1)) a b) (List.range 16) fun b _ hb => by
        rw [relL_of] at hb ⊢
        exact rClosed_mono hx (k + 1) (by omega) hb).2 ⟨b, List.mem_range.2 hb, relL_of.2 h3, by
          rw [← Bool.not_eq_true, relL_of]; exact h4⟩
      unfold card at h1 ⊢
      omega
  have := grow 17 (by omega)
  have := card_le fun b => relL (rClosed x 17) a b
  omega

theorem rClosed_next {x : List Pr} (hx : Fin x) {a k b : Nat} (hk : k < 16) (hb : b < 16) (h : ((a : Int), (k : Int)) ∈ rClosed x 16) (h2 : relL x k b = true) : ((a : Int), (b : Int)) ∈ rClosed x 16 := by
  refine rClosed_stable hx a b hb ((rClosed_succ hx 16).2 (.inr ⟨_, h, _, relL_of.1 h2, rfl, rfl, ?_⟩))
  have := rIn_iff.1 ((hx.closed _).2 _ h)
  exact rIn_iff.2 (by dsimp only at this ⊢; omega)

theorem rClosed_full {x : List Pr} (hx : Fin x) : ∀ (n : Nat), n ≤ 16 → ∀ k b, k < 16 → b < 16 → wN (relL x) n k b = true → relL x k b = true ∨ True → (∀ a : Nat, ((a : Int), (k : Int)) ∈ rClosed x 16 → ((a : Int), (b : Int)) ∈ rClosed x 16) ∧ ((k : Int), (b : Int)) ∈ rClosed x 16
  | 0, _, k, b, hk, hb, h, _ => ⟨fun a ha => rClosed_next hx hk hb ha h, rClosed_mono hx (n := 0) 16 (by omega) (relL_of.1 h)⟩
  | n + 1, hn, k, b, hk, hb, h, _ => by
    simp only [wN, Bool.or_eq_true, Bool.and_eq_true] at h
    rcases h with h | ⟨h1, h2⟩
    · exact rClosed_full hx n (by omega) k b hk hb h (.inr trivial)
    · have i1 := rClosed_full hx n (by omega) k n hk (by omega) h1 (.inr trivial)
      have i2 := rClosed_full hx n (by omega) n b (by omega) hb h2 (.inr trivial)
      exact ⟨fun a ha => i2.1 a (i1.1 a ha), i2.1 k i1.2⟩

theorem Agree.closed {x : List Pr} (hx : Fin x) : Agree (cl (relL x)) (rClosed x 16) :=
  ⟨(hx.closed 16).2, fun a ha b hb => by
    rw [Bool.eq_iff_iff, relL_of]
    constructor
    · intro h; exact (rClosed_full hx 16 (by omega) a b ha hb h (.inr trivial)).2
    · intro h; have := rClosed_sound hx 16 _ h; simpa using this⟩

theorem loopy_around {x : List Pr} (hx : Fin x) : loopy (relL x) = rAround x := by
  have h := Agree.closed hx
  rw [Bool.eq_iff_iff]
  unfold loopy rAround
  rw [some16_iff, List.any_eq_true]
  constructor
  · rintro ⟨a, ha, hc⟩
    rw [h.eq a ha a ha, relL_of] at hc
    exact ⟨_, hc, by simp⟩
  · rintro ⟨⟨a, b⟩, hm, he⟩
    simp at he
    subst he
    have hr := rIn_iff.1 (h.rng _ hm)
    dsimp only at hr
    refine ⟨a.toNat, by omega, ?_⟩
    rw [h.eq _ (by omega) _ (by omega), relL_of, Int.toNat_of_nonneg (by omega)]
    exact hm

end Go.Proofs.Ytjdaofmhklihiaa
