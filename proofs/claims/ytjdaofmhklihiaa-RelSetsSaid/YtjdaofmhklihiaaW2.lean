/- Relations of 16 things: what they are as values. -/
import Derived.Test.YtjdaofmhklihiaaW1
import Derived.Test.YtjdaofmhklihiaaSl16
set_option linter.unusedVariables false
set_option linter.unusedSimpArgs false
namespace Go.Proofs.Ytjdaofmhklihiaa
open Go Go.Sl Go.Proofs.Try

/-- the number whose bits below n are those of q -/
def mk : Nat → (Nat → Bool) → Nat
  | 0, _ => 0
  | n + 1, q => mk n q ||| (if q n then pw n else 0)

theorem mk_lt : ∀ (n : Nat) (q : Nat → Bool), mk n q < 2 ^ n
  | 0, _ => by simp [mk]
  | n + 1, q => by
    have h := mk_lt n q
    have h2 := pw_lt (Nat.lt_succ_self n)
    have h3 : (2 : Nat) ^ (n + 1) = 2 ^ n * 2 := Nat.pow_succ ..
    refine Nat.or_lt_two_pow (n := n + 1) (by omega) ?_
    split
    · exact h2
    · exact Nat.two_pow_pos _

theorem testBit_mk : ∀ (n : Nat) (q : Nat → Bool) (i : Nat), (mk n q).testBit i = (decide (i < n) && q i)
  | 0, _, i => by simp [mk]
  | n + 1, q, i => by
    rw [mk, Nat.testBit_or, testBit_mk n q i]
    by_cases h : i = n
    · subst h
      cases hq : q i <;> simp [testBit_pw]
    · have : (if q n = true then pw n else 0).testBit i = false := by
        split
        · rw [testBit_pw]; simp [Ne.symm h]
        · exact Nat.zero_testBit i
      rw [this, Bool.or_false]
      congr 1
      exact decide_eq_decide.2 (by omega)

/-- a set of things below 16 -/
def mask (q : Nat → Bool) : Nat := mk 16 q
theorem mask_lt (q : Nat → Bool) : mask q < 65536 := mk_lt 16 q
theorem testBit_mask (q : Nat → Bool) (i : Nat) : (mask q).testBit i = (decide (i < 16) && q i) := testBit_mk 16 q i
theorem mask_ext {q q' : Nat → Bool} (h : ∀ i, i < 16 → q i = q' i) : mask q = mask q' := Nat.eq_of_testBit_eq fun i => by
  rw [testBit_mask, testBit_mask]
  by_cases hi : i < 16
  · simp [hi, h i hi]
  · simp [hi]
theorem mask_of {x : Nat} (h : x < 65536) : mask x.testBit = x := Nat.eq_of_testBit_eq fun i => by
  rw [testBit_mask]
  by_cases hi : i < 16
  · simp [hi]
  · simp only [hi, decide_false, Bool.false_and]
    exact (Nat.testBit_lt_two_pow (Nat.lt_of_lt_of_le (show x < 2 ^ 16 from h) (Nat.pow_le_pow_right (by omega) (by omega)))).symm
theorem mask_and (q q' : Nat → Bool) : mask q &&& mask q' = mask fun i => q i && q' i := Nat.eq_of_testBit_eq fun i => by
  rw [Nat.testBit_and, testBit_mask, testBit_mask, testBit_mask]; cases decide (i < 16) <;> cases q i <;> cases q' i <;> rfl
theorem mask_or (q q' : Nat → Bool) : mask q ||| mask q' = mask fun i => q i || q' i := Nat.eq_of_testBit_eq fun i => by
  rw [Nat.testBit_or, testBit_mask, testBit_mask, testBit_mask]; cases decide (i < 16) <;> cases q i <;> cases q' i <;> rfl
theorem mask_less (q q' : Nat → Bool) : mask q ^^^ mask (fun i => q i && q' i) = mask fun i => q i && !q' i := Nat.eq_of_testBit_eq fun i => by
  rw [Nat.testBit_xor, testBit_mask, testBit_mask, testBit_mask]; cases decide (i < 16) <;> cases q i <;> cases q' i <;> rfl
theorem mask_pw {n : Nat} (h : n < 16) : pw n = mask fun i => i == n := Nat.eq_of_testBit_eq fun i => by
  rw [testBit_mask, testBit_pw]
  by_cases e : n = i
  · subst e; simp [h]
  · simp [e, Ne.symm e]
theorem mask_none : (0 : Nat) = mask fun _ => false := by decide
theorem mask_eq_zero {q : Nat → Bool} : mask q = 0 ↔ ∀ i, i < 16 → q i = false := by
  constructor
  · intro h i hi
    have := testBit_mask q i
    rw [h, Nat.zero_testBit] at this
    simpa [hi] using this.symm
  · intro h
    rw [mask_none]; exact mask_ext h
theorem mask_shr {q : Nat → Bool} {n : Nat} (h : n < 16) : shr (mask q) n &&& 1 = (q n).toNat := by
  unfold shr
  have h1 := testBit_mask q n
  simp only [Nat.testBit, h, decide_true, Bool.true_and] at h1
  rw [Nat.and_comm] at h1
  cases hq : q n <;> rw [hq] at h1 <;> simp at h1 ⊢ <;> omega

/-- a relation's cells -/
def relC (p : Nat → Nat → Bool) : List V := (List.range 16).map fun a => .val (.int .u16 (mask (p a)))
@[go_sem] theorem length_relC (p : Nat → Nat → Bool) : (relC p).length = 16 := Eq.trans rfl rfl
theorem relC_ext {p q : Nat → Nat → Bool} (h : ∀ a, a < 16 → ∀ b, b < 16 → p a b = q a b) : relC p = relC q := List.map_congr_left fun a ha => by rw [mask_ext (h a (List.mem_range.1 ha))]
@[go_sem] theorem fits_relC (p : Nat → Nat → Bool) : V.fits 16 (.agg (relC p)) = true := Eq.trans rfl rfl
theorem nl_relC (p : Nat → Nat → Bool) : NLs (relC p) := fun v hv => by
  obtain ⟨a, _, rfl⟩ := List.mem_map.1 hv
  exact .val _
theorem relC_none : relC (fun _ _ => false) = List.replicate 16 (.val (.int .u16 0)) := rfl
@[go_sem] theorem relC_get (p : Nat → Nat → Bool) {a : Nat} (h : a < 16) : (relC p).getD a .any = .val (.int .u16 (mask (p a))) := by
  simp [relC, List.getD, List.getElem?_map, List.getElem?_range h]
@[go_sem] theorem part_relC (p : Nat → Nat → Bool) {a : Nat} (h : a < 16) : partV false 1 (relC p) a = .val (.int .u16 (mask (p a))) := by
  simp only [partV, Bool.false_eq_true, if_false]; exact relC_get p h
@[go_sem] theorem partAll_relC (p : Nat → Nat → Bool) : partV true 16 (relC p) 0 = .agg (relC p) := Eq.trans rfl rfl
@[go_sem] theorem put_relC (p : Nat → Nat → Bool) {a : Nat} {q : Nat → Bool} (h : a < 16) : putPart (.agg (relC p)) a (.val (.int .u16 (mask q))) = .agg (relC fun x => if x = a then q else p x) := by
  simp only [putPart, splice, V.cells]
  congr 1
  apply List.ext_getElem?
  intro i
  simp only [List.length_singleton]
  have hl : ((relC p).take a).length = a := by simp [relC]; omega
  by_cases h1 : i < a
  · rw [List.getElem?_append_left (by omega), List.getElem?_take, if_pos h1]
    simp [relC, List.getElem?_map, List.getElem?_range (show i < 16 by omega), show i ≠ a by omega]
  · rw [List.getElem?_append_right (by omega), hl]
    by_cases h2 : i = a
    · subst h2
      simp [relC, List.getElem?_map, List.getElem?_range h]
    · rw [List.getElem?_append_right (by simp; omega), List.getElem?_drop]
      simp only [List.length_singleton]
      rw [show a + 1 + (i - a - 1) = i by omega]
      by_cases h3 : i < 16
      · simp [relC, List.getElem?_map, List.getElem?_range h3, h2]
      · simp [relC, h3]
@[go_sem] theorem putAll_relC (p q : Nat → Nat → Bool) : putPart (.agg (relC p)) 0 (.agg (relC q)) = .agg (relC q) := Eq.trans rfl rfl

@[go_sem] theorem mask_le (q : Nat → Bool) : ((mask q : Nat) : Int) < 65536 := by have := mask_lt q; omega


@[go_sem] theorem mask_le64 (q : Nat → Bool) : ((mask q : Nat) : Int) < 18446744073709551616 := by have := mask_lt q; omega
theorem mask_pos_le {q : Nat → Bool} (h : ¬ mask q = 0) : (1 : Int) ≤ ((mask q : Nat) : Int) := by omega
@[go_sem] theorem mask_sub_le (q : Nat → Bool) : ((mask q - 1 : Nat) : Int) < 65536 := by have := mask_lt q; omega
theorem mask_drop {q : Nat → Bool} (h : ¬ mask q = 0) : mask q &&& (mask q - 1) = mask fun b => q b && b != lowb (mask q) := Nat.eq_of_testBit_eq fun i => by
  rw [testBit_drop _ _ (by omega), testBit_mask, testBit_mask]
  cases decide (i < 16) <;> simp
theorem mask_low {q : Nat → Bool} (h : ¬ mask q = 0) : lowb (mask q) < 16 ∧ q (lowb (mask q)) = true := by
  have h1 := lowb_lt (k := 16) (show 0 < mask q by omega) (mask_lt q)
  have h2 := testBit_lowb (mask q) (by omega)
  rw [testBit_mask] at h2
  exact ⟨h1, by simpa [h1] using h2⟩
theorem mask_one_ne {a : Int} (h : ¬ mask (fun i => decide ((i : Int) = a)) = 0) : ∃ n : Nat, a = n ∧ n < 16 := by
  refine Classical.byContradiction fun hn => h (mask_eq_zero.2 fun i hi => decide_eq_false fun e => hn ⟨i, e.symm, hi⟩)
theorem mask_one_pos {n : Nat} (h : n < 16) : ¬ mask (fun i => decide ((i : Int) = (n : Int))) = 0 := fun e => by
  have := mask_eq_zero.1 e n h
  simp at this
theorem mask_one_zero {a : Int} (h : a < 0 ∨ 16 ≤ a) : mask (fun i => decide ((i : Int) = a)) = 0 := mask_eq_zero.2 fun i hi => decide_eq_false (by omega)
theorem mask_and_one (q : Nat → Bool) (b : Int) : (mask (fun i => q i && decide ((i : Int) = b)) = 0) ↔ (decide (0 ≤ b ∧ b < 16) && q b.toNat) = false := by
  rw [mask_eq_zero]
  constructor
  · intro h
    by_cases hb : 0 ≤ b ∧ b < 16
    · have := h b.toNat (by omega)
      simpa [hb, Int.toNat_of_nonneg hb.1] using this
    · simp [hb]
  · intro h i hi
    by_cases e : (i : Int) = b
    · subst e
      have : (i : Int) < 16 := by omega
      simpa [this] using h
    · simp [e]

theorem mask_ne_one (q : Nat → Bool) (b : Int) : (((mask fun i => q i && decide ((i : Int) = b) : Nat) : Int) != 0) = (decide (0 ≤ b) && decide (b < 16) && q b.toNat) := by
  have h := mask_and_one q b
  rw [← Bool.decide_and]
  by_cases e : mask (fun i => q i && decide ((i : Int) = b)) = 0
  · rw [h.1 e, e]; rfl
  · have e2 : (decide (0 ≤ b ∧ b < 16) && q b.toNat) = true := by
      cases hh : (decide (0 ≤ b ∧ b < 16) && q b.toNat)
      · exact absurd (h.2 hh) e
      · rfl
    rw [e2]; simpa using e

@[go_sem] theorem mask_shr_le (q : Nat → Bool) (n : Nat) : ((shr (mask q) n : Nat) : Int) < 65536 := by
  unfold shr
  have := mask_lt q
  have h2 : mask q >>> n ≤ mask q := by rw [Nat.shiftRight_eq_div_pow]; exact Nat.div_le_self _ _
  omega
@[go_sem] theorem toNat_one (b : Bool) : (((b.toNat : Nat) : Int) == 1) = b := by cases b <;> rfl
@[go_sem] theorem toNat_nil (b : Bool) : (((b.toNat : Nat) : Int) == 0) = !b := by cases b <;> rfl

/-- one of those below 16 -/
def some16 (q : Nat → Bool) : Bool := (List.range 16).any q
theorem some16_iff {q : Nat → Bool} : some16 q = true ↔ ∃ b, b < 16 ∧ q b = true := by simp only [some16, List.any_eq_true, List.mem_range]
@[simp] theorem some16_false : (some16 fun _ => false) = false := rfl
theorem some16_ext {q q' : Nat → Bool} (h : ∀ b, b < 16 → q b = q' b) : some16 q = some16 q' := by
  rw [Bool.eq_iff_iff, some16_iff, some16_iff]
  exact exists_congr fun b => and_congr_right fun hb => by rw [h b hb]

/-- a goes with c over some b -/
def th (p q : Nat → Nat → Bool) (a c : Nat) : Bool := some16 fun b => p a b && q b c
theorem any_drop {p s q : Nat → Bool} {f : Nat} (hf : f < 16) (hp : p f = true) (hs : s f = true) : (some16 fun b => p b && !(s b && b != f) && q b) = ((some16 fun b => p b && !s b && q b) || q f) := by
  rw [Bool.eq_iff_iff]
  simp only [some16_iff, Bool.and_eq_true, Bool.or_eq_true, Bool.not_eq_true', Bool.and_eq_false_iff, bne_eq_false_iff_eq]
  constructor
  · rintro ⟨b, hb, ⟨h1, h2⟩, h3⟩
    rcases h2 with h2 | h2
    · exact .inl ⟨b, hb, ⟨h1, h2⟩, h3⟩
    · subst h2; exact .inr h3
  · rintro (⟨b, hb, ⟨h1, h2⟩, h3⟩ | h)
    · exact ⟨b, hb, ⟨h1, .inl h2⟩, h3⟩
    · exact ⟨f, hf, ⟨hp, .inr rfl⟩, h⟩

/-- what can be reached over those below n -/
def wN (p : Nat → Nat → Bool) : Nat → Nat → Nat → Bool
  | 0, a, b => p a b
  | n + 1, a, b => wN p n a b || (wN p n a n && wN p n n b)
def cl (p : Nat → Nat → Bool) : Nat → Nat → Bool := wN p 16
def loopy (p : Nat → Nat → Bool) : Bool := some16 fun a => cl p a a

def cntR (p : Nat → Nat → Bool) : Nat → Nat
  | 0 => 0
  | n + 1 => cntR p n + popc (mask (p n))
theorem cntR_le (p : Nat → Nat → Bool) : ∀ n, cntR p n ≤ 16 * n
  | 0 => Nat.le_refl _
  | n + 1 => by have := cntR_le p n; have := popc_le 16 _ (mask_lt (p n)); simp only [cntR]; omega

/-- may a come next? -/
def free (p : Nat → Nat → Bool) (s : Nat → Bool) (a : Nat) : Bool := s a && (((mask fun b => p b a && s b : Nat) : Int) == 0)
/-- the least that may come next, from i on -/
def pick1 (p : Nat → Nat → Bool) (s : Nat → Bool) : Option Nat := (List.range 16).find? (free p s)
theorem pick1_some {p : Nat → Nat → Bool} {s : Nat → Bool} {i : Nat} (hi : i < 16) (h : free p s i = true) (hn : ∀ x, x < i → free p s x = false) : pick1 p s = some i := by
  unfold pick1
  rw [List.find?_eq_some_iff_getElem]
  refine ⟨h, i, by simpa using hi, by simp, fun j hj => ?_⟩
  simp [hn j hj]
theorem pick1_none {p : Nat → Nat → Bool} {s : Nat → Bool} (hn : ∀ x, x < 16 → free p s x = false) : pick1 p s = none := by
  unfold pick1
  rw [List.find?_eq_none]
  intro x hx
  simp [hn x (List.mem_range.1 hx)]
theorem pick1_in {p : Nat → Nat → Bool} {s : Nat → Bool} {a : Nat} (h : pick1 p s = some a) : a < 16 ∧ free p s a = true ∧ s a = true := by
  unfold pick1 at h
  have h1 := List.mem_of_find?_eq_some h
  have h2 := List.find?_some h
  have h3 := h2
  unfold free at h3
  exact ⟨List.mem_range.1 h1, h2, by simp at h3; exact h3.1⟩
theorem mask_rem {s : Nat → Bool} {a : Nat} (ha : a < 16) (h : s a = true) : mask (fun x => s x && !(x == a)) < mask s := by
  have e : mask (fun x => s x && !(x == a)) ||| pw a = mask s := Nat.eq_of_testBit_eq fun i => by
    rw [Nat.testBit_or, testBit_mask, testBit_mask, testBit_pw]
    by_cases e : i = a
    · subst e; simp [ha, h]
    · have : (i == a) = false := by simp [e]
      simp [this, Ne.symm e]
  have e2 : mask (fun x => s x && !(x == a)) &&& pw a = 0 := Nat.eq_of_testBit_eq fun i => by
    rw [Nat.testBit_and, testBit_mask, testBit_pw, Nat.zero_testBit]
    by_cases e : a = i
    · subst e; simp
    · simp [e]
  have h1 : mask (fun x => s x && !(x == a)) ≤ mask s := by rw [← e]; exact Nat.left_le_or
  refine Nat.lt_of_le_of_ne h1 fun e3 => ?_
  have h4 := testBit_mask s a
  rw [← e3, testBit_mask] at h4
  simp [h, ha] at h4

def order (p : Nat → Nat → Bool) (s : Nat → Bool) (out : List Nat) : Option (List Nat) :=
  if mask s = 0 then some out else
  match h : pick1 p s with
  | none => none
  | some a => order p (fun x => s x && !(x == a)) (out ++ [a])
termination_by mask s
decreasing_by exact mask_rem (pick1_in h).1 (pick1_in h).2.2

theorem order_done {p : Nat → Nat → Bool} {s : Nat → Bool} {out : List Nat} (h : mask s = 0) : order p s out = some out := by rw [order, if_pos h]
theorem order_none {p : Nat → Nat → Bool} {s : Nat → Bool} {out : List Nat} (h : ¬ mask s = 0) (h2 : pick1 p s = none) : order p s out = none := by
  rw [order, if_neg h]; split
  · rfl
  · rename_i a e; rw [h2] at e; cases e
theorem order_some {p : Nat → Nat → Bool} {s : Nat → Bool} {out : List Nat} {a : Nat} (h : ¬ mask s = 0) (h2 : pick1 p s = some a) : order p s out = order p (fun x => s x && !(x == a)) (out ++ [a]) := by
  rw [order, if_neg h]; split
  · rename_i e; rw [h2] at e; cases e
  · rename_i b e; rw [h2] at e; cases e; rfl

/-- a list of things as values -/
def nums (l : List Nat) : List V := l.map fun (n : Nat) => .val (.int .i64 (n : Int))
@[go_sem] theorem length_nums (l : List Nat) : (nums l).length = l.length := List.length_map ..
@[go_sem] theorem take_nums (l : List Nat) : (nums l).take l.length = nums l := List.take_of_length_le (by simp [nums])
@[go_sem] theorem nums_append (l m : List Nat) : nums (l ++ m) = nums l ++ nums m := List.map_append ..
@[go_sem] theorem nums_get (l : List Nat) (i : Nat) (h : i < (nums l).length) : (nums l)[i] = .val (.int .i64 ((l[i]'(by simpa [nums] using h) : Nat) : Int)) := by simp [nums]
theorem nums_one (n : Nat) : nums [n] = [.val (.int .i64 (n : Int))] := rfl
theorem nums_nil : nums [] = [] := rfl
def ordV : Option (List Nat) → V
  | none => .tup [.val (.slice none 0 0), .val (.bool false)]
  | some l => .tup [.ro 1 (nums l), .val (.bool true)]
theorem nl_nums (l : List Nat) : ∀ v ∈ nums l, NLs v.cells := fun v hv => by
  obtain ⟨a, _, rfl⟩ := List.mem_map.1 hv
  exact .cons (.val _) .nil
theorem nl_ordV (o : Option (List Nat)) : NL (ordV o) := by
  cases o with
  | none => exact .tup (.cons (.val _) (.cons (.val _) .nil))
  | some l => exact .tup (.cons (.ro (nl_nums l)) (.cons (.val _) .nil))

end Go.Proofs.Ytjdaofmhklihiaa
