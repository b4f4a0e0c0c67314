/- Numbers, bit by bit. -/
import Derived.Test.YtokdphmnlcmbbaaW14
set_option linter.unusedVariables false
set_option linter.unusedSimpArgs false
namespace Go.Proofs.Ytokdphmnlcmbbaa
open Go Go.Sl

def bit (v i : Nat) : Nat := (v.testBit i).toNat
theorem bit_le (v i : Nat) : bit v i ≤ 1 := by unfold bit; cases v.testBit i <;> decide
theorem shr_zero (v : Nat) : shr v 0 = v := rfl
theorem shr_mod (v i : Nat) : shr v i % 2 = bit v i := by
  unfold shr bit
  rw [Nat.testBit_eq_decide_div_mod_eq, Nat.shiftRight_eq_div_pow]
  rcases Nat.mod_two_eq_zero_or_one (v / 2 ^ i) with h | h <;> simp [h]
theorem shr_div (v i : Nat) : shr v i / 2 = shr v (i + 1) := by
  unfold shr
  rw [Nat.shiftRight_eq_div_pow, Nat.shiftRight_eq_div_pow, Nat.div_div_eq_div_mul, Nat.pow_succ]
theorem shr_le (v i : Nat) : shr v i ≤ v := by unfold shr; rw [Nat.shiftRight_eq_div_pow]; exact Nat.div_le_self _ _
theorem tmod_nat (m n : Nat) : ((m : Nat) : Int).tmod ((n : Nat) : Int) = ((m % n : Nat) : Int) := rfl
theorem tdiv_nat (m n : Nat) : ((m : Nat) : Int).tdiv ((n : Nat) : Int) = ((m / n : Nat) : Int) := rfl
theorem tmod_2 (m : Nat) : ((m : Nat) : Int).tmod 2 = ((m % 2 : Nat) : Int) := tmod_nat m 2
theorem tdiv_2 (m : Nat) : ((m : Nat) : Int).tdiv 2 = ((m / 2 : Nat) : Int) := tdiv_nat m 2
theorem tmod_64 (m : Nat) : ((m : Nat) : Int).tmod 64 = ((m % 64 : Nat) : Int) := tmod_nat m 64

/-- a row of numbers, by place -/
def tabP (n : Nat) (f : Nat → Nat) : List Nat := (List.range n).map f
def tabN (f : Nat → Nat) : List Nat := tabP 64 f
theorem tabP_zero (f : Nat → Nat) : tabP 0 f = [] := rfl
theorem tabP_step (n : Nat) (f : Nat → Nat) : tabP (n + 1) f = tabP n f ++ [f n] := by simp [tabP, List.range_succ]
@[go_sem] theorem tabP_len (n : Nat) (f : Nat → Nat) : (tabP n f).length = n := by simp [tabP]
@[go_sem] theorem tabN_len (f : Nat → Nat) : (tabN f).length = 64 := tabP_len 64 f
theorem tabP_at {n : Nat} {f : Nat → Nat} {i : Nat} (h : i < n) : (tabP n f)[i]? = some (f i) := by simp [tabP, List.getElem?_map, List.getElem?_range h]
theorem tabN_at {f : Nat → Nat} {i : Nat} (h : i < 64) : (tabN f)[i]? = some (f i) := tabP_at h
@[go_sem] theorem tabN_get (f : Nat → Nat) (i : Nat) (h : i < (tabN f).length) : (tabN f)[i] = f i := by simp [tabN, tabP]
@[go_sem] theorem natV_get (l : List Nat) (i : Nat) (h : i < (natV l).length) : (natV l)[i] = iV (l[i]'(by simpa [natV] using h) : Nat) := by simp [natV]
theorem tabN_set (f : Nat → Nat) (k x : Nat) : (tabN f).set k x = tabN fun q => if q = k then x else f q := by
  apply List.ext_getElem?
  intro i
  by_cases h : i < 64
  · rw [tabN_at h, List.getElem?_set]
    by_cases e : k = i
    · subst e
      rw [if_pos rfl, if_pos (by rw [tabN_len]; exact h), if_pos rfl]
    · rw [if_neg e, tabN_at h, if_neg (Ne.symm e)]
  · rw [List.getElem?_eq_none (by rw [List.length_set, tabN_len]; omega), List.getElem?_eq_none (by rw [tabN_len]; omega)]
theorem tabN_ext {f g : Nat → Nat} (h : ∀ q, q < 64 → f q = g q) : tabN f = tabN g := List.map_congr_left fun q hq => h q (List.mem_range.1 hq)
@[go_sem] theorem natV_set (l : List Nat) (i n : Nat) : (natV l).set i (iV (n : Nat)) = natV (l.set i n) := (List.map_set ..).symm
theorem natV_app (l : List Nat) (n : Nat) : natV l ++ [iV (n : Nat)] = natV (l ++ [n]) := by simp [natV]
theorem nl_nat (l : List Nat) : NL (.ro 1 (natV l)) := .ro fun v hv => by obtain ⟨a, _, rfl⟩ := List.mem_map.1 hv; exact .cons (.val _) .nil
theorem natV_zeros (n : Nat) : List.replicate n (iV 0) = natV (tabP n fun _ => 0) := by
  induction n with
  | zero => rfl
  | succ n ih => rw [tabP_step, List.replicate_succ', ih]; simp [natV]
theorem natV_zeros64 : [iV 0] ++ List.replicate 63 (iV 0) = natV (tabN fun _ => 0) := natV_zeros 64

/-- the number of bits -/
def valN : List Nat → Nat
  | [] => 0
  | b :: l => b + 2 * valN l
theorem valN_lt : ∀ (l : List Nat), (∀ b ∈ l, b ≤ 1) → valN l < 2 ^ l.length
  | [], _ => by simp [valN]
  | b :: l, h => by
    have h1 := valN_lt l fun x hx => h x (by simp [hx])
    have h2 := h b (by simp)
    simp only [valN, List.length_cons, Nat.pow_succ]
    omega
theorem valN_testBit : ∀ (l : List Nat) (i : Nat), (∀ b ∈ l, b ≤ 1) → (valN l).testBit i = decide (l.getD i 0 = 1)
  | [], i, _ => by simp [valN]
  | b :: l, i, h => by
    have h2 := h b (by simp)
    cases i with
    | zero =>
      have : valN (b :: l) % 2 = b := by simp only [valN]; omega
      simp [Nat.testBit_zero, this]
    | succ i =>
      rw [Nat.testBit_succ]
      have : valN (b :: l) / 2 = valN l := by simp only [valN]; omega
      rw [this, valN_testBit l i fun x hx => h x (by simp [hx])]
      simp
theorem valN_tab {f : Nat → Nat} (hf : ∀ q, f q ≤ 1) : valN (tabN f) < 18446744073709551616 := by
  have := valN_lt (tabN f) fun b hb => by obtain ⟨q, _, rfl⟩ := List.mem_map.1 hb; exact hf q
  rw [tabN_len] at this; exact this
theorem valN_tabBit {f : Nat → Nat} (hf : ∀ q, f q ≤ 1) (i : Nat) : (valN (tabN f)).testBit i = (decide (i < 64) && decide (f i = 1)) := by
  rw [valN_testBit _ _ fun b hb => by obtain ⟨q, _, rfl⟩ := List.mem_map.1 hb; exact hf q]
  by_cases h : i < 64
  · simp [List.getD, tabN_at h, h]
  · simp [List.getD, h, List.getElem?_eq_none (show (tabN f).length ≤ i by rw [tabN_len]; omega)]
theorem valN_eq {f : Nat → Nat} (hf : ∀ q, f q ≤ 1) {m : Nat} (h : ∀ i, i < 64 → decide (f i = 1) = m.testBit i) (hm : m < 18446744073709551616) : valN (tabN f) = m := by
  apply Nat.eq_of_testBit_eq
  intro i
  rw [valN_tabBit hf]
  by_cases hi : i < 64
  · simp [hi, h i hi]
  · rw [Nat.testBit_lt_two_pow (show m < 2 ^ i from Nat.lt_of_lt_of_le (show m < 2 ^ 64 from hm) (Nat.pow_le_pow_right (by omega) (by omega)))]
    simp [hi]
theorem valN_drop {l : List Nat} {i x : Nat} (h : l[i]? = some x) : valN (l.drop i) = x + 2 * valN (l.drop (i + 1)) := by rw [drop_cons h, valN]
theorem bit_one (v i : Nat) : decide (bit v i = 1) = v.testBit i := by unfold bit; cases v.testBit i <;> simp

/-! ## numbers of 64 bits -/

theorem wrap_nat (n : Nat) (h : n < 18446744073709551616) : IntKind.u64.wrap ((n : Nat) : Int) = n := w64 n h
theorem x64_nat {a b : Nat} (ha : a < 18446744073709551616) (hb : b < 18446744073709551616) : x64 (a : Int) b = ((a ^^^ b : Nat) : Int) := by
  unfold x64
  rw [xor64 ha hb, wrap_nat _ (Nat.xor_lt_two_pow (n := 64) ha hb)]
theorem n64_nat {a b : Nat} (ha : a < 18446744073709551616) (hb : b < 18446744073709551616) : n64 (a : Int) b = ((a &&& b : Nat) : Int) := by
  unfold n64
  rw [and64 ha hb, wrap_nat _ (Nat.lt_of_le_of_lt Nat.and_le_left ha)]
theorem o64_nat {a b : Nat} (ha : a < 18446744073709551616) (hb : b < 18446744073709551616) : o64 (a : Int) b = ((a ||| b : Nat) : Int) := by
  unfold o64
  rw [or64 ha hb, wrap_nat _ (Nat.or_lt_two_pow (n := 64) ha hb)]
theorem sl64_nat {a n : Nat} (hn : n < 64) : sl64 (a : Int) n = (((a <<< n) % 18446744073709551616 : Nat) : Int) := by
  unfold sl64
  rw [show min ((n : Int)).toNat 64 = n by simp; omega, Nat.shiftLeft_eq]
  have e : (a : Int) * 2 ^ n = ((a * 2 ^ n : Nat) : Int) := by simp
  rw [e]
  simp only [IntKind.wrap, IntKind.bits, IntKind.signed, Bool.false_eq_true, if_false]
  show ((a * 2 ^ n : Nat) : Int) % ((2 ^ 64 : Nat) : Int) = _
  rw [← Int.natCast_emod]
theorem sr64_nat {a n : Nat} (hn : n < 64) : sr64 (a : Int) n = ((a >>> n : Nat) : Int) := by
  unfold sr64
  rw [show min ((n : Int)).toNat 64 = n by simp; omega, Nat.shiftRight_eq_div_pow, show ((2 : Int) ^ n) = ((2 ^ n : Nat) : Int) by simp, Int.fdiv_eq_ediv_of_nonneg _ (Int.natCast_nonneg _)]
  simp
theorem and63 (b : Nat) : b &&& 63 = b % 64 := Nat.and_two_pow_sub_one_eq_mod b 6
theorem n64_63 {b : Nat} (hb : b < 18446744073709551616) : n64 (b : Int) 63 = ((b % 64 : Nat) : Int) := by
  rw [← and63]; exact n64_nat (b := 63) hb (by omega)

/-! ## what the document's answer reckons -/

theorem valN_drop_lt {l : List Nat} (h : ∀ b ∈ l, b ≤ 1) (hl : l.length ≤ 64) (i : Nat) : valN (l.drop i) < 18446744073709551616 := by
  have h1 := valN_lt (l.drop i) fun b hb => h b (List.mem_of_mem_drop hb)
  have h2 : 2 ^ (l.drop i).length ≤ 2 ^ 64 := Nat.pow_le_pow_right (by omega) (by rw [List.length_drop]; omega)
  exact Nat.lt_of_lt_of_le h1 h2
def mvP (v : Nat) (n : Int) (i : Nat) (q : Nat) : Nat := if 0 ≤ (q : Int) - n ∧ (q : Int) - n < i then bit v ((q : Int) - n).toNat else 0
theorem mvP_le (v : Nat) (n : Int) (i q : Nat) : mvP v n i q ≤ 1 := by unfold mvP; split; exact bit_le _ _; omega
theorem mvP_zero (v : Nat) (n : Int) : mvP v n 0 = fun _ => 0 := by funext q; unfold mvP; rw [if_neg (by omega)]
theorem mvP_yes {v : Nat} {n : Int} {i m : Nat} (hm : (i : Int) + n = m) : (fun q => if q = m then bit v i else mvP v n i q) = mvP v n (i + 1) := by
  funext q
  unfold mvP
  by_cases h : q = m
  · subst h
    rw [if_pos rfl, if_pos (by omega), show ((q : Int) - n).toNat = i by omega]
  · rw [if_neg h]
    by_cases h2 : 0 ≤ (q : Int) - n ∧ (q : Int) - n < i
    · rw [if_pos h2, if_pos (by omega)]
    · rw [if_neg h2, if_neg (by omega)]
theorem mvP_no {v : Nat} {n : Int} {i : Nat} (h : ¬ (0 ≤ (i : Int) + n ∧ (i : Int) + n < 64)) : tabN (mvP v n (i + 1)) = tabN (mvP v n i) := tabN_ext fun q hq => by
  unfold mvP
  by_cases h2 : 0 ≤ (q : Int) - n ∧ (q : Int) - n < i
  · rw [if_pos h2, if_pos (by omega)]
  · rw [if_neg h2, if_neg (by omega)]
theorem valN_left {v m : Nat} (hm : m < 64) : valN (tabN (mvP v m 64)) = (v <<< m) % 18446744073709551616 := by
  refine valN_eq (fun q => mvP_le _ _ _ q) (fun i hi => ?_) (Nat.mod_lt _ (by omega))
  rw [show (18446744073709551616 : Nat) = 2 ^ 64 from rfl, Nat.testBit_mod_two_pow, Nat.testBit_shiftLeft]
  unfold mvP
  by_cases h : m ≤ i
  · rw [if_pos (by omega), bit_one, show ((i : Int) - (m : Nat)).toNat = i - m by omega]
    simp [hi, h]
  · rw [if_neg (by omega)]
    simp [h]
theorem valN_right {v m : Nat} (hv : v < 18446744073709551616) (hm : m < 64) : valN (tabN (mvP v (-(m : Nat)) 64)) = v >>> m := by
  refine valN_eq (fun q => mvP_le _ _ _ q) (fun i hi => ?_) (Nat.lt_of_le_of_lt (Nat.shiftRight_le _ _) hv)
  rw [Nat.testBit_shiftRight]
  unfold mvP
  by_cases h : i + m < 64
  · rw [if_pos (by omega), bit_one, show ((i : Int) - -(m : Nat)).toNat = m + i by omega]
  · rw [if_neg (by omega), Nat.testBit_lt_two_pow (show v < 2 ^ (m + i) from Nat.lt_of_lt_of_le (show v < 2 ^ 64 from hv) (Nat.pow_le_pow_right (by omega) (by omega)))]
    simp

def c4 (op : Int) (s : Nat) : Nat := if op = 4 then s % 2 else s
def c5 (op : Int) (s : Nat) : Nat := if op = 5 then s / 2 else s
def c6 (op : Int) (s : Nat) : Nat := if op = 6 then (if 1 < s then 1 else s) else s
theorem c4_le {op : Int} {s : Nat} (h : s ≤ 2) : c4 op s ≤ 2 := by unfold c4; split <;> omega
theorem c5_le {op : Int} {s : Nat} (h : s ≤ 2) : c5 op s ≤ 2 := by unfold c5; split <;> omega
def rkB (op : Int) (a b q : Nat) : Nat := c6 op (c5 op (c4 op (bit a q + bit b q)))
theorem bit2 (v q : Nat) : bit v q = 0 ∧ v.testBit q = false ∨ bit v q = 1 ∧ v.testBit q = true := by unfold bit; cases v.testBit q <;> simp
theorem rk4 {a b : Nat} (ha : a < 18446744073709551616) (hb : b < 18446744073709551616) : valN (tabN (rkB 4 a b)) = a ^^^ b := by
  refine valN_eq (fun q => ?_) (fun i hi => ?_) (Nat.xor_lt_two_pow (n := 64) ha hb)
  · rcases bit2 a q with h | h <;> rcases bit2 b q with h' | h' <;> simp [rkB, c4, c5, c6, h.1, h'.1]
  · rw [Nat.testBit_xor]
    rcases bit2 a i with h | h <;> rcases bit2 b i with h' | h' <;> simp [rkB, c4, c5, c6, h.1, h'.1, h.2, h'.2]
theorem rk5 {a b : Nat} (ha : a < 18446744073709551616) (hb : b < 18446744073709551616) : valN (tabN (rkB 5 a b)) = a &&& b := by
  refine valN_eq (fun q => ?_) (fun i hi => ?_) (Nat.lt_of_le_of_lt Nat.and_le_left ha)
  · rcases bit2 a q with h | h <;> rcases bit2 b q with h' | h' <;> simp [rkB, c4, c5, c6, h.1, h'.1]
  · rw [Nat.testBit_and]
    rcases bit2 a i with h | h <;> rcases bit2 b i with h' | h' <;> simp [rkB, c4, c5, c6, h.1, h'.1, h.2, h'.2]
theorem rk6 {a b : Nat} (ha : a < 18446744073709551616) (hb : b < 18446744073709551616) : valN (tabN (rkB 6 a b)) = a ||| b := by
  refine valN_eq (fun q => ?_) (fun i hi => ?_) (Nat.or_lt_two_pow (n := 64) ha hb)
  · rcases bit2 a q with h | h <;> rcases bit2 b q with h' | h' <;> simp [rkB, c4, c5, c6, h.1, h'.1]
  · rw [Nat.testBit_or]
    rcases bit2 a i with h | h <;> rcases bit2 b i with h' | h' <;> simp [rkB, c4, c5, c6, h.1, h'.1, h.2, h'.2]
theorem reck_7 {a b : Nat} (hb : b < 18446744073709551616) : reck 7 a b = ((valN (tabN (mvP a (b % 64 : Nat) 64)) : Nat) : Int) := by
  have hm : b % 64 < 64 := Nat.mod_lt _ (by omega)
  rw [valN_left hm, ← sl64_nat hm, ← n64_63 hb]
  simp [reck]
theorem reck_8 {a b : Nat} (ha : a < 18446744073709551616) (hb : b < 18446744073709551616) : reck 8 a b = ((valN (tabN (mvP a (-(b % 64 : Nat)) 64)) : Nat) : Int) := by
  have hm : b % 64 < 64 := Nat.mod_lt _ (by omega)
  rw [valN_right ha hm, ← sr64_nat hm, ← n64_63 hb]
  simp [reck]
theorem reck_456 {op : Int} {a b : Nat} (ha : a < 18446744073709551616) (hb : b < 18446744073709551616) (h : op = 4 ∨ op = 5 ∨ op = 6) : reck op a b = ((valN (tabN (rkB op a b)) : Nat) : Int) := by
  rcases h with rfl | rfl | rfl
  · rw [rk4 ha hb, ← x64_nat ha hb]; simp [reck]
  · rw [rk5 ha hb, ← n64_nat ha hb]; simp [reck]
  · rw [rk6 ha hb, ← o64_nat ha hb]; simp [reck]
end Go.Proofs.Ytokdphmnlcmbbaa
