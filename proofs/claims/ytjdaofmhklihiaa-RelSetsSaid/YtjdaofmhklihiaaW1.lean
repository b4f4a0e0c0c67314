/- Bits: how many there are, the lowest; the functions Count and First of word. -/
import Derived.Test.YtjdaofmhklihiaaT
import Derived.Test.YtjdaofmhklihiaaSl18
set_option linter.unusedVariables false
set_option linter.unusedSimpArgs false
namespace Go.Proofs.Ytjdaofmhklihiaa
open Go Go.Sl Go.Proofs.Try

/-- how many bits are there -/
def popc (v : Nat) : Nat := if h : v = 0 then 0 else v % 2 + popc (v / 2)
termination_by v
decreasing_by omega

theorem popc_zero : popc 0 = 0 := by unfold popc; simp
theorem popc_step (v : Nat) : popc v = v % 2 + popc (v / 2) := by
  by_cases h : v = 0
  · subst h; simp [popc_zero]
  · rw [popc]; simp [h]

theorem popc_le : ∀ (k v : Nat), v < 2 ^ k → popc v ≤ k
  | 0, v, h => by simp at h; subst h; simp [popc_zero]
  | k + 1, v, h => by
    rw [popc_step]
    have := popc_le k (v / 2) (by rw [Nat.pow_succ] at h; omega)
    omega

theorem popc_drop (v : Nat) (h : 0 < v) : popc (v &&& (v - 1)) + 1 = popc v := by
  induction v using Nat.strongRecOn with
  | _ v ih =>
    rw [popc_step v, popc_step (v &&& (v - 1))]
    have hd : (v &&& (v - 1)) / 2 = (v / 2) &&& ((v - 1) / 2) := by
      have := Nat.shiftRight_and_distrib (a := v) (b := v - 1) (i := 1)
      simpa [Nat.shiftRight_eq_div_pow] using this
    have hm : (v &&& (v - 1)) % 2 = (v % 2) &&& ((v - 1) % 2) := by
      rw [show (2 : Nat) = 2 ^ 1 by rfl, Nat.and_mod_two_pow]
    rw [hd, hm]
    rcases Nat.mod_two_eq_zero_or_one v with h0 | h1
    · have e : (v - 1) / 2 = v / 2 - 1 := by omega
      have := ih (v / 2) (by omega) (by omega)
      rw [e, h0, Nat.zero_and]; omega
    · have e : (v - 1) / 2 = v / 2 := by omega
      have e2 : (v - 1) % 2 = 0 := by omega
      rw [e, e2, h1, Nat.and_zero, Nat.and_self]; omega

theorem drop_lt (v : Nat) (h : 0 < v) : v &&& (v - 1) < v := Nat.lt_of_le_of_lt Nat.and_le_right (by omega)

/-- the lowest bit -/
def lowb (v : Nat) : Nat := if h : v = 0 then 0 else if v % 2 = 1 then 0 else lowb (v / 2) + 1
termination_by v
decreasing_by omega

theorem lowb_odd {v : Nat} (h : v % 2 = 1) : lowb v = 0 := by rw [lowb]; simp [h]
theorem lowb_even {v : Nat} (h : v % 2 = 0) (h0 : 0 < v) : lowb v = lowb (v / 2) + 1 := by rw [lowb]; simp [h, Nat.pos_iff_ne_zero.1 h0]

theorem testBit_lowb (v : Nat) (h : 0 < v) : v.testBit (lowb v) = true := by
  induction v using Nat.strongRecOn with
  | _ v ih =>
    rcases Nat.mod_two_eq_zero_or_one v with h0 | h1
    · rw [lowb_even h0 h, Nat.testBit_succ]; exact ih _ (by omega) (by omega)
    · rw [lowb_odd h1]; simp [h1]

theorem lowb_lt {v k : Nat} (h : 0 < v) (hk : v < 2 ^ k) : lowb v < k := by
  refine Nat.lt_of_not_le fun hle => ?_
  have := testBit_lowb v h
  rw [Nat.testBit_lt_two_pow (Nat.lt_of_lt_of_le hk (Nat.pow_le_pow_right (by omega) hle))] at this
  cases this

theorem testBit_drop (v i : Nat) (h : 0 < v) : (v &&& (v - 1)).testBit i = (v.testBit i && i != lowb v) := by
  induction v using Nat.strongRecOn generalizing i with
  | _ v ih =>
    rw [Nat.testBit_and]
    rcases Nat.mod_two_eq_zero_or_one v with h0 | h1
    · rw [lowb_even h0 h]
      cases i with
      | zero => simp [h0]
      | succ i =>
        have := ih (v / 2) (by omega) i (by omega)
        rw [Nat.testBit_and] at this
        rw [Nat.testBit_succ, Nat.testBit_succ, show (v - 1) / 2 = v / 2 - 1 by omega, this]
        simp
    · rw [lowb_odd h1]
      cases i with
      | zero => simp; omega
      | succ i => rw [Nat.testBit_succ, Nat.testBit_succ, show (v - 1) / 2 = v / 2 by omega]; simp

theorem and_neg (w v : Nat) (h : 0 < v) (hw : v < 2 ^ w) : v &&& (2 ^ w - v) = 2 ^ lowb v := by
  refine Nat.eq_of_testBit_eq fun i => ?_
  rw [Nat.testBit_and, show 2 ^ w - v = 2 ^ w - (v - 1 + 1) by omega, Nat.testBit_two_pow_sub_succ (by omega)]
  have := testBit_drop v i h
  rw [Nat.testBit_and] at this
  have hl := testBit_lowb v h
  rw [Nat.testBit_two_pow]
  by_cases hi : i = lowb v
  · subst hi
    have h2 := lowb_lt h hw
    rw [hl] at this ⊢
    have h3 : (v - 1).testBit (lowb v) = false := by simpa using this
    simp [h3, h2]
  · have hb : (i != lowb v) = true := by simpa using hi
    rw [hb] at this
    cases hv : v.testBit i
    · simp [Ne.symm hi]
    · rw [hv] at this
      have h3 : (v - 1).testBit i = true := by simpa using this
      simp [h3, Ne.symm hi]

theorem popc_ones (k : Nat) : popc (2 ^ k - 1) = k := by
  induction k with
  | zero => simp [popc_zero]
  | succ k ih =>
    rw [popc_step, show (2 ^ (k + 1) - 1) % 2 = 1 by rw [Nat.pow_succ]; have := Nat.two_pow_pos k; omega, show (2 ^ (k + 1) - 1) / 2 = 2 ^ k - 1 by rw [Nat.pow_succ]; have := Nat.two_pow_pos k; omega, ih]
    omega

end Go.Proofs.Ytjdaofmhklihiaa
