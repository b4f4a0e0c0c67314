/- How many pairs a relation has. -/
import Derived.Test.YtjdaofmhklihiaaW6
set_option linter.unusedVariables false
set_option linter.unusedSimpArgs false
namespace Go.Proofs.Ytjdaofmhklihiaa
open Go Go.Sl

theorem mk_low (n : Nat) (q : Nat → Bool) : mk (n + 1) q = (q 0).toNat + 2 * mk n fun i => q (i + 1) := Nat.eq_of_testBit_eq fun i => by
  rw [testBit_mk]
  cases i with
  | zero =>
    rw [Nat.testBit_zero]
    cases h : q 0 <;> simp [h]
  | succ i =>
    rw [Nat.testBit_succ, show ((q 0).toNat + 2 * mk n fun i => q (i + 1)) / 2 = mk n fun i => q (i + 1) by cases q 0 <;> simp <;> omega, testBit_mk]
    simp

def cnt16 (n : Nat) (q : Nat → Bool) : Nat := ((List.range n).filter q).length

theorem popc_mk : ∀ (n : Nat) (q : Nat → Bool), popc (mk n q) = cnt16 n q
  | 0, q => by simp [mk, cnt16, popc_zero]
  | n + 1, q => by
    have ih := popc_mk n fun i => q (i + 1)
    rw [mk_low, popc_step, show ((q 0).toNat + 2 * mk n fun i => q (i + 1)) / 2 = mk n fun i => q (i + 1) by cases q 0 <;> simp <;> omega, show ((q 0).toNat + 2 * mk n fun i => q (i + 1)) % 2 = (q 0).toNat by cases q 0 <;> simp, ih]
    unfold cnt16
    rw [List.range_succ_eq_map, List.filter_cons, List.filter_map, show (q ∘ Nat.succ) = fun i => q (i + 1) from rfl]
    cases q 0 <;> simp <;> omega

theorem toldRow_length (p : Nat → Nat → Bool) (a : Nat) : ∀ n, (toldRow p a n).length = cnt16 n (p a)
  | 0 => by simp [toldRow, cnt16]
  | n + 1 => by
    have ih := toldRow_length p a n
    unfold cnt16 at ih ⊢
    rw [List.range_succ, List.filter_append, List.length_append, ← ih]
    simp only [toldRow]
    cases h : p a n <;> simp [h]

theorem toldN_length (p : Nat → Nat → Bool) : ∀ n, (toldN p n).length = cntR p n
  | 0 => rfl
  | n + 1 => by simp only [toldN, cntR, List.length_append, toldN_length p n, toldRow_length, mask, popc_mk]

theorem toldRow_nodup (p : Nat → Nat → Bool) (a : Nat) : ∀ n, (toldRow p a n).Nodup
  | 0 => .nil
  | n + 1 => by
    have ih := toldRow_nodup p a n
    simp only [toldRow]
    split
    · rw [List.nodup_append]
      refine ⟨ih, by simp, fun x hx y hy e => ?_⟩
      subst e
      simp at hy
      obtain ⟨b, h1, h2, h3⟩ := (toldRow_mem p a x n).1 hx
      rw [h3] at hy
      simp at hy; omega
    · exact ih

theorem toldN_nodup (p : Nat → Nat → Bool) : ∀ n, (toldN p n).Nodup
  | 0 => .nil
  | n + 1 => by
    simp only [toldN]
    rw [List.nodup_append]
    refine ⟨toldN_nodup p n, toldRow_nodup p n 16, fun x hx y hy e => ?_⟩
    subst e
    obtain ⟨a, b, h1, _, _, h3⟩ := (toldN_mem p x n).1 hx
    obtain ⟨b', _, _, h5⟩ := (toldRow_mem p n x 16).1 hy
    rw [h3] at h5
    simp at h5; omega

theorem count_len {x : List Pr} (hx : Fin x) : cntR (relL x) 16 = x.length := by
  rw [← toldN_length]
  have hA := Agree.self hx
  refine List.Perm.length_eq ((List.perm_ext_iff_of_nodup (toldN_nodup _ 16) hx.1).2 fun q => ?_)
  have h1 := hA.same
  unfold rSame rLess at h1
  rw [Bool.and_eq_true, List.isEmpty_iff, List.isEmpty_iff, List.filter_eq_nil_iff, List.filter_eq_nil_iff] at h1
  exact ⟨fun h => by simpa using h1.1 q h, fun h => by have := h1.2 q h; simp at this; exact this⟩

end Go.Proofs.Ytjdaofmhklihiaa
