/- Ops of a test, one by one. -/
import Derived.Test.YtokdphmnlcmbbaaW12
set_option linter.unusedVariables false
set_option linter.unusedSimpArgs false
namespace Go.Proofs.Ytokdphmnlcmbbaa
open Go Go.Sl

theorem opsL_append (th : Nat) : ∀ (i : Nat) (l l' : List Ins), opsL th i (l ++ l') = opsL th i l ++ opsL th (i + l.length) l'
  | i, [], l' => by simp [opsL]
  | i, x :: l, l' => by
    have := opsL_append th (i + 1) l l'
    have e : i + 1 + l.length = i + (l.length + 1) := by omega
    simp only [List.cons_append, opsL, this, List.length_cons, e]
    split <;> simp
theorem opsT_append : ∀ (i : Nat) (l l' : List (List Ins)), opsT i (l ++ l') = opsT i l ++ opsT (i + l.length) l'
  | i, [], l' => by simp [opsT]
  | i, x :: l, l' => by
    have := opsT_append (i + 1) l l'
    have e : i + 1 + l.length = i + (l.length + 1) := by omega
    simp only [List.cons_append, opsT, this, List.length_cons, e, List.append_assoc]
def opO (t : List (List Ins)) (i : Nat) : List (Nat × Nat) := opsT 0 (t.take i)
def opP (t : List (List Ins)) (i : Nat) (l : List Ins) (b : Nat) : List (Nat × Nat) := opO t i ++ opsL i 0 (l.take b)
theorem opO_zero (t : List (List Ins)) : opO t 0 = [] := rfl
theorem opO_all (t : List (List Ins)) : opO t t.length = opsT 0 t := by unfold opO; rw [List.take_length]
theorem opP_zero (t : List (List Ins)) (i : Nat) (l : List Ins) : opP t i l 0 = opO t i := by simp [opP, opsL]
theorem opP_yes {t : List (List Ins)} {i : Nat} {l : List Ins} {b : Nat} {x : Ins} (h : l[b]? = some x) (hm : memI x = true) : opP t i l (b + 1) = opP t i l b ++ [(i, b)] := by
  have hb : (l.take b).length = b := by rw [List.length_take]; have := (List.getElem?_eq_some_iff.1 h).1; omega
  unfold opP
  rw [takeAt h, opsL_append, hb]
  simp [opsL, hm]
theorem opP_no {t : List (List Ins)} {i : Nat} {l : List Ins} {b : Nat} {x : Ins} (h : l[b]? = some x) (hm : memI x = false) : opP t i l (b + 1) = opP t i l b := by
  unfold opP
  rw [takeAt h, opsL_append]
  simp [opsL, hm]
theorem opP_end {t : List (List Ins)} {i : Nat} {l : List Ins} (h : t[i]? = some l) : opP t i l l.length = opO t (i + 1) := by
  have hb : (t.take i).length = i := by rw [List.length_take]; have := (List.getElem?_eq_some_iff.1 h).1; omega
  unfold opP opO
  rw [takeAt h, opsT_append, hb, List.take_length]
  simp [opsT]
theorem memL_le (l : List Ins) : memL l ≤ l.length := List.countP_le_length
theorem opsT_le {n : Nat} : ∀ (i : Nat) (l : List (List Ins)), (∀ x ∈ l, x.length ≤ n) → (opsT i l).length ≤ n * l.length
  | _, [], _ => by simp [opsT]
  | i, x :: l, h => by
    have := opsT_le (i + 1) l fun y hy => h y (by simp [hy])
    have h1 := h x (by simp)
    have h2 := memL_le x
    simp only [opsT, List.length_append, opsL_len, List.length_cons, Nat.mul_succ]
    omega
theorem opP_len {t : List (List Ins)} {i : Nat} {l : List Ins} {b : Nat} (h : ∀ x ∈ t, x.length ≤ 1000) (ht : t.length ≤ 1000) (hl : l.length ≤ 1000) : (opP t i l b).length ≤ 1001000 := by
  have h1 := opsT_le 0 (t.take i) fun x hx => h x (List.mem_of_mem_take hx)
  have h2 := memL_le (l.take b)
  rw [List.length_take] at h1 h2
  unfold opP opO
  rw [List.length_append, opsL_len]
  have : 1000 * min i t.length ≤ 1000 * 1000 := Nat.mul_le_mul_left _ (by omega)
  omega
@[go_sem] theorem opsC_len (l : List (Nat × Nat)) : (opsC l).length = l.length := List.length_map ..
@[go_sem] theorem opsC_take (l : List (Nat × Nat)) (n : Nat) : (opsC l).take n = opsC (l.take n) := (List.map_take ..).symm
@[go_sem] theorem opsC_drop (l : List (Nat × Nat)) (n : Nat) : (opsC l).drop n = opsC (l.drop n) := (List.map_drop ..).symm
@[go_sem] theorem opsC_at (l : List (Nat × Nat)) (i : Nat) : (opsC l)[i]? = l[i]?.map fun p => V.agg [iV (p.1 : Nat), iV (p.2 : Nat)] := List.getElem?_map ..
theorem opsC_append (l : List (Nat × Nat)) (a b : Nat) : opsC l ++ [V.agg [iV (a : Nat), iV (b : Nat)]] = opsC (l ++ [(a, b)]) := by simp [opsC, opC]
theorem opsC_nil : opsC [] = [] := rfl
theorem nl_opsC (l : List (Nat × Nat)) : NL (.ro 2 (opsC l)) := .ro fun v hv => by obtain ⟨a, _, rfl⟩ := List.mem_map.1 hv; exact .cons (.val _) (.cons (.val _) .nil)
end Go.Proofs.Ytokdphmnlcmbbaa
