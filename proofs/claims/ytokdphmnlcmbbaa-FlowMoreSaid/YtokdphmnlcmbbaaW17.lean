/- What is given to flow: numbers and truths, as many as there are Ops. -/
import Derived.Test.YtokdphmnlcmbbaaW14
set_option linter.unusedVariables false
set_option linter.unusedSimpArgs false
namespace Go.Proofs.Ytokdphmnlcmbbaa
open Go Go.Sl

/-- a row by place -/
def tab {α : Type} (n : Nat) (f : Nat → α) : List α := (List.range n).map f
section
variable {α : Type} {n : Nat} {f g : Nat → α}
@[go_sem] theorem tab_len : (tab n f).length = n := by simp [tab]
theorem tab_at {i : Nat} (h : i < n) : (tab n f)[i]? = some (f i) := by simp [tab, List.getElem?_map, List.getElem?_range h]
@[go_sem] theorem tab_get {i : Nat} (h : i < (tab n f).length) : (tab n f)[i] = f i := by simp [tab]
theorem tab_set (k : Nat) (x : α) : (tab n f).set k x = tab n fun q => if q = k then x else f q := by
  apply List.ext_getElem?
  intro i
  by_cases h : i < n
  · rw [tab_at h, List.getElem?_set]
    by_cases e : k = i
    · subst e
      rw [if_pos rfl, if_pos (by rw [tab_len]; exact h), if_pos rfl]
    · rw [if_neg e, tab_at h, if_neg (Ne.symm e)]
  · rw [List.getElem?_eq_none (by rw [List.length_set, tab_len]; omega), List.getElem?_eq_none (by rw [tab_len]; omega)]
theorem tab_ext (h : ∀ q, q < n → f q = g q) : tab n f = tab n g := List.map_congr_left fun q hq => h q (List.mem_range.1 hq)
theorem tab_const (x : α) : tab n (fun _ => x) = List.replicate n x := by simp [tab, List.map_const']
@[go_sem] theorem tab_take : (tab n f).take n = tab n f := List.take_of_length_le (by rw [tab_len]; omega)
theorem tab_getD {i : Nat} {d : α} (h : i < n) : (tab n f).getD i d = f i := by simp [List.getD, tab_at h]
end

def giv (reads : List Vl) (q : Nat) : Vl := if (reads.getD q zV).k then reads.getD q zV else zV
def gaN (reads : List Vl) (i q : Nat) : Vl := if q < i then giv reads q else zV
def gbN (works : List Bool) (i q : Nat) : Bool := if q < i then works.getD q false else false
def givA (reads : List Vl) (n : Nat) : List Vl := tab n (gaN reads n)
def givB (works : List Bool) (n : Nat) : List Bool := tab n (gbN works n)
theorem gaN_zero (reads : List Vl) : gaN reads 0 = fun _ => zV := by funext q; simp [gaN]
theorem gbN_zero (works : List Bool) : gbN works 0 = fun _ => false := by funext q; simp [gbN]
theorem gaN_yes {reads : List Vl} {i : Nat} {x : Vl} (h : giv reads i = x) : (fun q => if q = i then x else gaN reads i q) = gaN reads (i + 1) := by
  funext q
  unfold gaN
  by_cases e : q = i
  · subst e; simp [h]
  · rw [if_neg e]
    by_cases h2 : q < i
    · rw [if_pos h2, if_pos (by omega)]
    · rw [if_neg h2, if_neg (by omega)]
theorem gaN_no {reads : List Vl} {i : Nat} (h : giv reads i = zV) : gaN reads (i + 1) = gaN reads i := by
  rw [← gaN_yes h]
  funext q
  by_cases e : q = i
  · subst e; simp [gaN]
  · rw [if_neg e]
theorem gbN_yes {works : List Bool} {i : Nat} {x : Bool} (h : works.getD i false = x) : (fun q => if q = i then x else gbN works i q) = gbN works (i + 1) := by
  funext q
  unfold gbN
  by_cases e : q = i
  · subst e; simp only [if_pos, Nat.lt_succ_self]; exact h.symm
  · rw [if_neg e]
    by_cases h2 : q < i
    · rw [if_pos h2, if_pos (by omega)]
    · rw [if_neg h2, if_neg (by omega)]
theorem gbN_no {works : List Bool} {i : Nat} (h : works.length ≤ i) : gbN works (i + 1) = gbN works i := by
  rw [← gbN_yes (show works.getD i false = false by simp [List.getD, List.getElem?_eq_none h])]
  funext q
  by_cases e : q = i
  · subst e; simp [gbN]
  · rw [if_neg e]
theorem gaN_self (reads : List Vl) (i : Nat) : gaN reads (i + 1) i = giv reads i := by simp [gaN]

/-- the document's numbers, on nothing -/
def rvs (l : List Vl) : List V := l.map fun x => .agg [bV x.k, uV x.v, .val (.slice none 0 0)]
@[go_sem] theorem rvs_len (l : List Vl) : (rvs l).length = l.length := List.length_map ..
@[go_sem] theorem rvs_take (l : List Vl) (n : Nat) : (rvs l).take n = rvs (l.take n) := (List.map_take ..).symm
@[go_sem] theorem rvs_at (l : List Vl) (i : Nat) : (rvs l)[i]? = l[i]?.map fun x => V.agg [bV x.k, uV x.v, .val (.slice none 0 0)] := List.getElem?_map ..
@[go_sem] theorem rvs_get (l : List Vl) (i : Nat) (h : i < (rvs l).length) : (rvs l)[i] = .agg [bV (l[i]'(by simpa [rvs] using h)).k, uV (l[i]'(by simpa [rvs] using h)).v, .val (.slice none 0 0)] := by simp [rvs]
@[go_sem] theorem rvs_set (l : List Vl) (i : Nat) (a : Bool) (b : Int) : (rvs l).set i (.agg [bV a, uV b, .val (.slice none 0 0)]) = rvs (l.set i ⟨a, b⟩) := (List.map_set (f := fun x : Vl => V.agg [bV x.k, uV x.v, .val (.slice none 0 0)]) (l := l) (i := i) (a := ⟨a, b⟩)).symm
@[go_sem] theorem bVs_take (l : List Bool) (n : Nat) : (bVs l).take n = bVs (l.take n) := (List.map_take ..).symm
theorem rvs_zeros (n : Nat) : List.replicate n (V.agg [bV false, uV 0, .val (.slice none 0 0)]) = rvs (List.replicate n zV) := by simp [rvs, zV]
theorem bVs_zeros (n : Nat) : List.replicate n (bV false) = bVs (List.replicate n false) := by simp [bVs]
theorem vls_zeros2 (n : Nat) : List.replicate n (V.agg [bV false, uV 0]) = vls (List.replicate n zV) := vls_zeros n
theorem nl_rvs (l : List Vl) : NL (.ro 3 (rvs l)) := .ro fun v hv => by obtain ⟨a, _, rfl⟩ := List.mem_map.1 hv; exact .cons (.val _) (.cons (.val _) (.cons (.val _) .nil))
end Go.Proofs.Ytokdphmnlcmbbaa
