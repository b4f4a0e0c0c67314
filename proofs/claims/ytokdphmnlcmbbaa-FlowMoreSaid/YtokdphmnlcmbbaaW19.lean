/- Good tests are what flow asks for; numbers filled up. -/
import Derived.Test.YtokdphmnlcmbbaaW11
import Derived.Test.YtokdphmnlcmbbaaW18
set_option linter.unusedVariables false
set_option linter.unusedSimpArgs false
namespace Go.Proofs.Ytokdphmnlcmbbaa
open Go Go.Sl

def insWf (x : Ins) : Prop := (0 ≤ x.aN ∧ x.aN < 18446744073709551616) ∧ 0 ≤ x.bN ∧ x.bN < 18446744073709551616
def tstWf (t : Tst) : Prop := ∀ l ∈ t.ths, ∀ x ∈ l, insWf x
theorem few_wf {t : Tst} (h : tstWf t) : tstWf (few t) := fun l hl x hx => by
  obtain ⟨l', hl', rfl⟩ := List.mem_map.1 hl
  exact h l' (List.mem_of_mem_take hl') x (List.mem_of_mem_take hx)
theorem good_len {T : Tst} (h : chkErr T = 0) : T.ths.length ≤ 4 ∧ ∀ l ∈ T.ths, l.length ≤ 8 := by
  have := sizeErr_zero (chkErr_zero.1 h).1
  exact ⟨this.2.1, this.2.2.2.2.1⟩
theorem good_ins {T : Tst} (h : chkErr T = 0) {l : List Ins} (hl : l ∈ T.ths) {x : Ins} (hx : x ∈ l) : ∃ left : Int, left ≤ 8 ∧ insErr T.locs.length left x = 0 := by
  have h3 := (chkErr_zero.1 h).2.2.1
  obtain ⟨i, hi⟩ := List.getElem?_of_mem hl
  have h4 := (fe_zero _ _).1 h3 i l hi
  obtain ⟨j, hj⟩ := List.getElem?_of_mem hx
  have h5 := (fe_zero _ _).1 h4 j x hj
  have := (good_len h).2 l hl
  exact ⟨_, by omega, h5⟩
theorem good_ok {T : Tst} (h : chkErr T = 0) (hw : tstWf T) : T.ths.length ≤ 1000 ∧ (∀ l ∈ T.ths, l.length ≤ 1000) ∧ ∀ l ∈ T.ths, ∀ x ∈ l, InsOk x := by
  obtain ⟨g1, g2⟩ := good_len h
  refine ⟨by omega, fun l hl => by have := g2 l hl; omega, fun l hl x hx => ?_⟩
  obtain ⟨left, h8, he⟩ := good_ins h hl hx
  obtain ⟨_, e2, _, _, _, _, e7⟩ := insErr_zero.1 he
  obtain ⟨⟨w1, _⟩, w2, _⟩ := hw l hl x hx
  simp only [err2, Bool.or_eq_false_iff, decide_eq_false_iff_not] at e2
  simp only [err7, Bool.or_eq_false_iff, decide_eq_false_iff_not] at e7
  obtain ⟨a1, a2, a3, a4, a5, a6⟩ := e2
  refine ⟨by omega, by omega, fun hr => ⟨w1, ?_⟩, fun hr => ⟨w2, ?_⟩, by omega, by omega⟩
  · simp only [argOk, hr, Bool.not_true, Bool.false_or, Bool.not_eq_false', decide_eq_true_eq] at a3; exact a3
  · simp only [argOk, hr, Bool.not_true, Bool.false_or, Bool.not_eq_false', decide_eq_true_eq] at a4; exact a4

/-! ## numbers filled up -/

def filV (a : List Vl) (more : List Int) (i q : Nat) : Vl := if q < i ∧ (a.getD q zV).k = false then ⟨true, more.getD q (a.getD q zV).v⟩ else a.getD q zV
theorem tab_self {α : Type} (l : List α) (d : α) : tab l.length (fun q => l.getD q d) = l := by
  apply List.ext_getElem?
  intro i
  by_cases h : i < l.length
  · rw [tab_at h]; simp [List.getD, List.getElem?_eq_getElem h]
  · rw [List.getElem?_eq_none (by rw [tab_len]; omega), List.getElem?_eq_none (by omega)]
theorem filV_zero (a : List Vl) (more : List Int) : filV a more 0 = fun q => a.getD q zV := by funext q; simp [filV]
theorem filV_self (a : List Vl) (more : List Int) (i : Nat) : filV a more i i = a.getD i zV := by simp [filV]
theorem filV_yes {a : List Vl} {more : List Int} {i : Nat} {v : Vl} (h : filV a more (i + 1) i = v) : (fun q => if q = i then v else filV a more i q) = filV a more (i + 1) := by
  funext q
  by_cases e : q = i
  · subst e; rw [if_pos rfl, h]
  · rw [if_neg e]
    unfold filV
    by_cases h2 : q < i
    · simp [h2, show q < i + 1 by omega]
    · simp [h2, show ¬ q < i + 1 by omega]
theorem filV_no {a : List Vl} {more : List Int} {i : Nat} (h : (a.getD i zV).k = true) : filV a more (i + 1) = filV a more i := by
  rw [← filV_yes (show filV a more (i + 1) i = a.getD i zV by unfold filV; rw [if_neg (by rw [h]; simp)])]
  funext q
  by_cases e : q = i
  · subst e; simp [filV_self]
  · rw [if_neg e]
theorem set_tab {α : Type} {n : Nat} {f : Nat → α} {i : Nat} {x y : α} : (tab n fun q => if q = i then x else f q).set i y = tab n fun q => if q = i then y else f q := by
  rw [tab_set]
  congr 1; funext q
  by_cases e : q = i <;> simp [e]
def filA (a : List Vl) (more : List Int) (n : Nat) : List Vl := tab n (filV a more n)
theorem fil_le {n : Nat} {reads : List Vl} {more : List Int} (q : Nat) : le ((givA reads n).getD q zV) ((filA (givA reads n) more n).getD q zV) := fun hk => by
  have hq : q < n := Classical.byContradiction fun hc => by
    rw [List.getD, List.getElem?_eq_none (by unfold givA; rw [tab_len]; omega)] at hk
    cases hk
  unfold filA
  rw [tab_getD hq]
  unfold filV
  rw [if_neg (by rw [hk]; simp)]
theorem fil_kn {n : Nat} {reads : List Vl} {more : List Int} (q : Nat) (hq : q < n) : ((filA (givA reads n) more n).getD q zV).k = true := by
  unfold filA
  rw [tab_getD hq]
  unfold filV
  by_cases h : ((givA reads n).getD q zV).k = true
  · rw [if_neg (by rw [h]; simp)]; exact h
  · rw [if_pos ⟨hq, by simpa using h⟩]
theorem givA_len (reads : List Vl) (n : Nat) : (givA reads n).length = n := tab_len
theorem givB_len (works : List Bool) (n : Nat) : (givB works n).length = n := tab_len
theorem filA_len (a : List Vl) (more : List Int) (n : Nat) : (filA a more n).length = n := tab_len

@[go_sem high] theorem fl_len (s : Os') : s.cs.length = 9 := Eq.trans rfl rfl
@[go_sem high] theorem fl_0 (s : Os') : partV false 1 s.cs 0 = .ro 1 (iVs s.f.state) := Eq.trans rfl rfl
@[go_sem high] theorem fl_1 (s : Os') : partV false 1 s.cs 1 = .ro 2 (vls s.f.write) := Eq.trans rfl rfl
@[go_sem high] theorem fl_2 (s : Os') : partV false 1 s.cs 2 = .ro 1 (iVs s.f.pair) := Eq.trans rfl rfl
@[go_sem high] theorem fl_3 (s : Os') : partV false 1 s.cs 3 = .ro 1 (uVs s.f.place) := Eq.trans rfl rfl
@[go_sem high] theorem fl_4 (s : Os') : partV false 1 s.cs 4 = .ro 1 (uVs s.f.value) := Eq.trans rfl rfl
@[go_sem high] theorem fl_5 (s : Os') : partV false 1 s.cs 5 = .ro 1 (uVs s.f.path) := Eq.trans rfl rfl
@[go_sem high] theorem fl_6 (s : Os') : partV false 1 s.cs 6 = .ro 1 (uVs s.left) := Eq.trans rfl rfl
@[go_sem high] theorem fl_7 (s : Os') : partV false 1 s.cs 7 = .ro 16 (regsRows s.regs) := Eq.trans rfl rfl
@[go_sem high] theorem fl_8 (s : Os') : partV false 1 s.cs 8 = bV s.whole := Eq.trans rfl rfl
end Go.Proofs.Ytokdphmnlcmbbaa
