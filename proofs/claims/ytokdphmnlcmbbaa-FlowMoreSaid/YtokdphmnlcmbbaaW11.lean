/- Litmus tests: a good test's parts are good, plainly. -/
import Derived.Test.YtokdphmnlcmbbaaW10
set_option linter.unusedVariables false
set_option linter.unusedSimpArgs false
namespace Go.Proofs.Ytokdphmnlcmbbaa
open Go Go.Sl

theorem sizeErr_of {t : Tst} (h0 : t.ths ≠ []) (h1 : t.ths.length ≤ 4) (h2 : t.locs.length ≤ 8) (h3 : t.asks.length ≤ 40) (h4 : ∀ x ∈ t.ths, x.length ≤ 8) (h5 : events t.ths ≤ 8) : sizeErr t = 0 := by
  unfold sizeErr
  rw [if_neg h0, if_neg (by unfold manyB; simp; omega), if_neg (fun h => h h4), if_neg (by omega)]

theorem chkErr_zero {t : Tst} : chkErr t = 0 ↔ sizeErr t = 0 ∧ fe (locErr t) 0 t.locs = 0 ∧ fe (thrErr t) 0 t.ths = 0 ∧ fe (askErr2 t) 0 t.asks = 0 := by
  unfold chkErr
  constructor
  · intro h
    split at h
    · rename_i h1; exact absurd h h1
    · rename_i h1
      split at h
      · rename_i h2; exact absurd h h2
      · rename_i h2
        split at h
        · rename_i h3; exact absurd h h3
        · rename_i h3
          exact ⟨by simpa using h1, by simpa using h2, by simpa using h3, h⟩
  · rintro ⟨h1, h2, h3, h4⟩
    rw [if_neg (by simp [h1]), if_neg (by simp [h2]), if_neg (by simp [h3])]; exact h4

theorem insErr_zero {n : Nat} {left : Int} {x : Ins} : insErr n left x = 0 ↔ err1 x = false ∧ err2 x = false ∧ err3 n x = false ∧ err4 x = false ∧ err5 x = false ∧ err6 x = false ∧ err7 x left = false := by
  unfold insErr
  cases err1 x <;> cases err2 x <;> cases err3 n x <;> cases err4 x <;> cases err5 x <;> cases err6 x <;> cases err7 x left <;> simp

theorem locErr_congr {t t' : Tst} (h : t'.locs = t.locs) : locErr t' = locErr t := by
  funext i l; unfold locErr prevLe; rw [h]
theorem thrErr_congr {t t' : Tst} (h : t'.locs = t.locs) : thrErr t' = thrErr t := by
  funext i l; unfold thrErr; rw [h]

/-- a test without asks -/
def plainT (t : Tst) : Tst := { t with asks := [] }
theorem plain_good {t : Tst} (h : chkErr t = 0) : chkErr (plainT t) = 0 := by
  obtain ⟨h1, h2, h3, h4⟩ := chkErr_zero.1 h
  obtain ⟨a0, a1, a2, a3, a4, a5⟩ := sizeErr_zero h1
  refine chkErr_zero.2 ⟨sizeErr_of a0 a1 a2 (by simp [plainT]) a4 a5, ?_, ?_, rfl⟩
  · rw [locErr_congr (t := t) (t' := plainT t) rfl]; exact h2
  · rw [thrErr_congr (t := t) (t' := plainT t) rfl]; exact h3

/-- without its last thread -/
def lessT (t : Tst) : Tst := { plainT t with ths := t.ths.take (t.ths.length - 1) }
theorem less_good {t : Tst} (h : chkErr t = 0) (hl : 1 < t.ths.length) : chkErr (lessT t) = 0 := by
  obtain ⟨h1, h2, h3, h4⟩ := chkErr_zero.1 h
  obtain ⟨a0, a1, a2, a3, a4, a5⟩ := sizeErr_zero h1
  refine chkErr_zero.2 ⟨sizeErr_of ?_ ?_ a2 (by simp [lessT, plainT]) ?_ ?_, ?_, ?_, rfl⟩
  · intro e
    have := congrArg List.length e
    simp [lessT] at this; omega
  · simp [lessT]; omega
  · intro x hx; exact a4 x (List.mem_of_mem_take hx)
  · exact Nat.le_trans (sum_take evL t.ths _) a5
  · rw [locErr_congr (t := t) (t' := lessT t) rfl]; exact h2
  · rw [thrErr_congr (t := t) (t' := lessT t) rfl]
    rw [fe_zero] at h3 ⊢
    intro j x hj
    refine h3 j x ?_
    have hj' : (t.ths.take (t.ths.length - 1))[j]? = some x := hj
    rw [List.getElem?_take] at hj'
    split at hj'
    · exact hj'
    · cases hj'

/-- without the last instruction of a thread -/
def shortT (t : Tst) (n : Nat) (l : List Ins) : Tst := { plainT t with ths := t.ths.set n (l.take (l.length - 1)) }

theorem events_set {n : Nat} {l l' : List Ins} : ∀ {ths : List (List Ins)}, ths[n]? = some l → evL l' ≤ evL l → events (ths.set n l') ≤ events ths
  | [], h, _ => by simp at h
  | x :: ths, h, hle => by
    cases n with
    | zero =>
      simp at h; subst h
      simp only [List.set_cons_zero, events, List.map_cons, List.sum_cons]; omega
    | succ n =>
      have := events_set (ths := ths) (n := n) (by simpa using h) hle
      simp only [List.set_cons_succ, events, List.map_cons, List.sum_cons] at this ⊢; omega

theorem short_events {t : Tst} {n : Nat} {l : List Ins} (hn : t.ths[n]? = some l) : events (shortT t n l).ths ≤ events t.ths := events_set hn (sum_take evt l _)

theorem short_good {t : Tst} (h : chkErr t = 0) {n : Nat} {l : List Ins} (hn : t.ths[n]? = some l) (hb : ∀ (i : Nat) (x : Ins), l[i]? = some x → ¬ (x.skip = (l.length : Int) - 1 - i ∧ 0 < x.skip)) : chkErr (shortT t n l) = 0 := by
  obtain ⟨h1, h2, h3, h4⟩ := chkErr_zero.1 h
  obtain ⟨a0, a1, a2, a3, a4, a5⟩ := sizeErr_zero h1
  have hlt : n < t.ths.length := (List.getElem?_eq_some_iff.1 hn).1
  rw [fe_zero] at h3
  refine chkErr_zero.2 ⟨sizeErr_of ?_ ?_ a2 (by simp [shortT, plainT]) ?_ ?_, ?_, ?_, rfl⟩
  · intro e
    have := congrArg List.length e
    simp [shortT] at this
    exact a0 this
  · simp [shortT]; exact a1
  · intro x hx
    rcases List.mem_or_eq_of_mem_set hx with hx | rfl
    · exact a4 x hx
    · have := a4 l (List.mem_of_getElem? hn); rw [List.length_take]; omega
  · exact Nat.le_trans (short_events hn) a5
  · rw [locErr_congr (t := t) (t' := shortT t n l) rfl]; exact h2
  · rw [thrErr_congr (t := t) (t' := shortT t n l) rfl, fe_zero]
    intro j x hj
    have hj' : (t.ths.set n (l.take (l.length - 1)))[j]? = some x := hj
    rw [List.getElem?_set] at hj'
    split at hj'
    · rename_i e
      subst e
      obtain rfl := Option.some.inj hj'
      have hg : thrErr t (0 + n) l = 0 := h3 n l hn
      unfold thrErr at hg ⊢
      rw [fe_zero] at hg ⊢
      intro i y hi
      rw [List.getElem?_take] at hi
      split at hi
      · rename_i hil
        have hy := hg i y hi
        rw [insErr_zero] at hy ⊢
        obtain ⟨e1, e2, e3, e4, e5, e6, e7⟩ := hy
        refine ⟨e1, e2, e3, e4, e5, e6, ?_⟩
        have hbi := hb i y hi
        unfold err7 at e7 ⊢
        rw [List.length_take]
        simp only [Bool.or_eq_false_iff, decide_eq_false_iff_not] at e7 ⊢
        refine ⟨e7.1, ?_⟩
        have e8 := e7.2
        rw [Nat.zero_add] at e8 ⊢
        omega
      · cases hi
    · exact h3 j x hj'

end Go.Proofs.Ytokdphmnlcmbbaa
