/- What is known stays, when more is known of what is read. -/
import Derived.Test.YtokdphmnlcmbbaaW17
set_option linter.unusedVariables false
set_option linter.unusedSimpArgs false
namespace Go.Proofs.Ytokdphmnlcmbbaa
open Go Go.Sl

def le (u v : Vl) : Prop := u.k = true → u = v
theorem le_refl (u : Vl) : le u u := fun _ => rfl
theorem le_clean {u v : Vl} (h : le u v) : le (clean u) (clean v) := fun hk => by
  unfold clean at hk ⊢
  by_cases hu : u.k = true
  · rw [h hu]
  · rw [if_neg hu] at hk; cases hk
theorem le_sum {a b c d : Vl} (h : le a c) (h' : le b d) : le (vsum a b) (vsum c d) := fun hk => by
  simp only [vsum, Bool.and_eq_true] at hk ⊢
  rw [h hk.1, h' hk.2]
theorem clean_k {u : Vl} (h : u.k = true) : (clean u).k = true := by unfold clean; rw [if_pos h]; exact h

theorem getD_set {α : Type} (l : List α) (k i : Nat) (x d : α) : (l.set k x).getD i d = if i = k ∧ k < l.length then x else l.getD i d := by
  simp only [List.getD, List.getElem?_set]
  by_cases h : k = i
  · subst h
    by_cases h2 : k < l.length
    · simp [h2]
    · simp [h2, List.getElem?_eq_none (by omega : l.length ≤ k)]
  · simp [h, Ne.symm h]

/-! ## what an Op does to what is known -/

def memS (x : Ins) (works : Bool) : Int := if x.op = 14 ∧ works = false then 2 else 1
theorem memS_ne (x : Ins) (works : Bool) : memS x works ≠ 0 := by unfold memS; split <;> decide
def memU (w : Wk) (x : Ins) (read : Vl) (works : Bool) : Option Vl :=
  if x.op = 10 ∨ x.op = 11 then some (argW w x.aR x.aN) else if x.op = 12 then some (clean (vsum (argW w x.aR x.aN) read)) else if x.op = 14 ∧ works = true then some (argW w x.aR x.aN) else none
def setO (l : List Vl) (k : Nat) : Option Vl → List Vl
  | some u => l.set k u
  | none => l
theorem memF_state (w : Wk) (f : Fl) (x : Ins) (k : Nat) (read : Vl) (works : Bool) : (memF w f x k read works).state = f.state.set k (memS x works) := by
  unfold memF memS
  dsimp only
  by_cases h1 : x.op = 10 ∨ x.op = 11
  · rw [if_pos h1, if_neg (by omega)]; rfl
  · rw [if_neg h1]
    by_cases h2 : x.op = 12
    · rw [if_pos h2, if_neg (by omega)]; rfl
    · rw [if_neg h2]
      by_cases h3 : x.op = 14
      · rw [if_pos h3]
        unfold condF
        cases works
        · simp [memF0, h3, List.set_set]
        · simp [memF0, h3]
      · rw [if_neg h3, if_neg (by omega)]; rfl
theorem memF_write (w : Wk) (f : Fl) (x : Ins) (k : Nat) (read : Vl) (works : Bool) : (memF w f x k read works).write = setO f.write k (memU w x read works) := by
  unfold memF memU
  dsimp only
  by_cases h1 : x.op = 10 ∨ x.op = 11
  · rw [if_pos h1, if_pos h1]; rfl
  · rw [if_neg h1, if_neg h1]
    by_cases h2 : x.op = 12
    · rw [if_pos h2, if_pos h2]; rfl
    · rw [if_neg h2, if_neg h2]
      by_cases h3 : x.op = 14
      · rw [if_pos h3]
        unfold condF
        cases works
        · simp [memF0, h3, setO]
        · simp [memF0, h3, setO]
      · rw [if_neg h3, if_neg (by omega)]; rfl

/-- less and more is known; from i on nothing is known of the first, up to j all of the second -/
structure FRel (n i j : Nat) (f g : Fl) : Prop where
  of : FlOk n f
  og : FlOk n g
  ij : i ≤ j
  s : ∀ q, f.state.getD q 0 ≠ 0 → f.state.getD q 0 = g.state.getD q 0
  w : ∀ q, (f.write.getD q zV).k = true → f.write.getD q zV = g.write.getD q zV
  s0 : ∀ q, i ≤ q → f.state.getD q 0 = 0
  w0 : ∀ q, i ≤ q → (f.write.getD q zV).k = false
  g0 : ∀ q, q < j → g.state.getD q 0 ≠ 0

def stS (s : Ts) (x : Ins) (works : List Bool) : Int := if 0 < s.out then 2 else memS x (works.getD s.k false)
def stU (reads : List Vl) (works : List Bool) (s : Ts) (x : Ins) : Option Vl := if 0 < s.out then none else memU s.w x (reads.getD s.k zV) (works.getD s.k false)
section
variable {reads reads' : List Vl} {works : List Bool} {i : Nat} {x : Ins} {s t : Ts}
theorem stS_ne : stS s x works ≠ 0 := by unfold stS; split; decide; exact memS_ne _ _
theorem stepT_state (h : memI x = true) : (stepT reads works i x s).f.state = s.f.state.set s.k (stS s x works) := by
  unfold stepT stS
  by_cases ho : 0 < s.out
  · rw [if_pos ho, if_pos ho]; dsimp only; rw [if_pos h]
  · rw [if_neg ho, if_neg ho, if_pos h]; exact memF_state _ _ _ _ _ _
theorem stepT_write (h : memI x = true) : (stepT reads works i x s).f.write = setO s.f.write s.k (stU reads works s x) := by
  unfold stepT stU
  by_cases ho : 0 < s.out
  · rw [if_pos ho, if_pos ho]; dsimp only; rw [if_pos h]; rfl
  · rw [if_neg ho, if_neg ho, if_pos h]; exact memF_write _ _ _ _ _ _
theorem stepT_same (h : memI x = false) : (stepT reads works i x s).f = s.f := by
  unfold stepT
  by_cases ho : 0 < s.out
  · rw [if_pos ho]; dsimp only; rw [if_neg (by simp [h])]
  · rw [if_neg ho, if_neg (by simp [h])]
    split <;> rfl
theorem stepT_kk : (stepT reads works i x s).k = s.k + if memI x then 1 else 0 := by
  unfold stepT
  by_cases ho : 0 < s.out
  · rw [if_pos ho]; dsimp only; split <;> rfl
  · rw [if_neg ho]
    by_cases h : memI x = true
    · rw [if_pos h, if_pos h]
    · rw [if_neg h, if_neg h]; split <;> rfl
end

/-! ## the one that knows all -/

def Kn (w : Wk) : Prop := ∀ r, (w.regs r).k = true
section
variable {w : Wk} {x : Ins}
theorem Kn.arg (h : Kn w) (b : Bool) (n : Int) : (argW w b n).k = true := by unfold argW; split; exact h _; rfl
theorem Kn.set (h : Kn w) {v : Vl} (hv : v.k = true) (rd on : Int) : Kn (setW w rd v on) := fun r => by
  unfold setW; dsimp only; split; exact clean_k hv; exact h r
theorem Kn.mem (h : Kn w) {read : Vl} (hr : read.k = true) (k : Nat) (works : Bool) : Kn (memW w x k read works) := by
  unfold memW
  split
  · exact h.set hr _ _
  split
  · exact fun r => (h.set hr x.rd (sl64 1 (k : Nat))) r
  split
  · exact h
  split
  · exact h.set hr _ _
  split
  · unfold condW
    split
    · exact Kn.set (w := { w with lr := 0 }) h rfl _ _
    · exact Kn.set (w := { w with lr := 0 }) h rfl _ _
  · exact h
theorem Kn.plain (h : Kn w) : Kn (plainW w x) := by
  unfold plainW
  split
  · exact h
  split
  · exact h.set (h.arg _ _) _ _
  · exact h.set (by simp [h.arg]) _ _
theorem Kn.br (h : Kn w) : brK w x = true := by simp [brK, h.arg]
end
theorem Kn.step {reads : List Vl} {works : List Bool} {i : Nat} {x : Ins} {s : Ts} (h : Kn s.w) (hr : memI x = true → (reads.getD s.k zV).k = true) : Kn (stepT reads works i x s).w ∧ stepB x s = true := by
  constructor
  · unfold stepT
    split
    · exact h
    split
    · rename_i hm; exact h.mem (hr hm) _ _
    split
    · exact h
    · exact h.plain
  · simp [stepB, h.br]

theorem FRel.g_step {n i0 i : Nat} {reads : List Vl} {works : List Bool} {x : Ins} {f : Fl} {s : Ts} (h : FRel n i0 s.k f s.f) (hm : memI x = true → s.k < n) : FRel n i0 (stepT reads works i x s).k f (stepT reads works i x s).f := by
  have hk := stepT_kk (reads := reads) (works := works) (i := i) (x := x) (s := s)
  by_cases hx : memI x = true
  · rw [if_pos hx] at hk
    have hl := hm hx
    have e1 := stepT_state (reads := reads) (works := works) (i := i) (s := s) hx
    have e2 := stepT_write (reads := reads) (works := works) (i := i) (s := s) hx
    have hij := h.ij
    refine ⟨h.of, stepT_ok h.og, by omega, fun q hq => ?_, fun q hq => ?_, h.s0, h.w0, fun q hq => ?_⟩
    · have hqi : q < i0 := Classical.byContradiction fun hc => hq (h.s0 q (by omega))
      rw [e1, getD_set, if_neg (by omega)]; exact h.s q hq
    · have hqi : q < i0 := Classical.byContradiction fun hc => by rw [h.w0 q (by omega)] at hq; cases hq
      rw [e2]
      cases stU reads works s x with
      | none => exact h.w q hq
      | some u => simp only [setO]; rw [getD_set, if_neg (by omega)]; exact h.w q hq
    · rw [e1, getD_set, h.og.l1]
      split
      · exact stS_ne
      · rename_i hc
        exact h.g0 q (by omega)
  · rw [if_neg hx] at hk
    have e := stepT_same (reads := reads) (works := works) (i := i) (s := s) (by simpa using hx)
    rw [e, hk]; exact h

theorem FRel.g_run {n i0 : Nat} {reads : List Vl} {works : List Bool} {f : Fl} (hr : ∀ q, q < n → (reads.getD q zV).k = true) : ∀ (l : List Ins) (i : Nat) (s : Ts), Kn s.w → FRel n i0 s.k f s.f → s.k + memL l ≤ n →
    (runT reads works i l s).2 = true ∧ Kn (runT reads works i l s).1.w ∧ FRel n i0 (s.k + memL l) f (runT reads works i l s).1.f
  | [], i, s, hk, h, _ => ⟨rfl, hk, h⟩
  | x :: l, i, s, hk, h, hl => by
    rw [memL_cons] at hl ⊢
    have hm : memI x = true → s.k < n := fun hx => by rw [if_pos hx] at hl; omega
    obtain ⟨k1, k2⟩ := hk.step (reads := reads) (works := works) (i := i) (x := x) fun hx => hr _ (hm hx)
    have h2 := h.g_step (reads := reads) (works := works) (i := i) hm
    have hkk := stepT_kk (reads := reads) (works := works) (i := i) (x := x) (s := s)
    have := FRel.g_run (works := works) hr l (i + 1) (stepT reads works i x s) k1 h2 (by omega)
    rw [hkk] at this
    rw [runT, if_pos k2, ← Nat.add_assoc]
    exact this

/-! ## both -/

structure WRel (w v : Wk) : Prop where
  regs : ∀ r, le (w.regs r) (v.regs r)
  kn : Kn v
  lr : w.lr = v.lr
  loc : w.lrLoc = v.lrLoc
section
variable {w v : Wk} {x : Ins}
theorem WRel.arg (h : WRel w v) (b : Bool) (n : Int) : le (argW w b n) (argW v b n) := by unfold argW; split; exact h.regs _; exact le_refl _
theorem WRel.set (h : WRel w v) {a b : Vl} (hab : le a b) (hb : b.k = true) (rd on on' : Int) : WRel (setW w rd a on) (setW v rd b on') :=
  ⟨fun r => by unfold setW; dsimp only; split; exact le_clean hab; exact h.regs r, h.kn.set hb _ _, h.lr, h.loc⟩
theorem WRel.mem (h : WRel w v) {a b : Vl} (hab : le a b) (hb : b.k = true) (k : Nat) (works : Bool) : WRel (memW w x k a works) (memW v x k b works) := by
  unfold memW
  by_cases h1 : x.op = 9
  · rw [if_pos h1, if_pos h1]; exact h.set hab hb _ _ _
  rw [if_neg h1, if_neg h1]
  by_cases h2 : x.op = 13
  · rw [if_pos h2, if_pos h2]
    have := h.set hab hb x.rd (sl64 1 (k : Nat)) (sl64 1 (k : Nat))
    exact ⟨this.regs, this.kn, rfl, rfl⟩
  rw [if_neg h2, if_neg h2]
  by_cases h3 : x.op = 10
  · rw [if_pos h3, if_pos h3]; exact h
  rw [if_neg h3, if_neg h3]
  by_cases h4 : x.op = 11 ∨ x.op = 12
  · rw [if_pos h4, if_pos h4]; exact h.set hab hb _ _ _
  rw [if_neg h4, if_neg h4]
  by_cases h5 : x.op = 14
  · rw [if_pos h5, if_pos h5]
    have h' : WRel { w with lr := 0 } { v with lr := 0 } := ⟨h.regs, h.kn, rfl, h.loc⟩
    unfold condW
    cases works
    · exact h'.set (le_refl _) rfl _ _ _
    · exact h'.set (le_refl _) rfl _ _ _
  · rw [if_neg h5, if_neg h5]; exact h
theorem WRel.plain (h : WRel w v) : WRel (plainW w x) (plainW v x) := by
  unfold plainW
  by_cases h1 : x.op = 15
  · rw [if_pos h1, if_pos h1]; exact h
  rw [if_neg h1, if_neg h1]
  by_cases h2 : x.op = 1
  · rw [if_pos h2, if_pos h2]; exact h.set (h.arg _ _) (h.kn.arg _ _) _ _ _
  · rw [if_neg h2, if_neg h2]
    refine h.set (fun hk => ?_) (by simp [h.kn.arg]) _ _ _
    simp only [Bool.and_eq_true] at hk
    rw [h.arg _ _ hk.1, h.arg _ _ hk.2]
theorem WRel.u (h : WRel w v) {a b : Vl} (hab : le a b) (works : Bool) : (memU w x a works = none ∧ memU v x b works = none) ∨ ∃ p q, memU w x a works = some p ∧ memU v x b works = some q ∧ le p q := by
  unfold memU
  by_cases h1 : x.op = 10 ∨ x.op = 11
  · rw [if_pos h1, if_pos h1]; exact .inr ⟨_, _, rfl, rfl, h.arg _ _⟩
  rw [if_neg h1, if_neg h1]
  by_cases h2 : x.op = 12
  · rw [if_pos h2, if_pos h2]; exact .inr ⟨_, _, rfl, rfl, le_clean (le_sum (h.arg _ _) hab)⟩
  rw [if_neg h2, if_neg h2]
  by_cases h3 : x.op = 14 ∧ works = true
  · rw [if_pos h3, if_pos h3]; exact .inr ⟨_, _, rfl, rfl, h.arg _ _⟩
  · rw [if_neg h3, if_neg h3]; exact .inl ⟨rfl, rfl⟩
end

structure TRel (n : Nat) (s t : Ts) : Prop where
  w : WRel s.w t.w
  out : s.out = t.out
  k : s.k = t.k
  f : FRel n s.k s.k s.f t.f

theorem FRel.both {n k : Nat} {f g f' g' : Fl} (h : FRel n k k f g) (hk : k < n) {v : Int} (hv : v ≠ 0) (ho : FlOk n f') (ho' : FlOk n g') (e1 : f'.state = f.state.set k v) (e2 : g'.state = g.state.set k v)
    {p q : Option Vl} (e3 : f'.write = setO f.write k p) (e4 : g'.write = setO g.write k q) (hpq : (p = none ∧ q = none) ∨ ∃ a b, p = some a ∧ q = some b ∧ le a b) : FRel n (k + 1) (k + 1) f' g' := by
  refine ⟨ho, ho', Nat.le_refl _, fun r hr => ?_, fun r hr => ?_, fun r hr => ?_, fun r hr => ?_, fun r hr => ?_⟩
  · rw [e1, getD_set, h.of.l1] at hr ⊢
    rw [e2, getD_set, h.og.l1]
    by_cases hc : r = k ∧ k < n
    · rw [if_pos hc, if_pos hc]
    · rw [if_neg hc] at hr ⊢
      rw [if_neg hc]; exact h.s r hr
  · rw [e3] at hr ⊢
    rw [e4]
    rcases hpq with ⟨rfl, rfl⟩ | ⟨a, b, rfl, rfl, hab⟩
    · exact h.w r hr
    · simp only [setO] at hr ⊢
      rw [getD_set, h.of.l2] at hr ⊢
      rw [getD_set, h.og.l2]
      by_cases hc : r = k ∧ k < n
      · rw [if_pos hc] at hr ⊢
        rw [if_pos hc]; exact hab hr
      · rw [if_neg hc] at hr ⊢
        rw [if_neg hc]; exact h.w r hr
  · rw [e1, getD_set, if_neg (by omega)]; exact h.s0 r (by omega)
  · rw [e3]
    rcases hpq with ⟨rfl, rfl⟩ | ⟨a, b, rfl, rfl, hab⟩
    · exact h.w0 r (by omega)
    · simp only [setO]; rw [getD_set, if_neg (by omega)]; exact h.w0 r (by omega)
  · rw [e2, getD_set, h.og.l1]
    split
    · exact hv
    · exact h.g0 r (by omega)

section
variable {n i : Nat} {reads reads' : List Vl} {works : List Bool} {x : Ins} {s t : Ts}
theorem TRel.step (h : TRel n s t) (hm : memI x = true → s.k < n) (hr : ∀ q, le (reads.getD q zV) (reads'.getD q zV)) (hk : ∀ q, q < n → (reads'.getD q zV).k = true) (hb : stepB x s = true) : TRel n (stepT reads works i x s) (stepT reads' works i x t) := by
  have eS := stepT_kk (reads := reads) (works := works) (i := i) (x := x) (s := s)
  have eT := stepT_kk (reads := reads') (works := works) (i := i) (x := x) (s := t)
  refine ⟨?_, ?_, by rw [eS, eT, h.k], ?_⟩
  · unfold stepT
    by_cases ho : 0 < s.out
    · have ho' : 0 < t.out := h.out ▸ ho
      rw [if_pos ho, if_pos ho']; exact ⟨h.w.regs, h.w.kn, h.w.lr, h.w.loc⟩
    · have ho' : ¬ 0 < t.out := h.out ▸ ho
      rw [if_neg ho, if_neg ho']
      by_cases hx : memI x = true
      · rw [if_pos hx, if_pos hx, ← h.k]; exact h.w.mem (hr _) (hk _ (hm hx)) _ _
      · rw [if_neg hx, if_neg hx]
        by_cases hbr : isBr x.op = true
        · rw [if_pos hbr, if_pos hbr]; exact ⟨h.w.regs, h.w.kn, h.w.lr, h.w.loc⟩
        · rw [if_neg hbr, if_neg hbr]; exact h.w.plain
  · unfold stepT
    by_cases ho : 0 < s.out
    · have ho' : 0 < t.out := h.out ▸ ho
      rw [if_pos ho, if_pos ho']; exact congrArg (· - 1) h.out
    · have ho' : ¬ 0 < t.out := h.out ▸ ho
      rw [if_neg ho, if_neg ho']
      by_cases hx : memI x = true
      · rw [if_pos hx, if_pos hx]; exact h.out
      · rw [if_neg hx, if_neg hx]
        by_cases hbr : isBr x.op = true
        · rw [if_pos hbr, if_pos hbr]
          have hK : brK s.w x = true := by
            simp only [stepB, Bool.not_eq_true', Bool.and_eq_false_iff] at hb
            rcases hb with ((hb | hb) | hb) | hb
            · simp at hb; omega
            · simp at hb; exact absurd hb hx
            · rw [hbr] at hb; cases hb
            · simpa using hb
          have hK' : brK t.w x = true := h.w.kn.br
          have hK0 := hK
          simp only [brK, Bool.and_eq_true] at hK0
          show brN s.w x = brN t.w x
          unfold brN
          rw [hK, hK', h.w.arg _ _ hK0.1, h.w.arg _ _ hK0.2]
        · rw [if_neg hbr, if_neg hbr]; exact h.out
  · by_cases hx : memI x = true
    · rw [eS, if_pos hx]
      have a1 := stepT_state (reads := reads) (works := works) (i := i) (s := s) hx
      have a2 := stepT_state (reads := reads') (works := works) (i := i) (s := t) hx
      have a3 := stepT_write (reads := reads) (works := works) (i := i) (s := s) hx
      have a4 := stepT_write (reads := reads') (works := works) (i := i) (s := t) hx
      rw [← h.k] at a2 a4
      have e : stS t x works = stS s x works := by unfold stS; rw [h.out, h.k]
      rw [e] at a2
      refine h.f.both (hm hx) stS_ne (stepT_ok h.f.of) (stepT_ok h.f.og) a1 a2 a3 a4 ?_
      unfold stU
      rw [← h.out, ← h.k]
      by_cases ho : 0 < s.out
      · rw [if_pos ho, if_pos ho]; exact .inl ⟨rfl, rfl⟩
      · rw [if_neg ho, if_neg ho]; exact h.w.u (hr _) _
    · rw [eS, if_neg hx, stepT_same (by simpa using hx), stepT_same (by simpa using hx)]; exact h.f

theorem TRel.run (hr : ∀ q, le (reads.getD q zV) (reads'.getD q zV)) (hk : ∀ q, q < n → (reads'.getD q zV).k = true) : ∀ (l : List Ins) (i : Nat) (s t : Ts), TRel n s t → s.k + memL l ≤ n →
    (runT reads' works i l t).2 = true ∧ Kn (runT reads' works i l t).1.w ∧ FRel n (s.k + memL l) (s.k + memL l) (runT reads works i l s).1.f (runT reads' works i l t).1.f
  | [], i, s, t, h, _ => ⟨rfl, h.w.kn, h.f⟩
  | x :: l, i, s, t, h, hl => by
    have hl0 := hl
    rw [memL_cons] at hl ⊢
    have hm : memI x = true → s.k < n := fun hx => by rw [if_pos hx] at hl; omega
    by_cases hb : stepB x s = true
    · have h2 := h.step (reads := reads) (reads' := reads') (works := works) (i := i) hm hr hk hb
      have hkk := stepT_kk (reads := reads) (works := works) (i := i) (x := x) (s := s)
      obtain ⟨_, k2⟩ := h.w.kn.step (reads := reads') (works := works) (i := i) (x := x) (s := t) fun hx => hk _ (h.k ▸ hm hx)
      have := TRel.run hr hk l (i + 1) _ _ h2 (by omega)
      rw [hkk] at this
      have e1 : runT reads works i (x :: l) s = runT reads works (i + 1) l (stepT reads works i x s) := by rw [runT, if_pos hb]
      have e2 : runT reads' works i (x :: l) t = runT reads' works (i + 1) l (stepT reads' works i x t) := by rw [runT, if_pos k2]
      rw [e1, e2, ← Nat.add_assoc]
      exact this
    · have hb' : stepB x s = false := by simpa using hb
      have hf := h.f
      rw [show FRel n s.k s.k s.f t.f = FRel n s.k t.k s.f t.f by rw [← h.k]] at hf
      obtain ⟨r1, r2, r3⟩ := FRel.g_run (works := works) hk (x :: l) i t h.w.kn hf (by rw [← h.k]; exact hl0)
      rw [← h.k, memL_cons] at r3
      refine ⟨r1, r2, ?_⟩
      have hx : memI x = false := by
        simp only [stepB, Bool.not_eq_false', Bool.and_eq_true] at hb'
        simpa using hb'.1.1.2
      have e1 : runT reads works i (x :: l) s = (stepT reads works i x s, false) := by rw [runT, if_neg hb]
      rw [e1, stepT_same hx]
      exact ⟨r3.of, r3.og, Nat.le_refl _, r3.s, r3.w, fun q hq => r3.s0 q (by omega), fun q hq => r3.w0 q (by omega), r3.g0⟩
end

theorem allK_of {w : Wk} (h : Kn w) : allK w.regs = true := by unfold allK; exact List.all_eq_true.2 fun r _ => h r
theorem FRel.runO {n : Nat} {reads reads' : List Vl} {works : List Bool} (hr : ∀ q, le (reads.getD q zV) (reads'.getD q zV)) (hk : ∀ q, q < n → (reads'.getD q zV).k = true) : ∀ (ls : List (List Ins)) (s t : Os'), s.k = t.k → t.whole = true → FRel n s.k s.k s.f t.f → s.k + (ls.map memL).sum ≤ n →
    (runO reads' works ls t).whole = true ∧ FRel n (s.k + (ls.map memL).sum) (s.k + (ls.map memL).sum) (Go.Proofs.Ytokdphmnlcmbbaa.runO reads works ls s).f (Go.Proofs.Ytokdphmnlcmbbaa.runO reads' works ls t).f
  | [], s, t, _, hw, h, _ => ⟨hw, h⟩
  | l :: ls, s, t, hst, hw, h, hl => by
    simp only [List.map_cons, List.sum_cons] at hl ⊢
    have h0 : TRel n { w := Go.Proofs.Ytokdphmnlcmbbaa.w0, f := s.f, out := 0, k := s.k } { w := Go.Proofs.Ytokdphmnlcmbbaa.w0, f := t.f, out := 0, k := t.k } := ⟨⟨fun r => le_refl _, fun r => rfl, rfl, rfl⟩, rfl, hst, h⟩
    obtain ⟨r1, r2, r3⟩ := TRel.run (works := works) hr hk l 0 _ _ h0 (by dsimp only; omega)
    have := FRel.runO (works := works) hr hk ls (stepO reads works l s) (stepO reads' works l t) (by show s.k + _ = t.k + _; rw [hst]) (by show (t.whole && _ && allK _) = true; rw [hw, r1, allK_of r2]; rfl) r3 (by show s.k + memL l + _ ≤ n; omega)
    rw [show (stepO reads works l s).k = s.k + memL l from rfl, Nat.add_assoc] at this
    exact this

theorem flow_more {t : Tst} {reads reads' : List Vl} {works : List Bool} (hr : ∀ q, le (reads.getD q zV) (reads'.getD q zV)) (hk : ∀ q, q < nOps t → (reads'.getD q zV).k = true) :
    (flowOf t reads' works).whole = true ∧ FRel (nOps t) (nOps t) (nOps t) (flowOf t reads works).f (flowOf t reads' works).f := by
  have h0 : FRel (nOps t) 0 0 (f0 (nOps t)) (f0 (nOps t)) := by
    have z1 : ∀ q, (List.replicate (nOps t) (0 : Int)).getD q 0 = 0 := fun q => by simp only [List.getD, List.getElem?_replicate]; split <;> rfl
    have z2 : ∀ q, ((List.replicate (nOps t) (⟨false, 0⟩ : Vl)).getD q zV).k = false := fun q => by
      simp only [List.getD, List.getElem?_replicate]; split <;> rfl
    exact ⟨f0_ok _, f0_ok _, Nat.le_refl _, fun _ _ => rfl, fun _ _ => rfl, fun q _ => z1 q, fun q _ => z2 q, fun q hq => absurd hq (Nat.not_lt_zero _)⟩
  have := FRel.runO (works := works) hr hk t.ths { f := f0 (nOps t), left := [], regs := [], whole := true, k := 0 } { f := f0 (nOps t), left := [], regs := [], whole := true, k := 0 } rfl rfl h0 (by show 0 + nOps t ≤ nOps t; omega)
  rw [show (({ f := f0 (nOps t), left := [], regs := [], whole := true, k := 0 } : Os').k + (t.ths.map memL).sum) = nOps t by show 0 + nOps t = nOps t; omega] at this
  exact this
end Go.Proofs.Ytokdphmnlcmbbaa
