/- Litmus tests: what they are as values. -/
import Derived.Test.YtokdphmnlcmbbaaT
import Derived.Test.YtokdphmnlcmbbaaSl19
set_option linter.unusedVariables false
set_option linter.unusedSimpArgs false
namespace Go.Proofs.Ytokdphmnlcmbbaa
open Go Go.Sl

abbrev iV (n : Int) : V := .val (.int .i64 n)
abbrev uV (n : Int) : V := .val (.int .u64 n)
abbrev bV (b : Bool) : V := .val (.bool b)

theorem pfEq {P : Program} {f : FuncId} {args : List V} {r r' : V} (h : Pf P f args r) (e : r = r') : Pf P f args r' := e ▸ h

/-- an instruction -/
structure Ins where
  op : Int
  rd : Int
  loc : Int
  aR : Bool
  aN : Int
  bR : Bool
  bN : Int
  acq : Bool
  rel : Bool
  dep : Int
  pred : Int
  succ : Int
  skip : Int

def Ins.cs (x : Ins) : List V := [iV x.op, iV x.rd, iV x.loc, bV x.aR, uV x.aN, bV x.bR, uV x.bN, bV x.acq, bV x.rel, iV x.dep, iV x.pred, iV x.succ, iV x.skip]
def insC (x : Ins) : V := .agg x.cs
structure Ini where
  name : ByteArray
  v : Int
def Ini.cs (x : Ini) : List V := [.val (.string x.name), uV x.v]
def iniC (x : Ini) : V := .agg x.cs
structure Atm where
  th : Int
  at_ : Int
  v : Int
def Atm.cs (x : Atm) : List V := [iV x.th, iV x.at_, uV x.v]
def atmC (x : Atm) : V := .agg x.cs
structure Tst where
  locs : List Ini
  ths : List (List Ins)
  asks : List Atm
def inss (l : List Ins) : List V := l.map insC
def inis (l : List Ini) : List V := l.map iniC
def atms (l : List Atm) : List V := l.map atmC
def thrs (l : List (List Ins)) : List V := l.map fun x => .ro 13 (inss x)
def Tst.cs (t : Tst) : List V := [.ro 2 (inis t.locs), .ro 1 (thrs t.ths), .ro 3 (atms t.asks)]

theorem NLs.vals {xs : List Value} : NLs (xs.map V.val) := fun v hv => by
  obtain ⟨x, _, rfl⟩ := List.mem_map.1 hv
  exact .val _
theorem nl_ins (x : Ins) : NLs x.cs := by
  unfold Ins.cs
  exact .cons (.val _) (.cons (.val _) (.cons (.val _) (.cons (.val _) (.cons (.val _) (.cons (.val _) (.cons (.val _) (.cons (.val _) (.cons (.val _) (.cons (.val _) (.cons (.val _) (.cons (.val _) (.cons (.val _) .nil))))))))))))
theorem nl_insC (x : Ins) : NL (insC x) := .agg (nl_ins x)
theorem nl_atm (x : Atm) : NLs x.cs := by unfold Atm.cs; exact .cons (.val _) (.cons (.val _) (.cons (.val _) .nil))
theorem nl_atmC (x : Atm) : NL (atmC x) := .agg (nl_atm x)
theorem nl_ini (x : Ini) : NLs x.cs := by unfold Ini.cs; exact .cons (.val _) (.cons (.val _) .nil)
theorem nl_inss (l : List Ins) : NL (.ro 13 (inss l)) := .ro fun v hv => by
  obtain ⟨a, _, rfl⟩ := List.mem_map.1 hv
  exact nl_ins a
theorem nl_inis (l : List Ini) : NL (.ro 2 (inis l)) := .ro fun v hv => by
  obtain ⟨a, _, rfl⟩ := List.mem_map.1 hv
  exact nl_ini a
theorem nl_atms (l : List Atm) : NL (.ro 3 (atms l)) := .ro fun v hv => by
  obtain ⟨a, _, rfl⟩ := List.mem_map.1 hv
  exact nl_atm a
theorem nl_thrs (l : List (List Ins)) : NL (.ro 1 (thrs l)) := .ro fun v hv => by
  obtain ⟨a, _, rfl⟩ := List.mem_map.1 hv
  exact .cons (nl_inss a) .nil
theorem nl_tst (t : Tst) : NLs t.cs := .cons (nl_inis _) (.cons (nl_thrs _) (.cons (nl_atms _) .nil))
theorem nl_rp (t : Tst) : NL (.rp t.cs 0) := .rp (nl_tst t)
theorem nl_kind (a b : Bool) : NL (.agg [bV a, bV b]) := .agg (.cons (.val _) (.cons (.val _) .nil))

@[go_sem] theorem inss_len (l : List Ins) : (inss l).length = l.length := List.length_map ..
@[go_sem] theorem inis_len (l : List Ini) : (inis l).length = l.length := List.length_map ..
@[go_sem] theorem atms_len (l : List Atm) : (atms l).length = l.length := List.length_map ..
@[go_sem] theorem thrs_len (l : List (List Ins)) : (thrs l).length = l.length := List.length_map ..
@[go_sem] theorem inss_at (l : List Ins) (i : Nat) : (inss l)[i]? = l[i]?.map insC := List.getElem?_map ..
@[go_sem] theorem inis_at (l : List Ini) (i : Nat) : (inis l)[i]? = l[i]?.map iniC := List.getElem?_map ..
@[go_sem] theorem atms_at (l : List Atm) (i : Nat) : (atms l)[i]? = l[i]?.map atmC := List.getElem?_map ..
@[go_sem] theorem thrs_at (l : List (List Ins)) (i : Nat) : (thrs l)[i]? = l[i]?.map fun x => V.ro 13 (inss x) := List.getElem?_map ..
@[go_sem] theorem inss_get (l : List Ins) (i : Nat) (h : i < (inss l).length) : (inss l)[i] = insC (l[i]'(by simpa [inss] using h)) := by simp [inss]
@[go_sem] theorem inis_get (l : List Ini) (i : Nat) (h : i < (inis l).length) : (inis l)[i] = iniC (l[i]'(by simpa [inis] using h)) := by simp [inis]
@[go_sem] theorem atms_get (l : List Atm) (i : Nat) (h : i < (atms l).length) : (atms l)[i] = atmC (l[i]'(by simpa [atms] using h)) := by simp [atms]
@[go_sem] theorem thrs_get (l : List (List Ins)) (i : Nat) (h : i < (thrs l).length) : (thrs l)[i] = .ro 13 (inss (l[i]'(by simpa [thrs] using h))) := by simp [thrs]
theorem getAt {α : Type} {l : List α} {i : Nat} (h : i < l.length) : ∃ x, l[i]? = some x ∧ l[i] = x := ⟨_, List.getElem?_eq_getElem h, rfl⟩
theorem takeAt {α : Type} {l : List α} {i : Nat} {x : α} (h : l[i]? = some x) : l.take (i + 1) = l.take i ++ [x] := by
  rw [List.take_add_one, h]; rfl

/-! ## what instructions are -/

def rdB (op : Int) : Bool := decide (op = 9) || decide (op = 13) || decide (op = 11) || decide (op = 12)
def wrB (op : Int) : Bool := decide (op = 10) || decide (op = 14) || decide (op = 11) || decide (op = 12)
def memB (op : Int) : Bool := rdB op || wrB op
def setB (op : Int) : Bool := decide (op ≥ 1) && (decide (op ≤ 14) && decide (op ≠ 10))
def argOk (r : Bool) (n : Int) : Bool := !r || decide (n < 8)
def beforeB (a b : Atm) : Bool := if a.th ≠ b.th then decide (b.th < 0) || (decide (a.th ≥ 0) && decide (a.th < b.th)) else decide (a.at_ < b.at_)
def askLim (t : Tst) (a : Atm) : Int := if 0 ≤ a.th then 8 else (t.locs.length : Int)
def askBad (t : Tst) (a : Atm) : Bool := decide (a.th < -1) || (decide ((t.ths.length : Int) ≤ a.th) || (decide (a.at_ < 0) || decide (askLim t a ≤ a.at_)))
def askErr (t : Tst) (a : Atm) : Int := if askBad t a then 11 else 0

/-! ## events -/

def evt (x : Ins) : Nat := (rdB x.op).toNat + (wrB x.op).toNat
def evL (l : List Ins) : Nat := (l.map evt).sum
def events (l : List (List Ins)) : Nat := (l.map evL).sum
theorem evL_step {l : List Ins} {i : Nat} {x : Ins} (h : l[i]? = some x) : evL (l.take (i + 1)) = evL (l.take i) + evt x := by
  simp [evL, takeAt h]
theorem events_step {l : List (List Ins)} {i : Nat} {x : List Ins} (h : l[i]? = some x) : events (l.take (i + 1)) = events (l.take i) + evL x := by
  simp [events, takeAt h]
theorem sum_take {α : Type} (f : α → Nat) (l : List α) (i : Nat) : ((l.take i).map f).sum ≤ (l.map f).sum := by
  conv => rhs; rw [← List.take_append_drop i l]
  rw [List.map_append, List.sum_append]; omega
theorem events_le {l : List (List Ins)} {i : Nat} {x : List Ins} (h : l[i]? = some x) {j : Nat} {y : Ins} (hy : x[j]? = some y) : events (l.take i) + evL (x.take j) + evt y ≤ events l := by
  have h1 : events (l.take (i + 1)) ≤ events l := sum_take evL l (i + 1)
  have h2 : evL (x.take (j + 1)) ≤ evL x := sum_take evt x (j + 1)
  rw [events_step h] at h1
  rw [evL_step hy] at h2
  omega
def evP (t : List (List Ins)) (i : Nat) (l : List Ins) (b : Nat) : Nat := events (t.take i) + evL (l.take b)
theorem evP_zero (t : List (List Ins)) (i : Nat) (l : List Ins) : evP t i l 0 = events (t.take i) := by simp [evP, evL]
theorem evP_step {t : List (List Ins)} {i : Nat} {l : List Ins} {b : Nat} {x : Ins} (h : l[b]? = some x) : evP t i l (b + 1) = evP t i l b + (rdB x.op).toNat + (wrB x.op).toNat := by unfold evP; rw [evL_step h]; unfold evt; omega
theorem evP_end {t : List (List Ins)} {i : Nat} {l : List Ins} (h : t[i]? = some l) : evP t i l l.length = events (t.take (i + 1)) := by unfold evP; rw [List.take_length, events_step h]
theorem evP_le {t : List (List Ins)} {i : Nat} {l : List Ins} {b : Nat} {x : Ins} (h : t[i]? = some l) (hx : l[b]? = some x) : evP t i l b + (rdB x.op).toNat + (wrB x.op).toNat ≤ events t := by have := events_le h hx; unfold evt at this; unfold evP; omega
theorem evt_le (x : Ins) : evt x ≤ 2 := by unfold evt; cases rdB x.op <;> cases wrB x.op <;> simp
theorem evL_len (l : List Ins) : evL l ≤ 2 * l.length := by
  induction l with
  | nil => simp [evL]
  | cons x l ih =>
    have := evt_le x
    have e : evL (x :: l) = evt x + evL l := by simp [evL]
    rw [e, List.length_cons]; omega
theorem events_len {n : Nat} (l : List (List Ins)) (h : ∀ x ∈ l, x.length ≤ n) : events l ≤ 2 * n * l.length := by
  induction l with
  | nil => simp [events]
  | cons x l ih =>
    have h1 := ih fun y hy => h y (by simp [hy])
    have h2 := evL_len x
    have h3 := h x (by simp)
    have e : events (x :: l) = evL x + events l := by simp [events]
    rw [e, List.length_cons, Nat.mul_add]; omega

def manyB (t : Tst) : Bool := decide ((4 : Int) < (t.ths.length : Nat)) || (decide ((8 : Int) < (t.locs.length : Nat)) || decide ((40 : Int) < (t.asks.length : Nat)))
def sizeErr (t : Tst) : Int :=
  if t.ths = [] then 15 else if manyB t = true then 12 else if ¬ (∀ x ∈ t.ths, x.length ≤ 8) then 12 else if 8 < events t.ths then 12 else 0

/-! ## the first fault of a list -/

def fe {α : Type} (f : Nat → α → Int) : Nat → List α → Int
  | _, [] => 0
  | i, x :: l => if f i x ≠ 0 then f i x else fe f (i + 1) l
theorem fe_bad {α : Type} {f : Nat → α → Int} {l : List α} {i : Nat} {x : α} (h : l[i]? = some x) (hf : f i x ≠ 0) : fe f i (l.drop i) = f i x := by
  have hlt := (List.getElem?_eq_some_iff.1 h).1
  have e : l[i] = x := (List.getElem?_eq_some_iff.1 h).2
  rw [List.drop_eq_getElem_cons hlt, e, fe, if_pos hf]
theorem fe_good {α : Type} {f : Nat → α → Int} {l : List α} {i : Nat} {x : α} (h : l[i]? = some x) (hf : f i x = 0) : fe f i (l.drop i) = fe f (i + 1) (l.drop (i + 1)) := by
  have hlt := (List.getElem?_eq_some_iff.1 h).1
  have e : l[i] = x := (List.getElem?_eq_some_iff.1 h).2
  rw [List.drop_eq_getElem_cons hlt, e, fe, if_neg (by simp [hf])]
theorem fe_end {α : Type} {f : Nat → α → Int} {l : List α} : fe f l.length (l.drop l.length) = 0 := by rw [List.drop_length]; rfl
theorem fe_zero {α : Type} {f : Nat → α → Int} : ∀ (l : List α) (i : Nat), fe f i l = 0 ↔ ∀ (j : Nat) (x : α), l[j]? = some x → f (i + j) x = 0
  | [], i => by simp [fe]
  | x :: l, i => by
    rw [fe]
    constructor
    · intro h j y hj
      split at h
      · rename_i h1; exact absurd h h1
      · rename_i h1
        cases j with
        | zero => simp at hj; subst hj; simpa using h1
        | succ j =>
          have := (fe_zero l (i + 1)).1 h j y (by simpa using hj)
          rw [show i + (j + 1) = i + 1 + j by omega]; exact this
    · intro h
      have h0 := h 0 x rfl
      rw [Nat.add_zero] at h0
      rw [if_neg (by simp [h0])]
      exact (fe_zero l (i + 1)).2 fun j y hj => by
        have := h (j + 1) y (by simpa using hj)
        rw [show i + (j + 1) = i + 1 + j by omega] at this; exact this

/-! ## names -/

def chI (s : ByteArray) (i : Nat) : Int := ((s.data.toList.getD i 0).toNat : Int)
@[go_sem high] theorem indexV_str {T : Tab} {s : ByteArray} {i : Nat} {kd : IntKind} {K : V → Prop} (h : i < s.size) : indexV T .string (.val (.string s)) (.val (.int kd (i : Int))) K = K (.val (.int .u8 (chI s i))) := by
  simp [indexV, chI, h]
@[go_sem high] theorem indexV_str0 {T : Tab} {s : ByteArray} {kd : IntKind} {K : V → Prop} (h : 0 < s.size) : indexV T .string (.val (.string s)) (.val (.int kd 0)) K = K (.val (.int .u8 (chI s 0))) := by
  simp [indexV, chI, h]
@[go_sem high] theorem indexV_str1 {T : Tab} {s : ByteArray} {kd : IntKind} {K : V → Prop} (h : 1 < s.size) : indexV T .string (.val (.string s)) (.val (.int kd 1)) K = K (.val (.int .u8 (chI s 1))) := by
  have h' : (1 : Int) < (s.size : Int) := by omega
  simp [indexV, chI, h']
def okC (i : Nat) (c : Int) : Bool := decide (97 ≤ c) && decide (c ≤ 122) || decide (0 < i) && (decide (48 ≤ c) && decide (c ≤ 57))
def okCs (s : ByteArray) : Nat → Bool
  | 0 => true
  | i + 1 => okCs s i && okC i (chI s i)
theorem okCs_bad {s : ByteArray} {i n : Nat} (h : i < n) (hc : okC i (chI s i) = false) : okCs s n = false := by
  induction n with
  | zero => omega
  | succ n ih =>
    simp only [okCs]
    by_cases e : i = n
    · subst e; rw [hc, Bool.and_false]
    · rw [ih (by omega), Bool.false_and]
def regN (s : ByteArray) : Bool := decide (s.size = 2) && (decide (chI s 0 = 114) && decide (chI s 1 ≤ 57))
def nmB (s : ByteArray) : Bool := okCs s s.size && (!regN s && (decide (s.size ≠ 0) && decide (s.size ≤ 16)))

end Go.Proofs.Ytokdphmnlcmbbaa
