/- What threads do, as far as it is known: plainly, and as values. -/
import Derived.Test.YtokdphmnlcmbbaaW10
import Derived.Test.YtokdphmnlcmbbaaSl20
set_option linter.unusedVariables false
set_option linter.unusedSimpArgs false
namespace Go.Proofs.Ytokdphmnlcmbbaa
open Go Go.Sl

/-- a number that is known, or isn't -/
structure Vl where
  k : Bool
  v : Int
deriving DecidableEq
def vlC (x : Vl) : V := .agg [bV x.k, uV x.v]
def clean (x : Vl) : Vl := if x.k then x else ⟨false, 0⟩
def vsum (a b : Vl) : Vl := ⟨a.k && b.k, IntKind.u64.wrap (a.v + b.v)⟩

/-- a walker -/
structure Wk where
  regs : Nat → Vl
  hangs : Nat → Int
  path : Int
  left : Int
  lr : Int
  lrLoc : Int
def regsC (g : Nat → Vl) : List V := (List.range 8).flatMap fun r => [bV (g r).k, uV (g r).v]
def hangC (h : Nat → Int) : List V := (List.range 8).map fun r => uV (h r)
def wkC (f : V) (x : Wk) : List V := f :: (regsC x.regs ++ (hangC x.hangs ++ [uV x.path, uV x.left, iV x.lr, iV x.lrLoc]))
theorem lt8 {r : Nat} (h : r < 8) : r = 0 ∨ r = 1 ∨ r = 2 ∨ r = 3 ∨ r = 4 ∨ r = 5 ∨ r = 6 ∨ r = 7 := by omega
section
variable {f : V} {x : Wk} {r : Nat}
@[go_sem high] theorem wk_len : (wkC f x).length = 29 := Eq.trans rfl rfl
@[go_sem high] theorem wk_fits (hf : f.one = true) : (V.agg (wkC f x)).fits 29 = true := by
  rw [fits_iff]
  refine ⟨rfl, fun c hc => ?_⟩
  simp only [V.cells, wkC, List.mem_cons, List.mem_append, regsC, hangC, List.mem_flatMap, List.mem_map, List.not_mem_nil, or_false] at hc
  rcases hc with rfl | ⟨_, _, rfl | rfl⟩ | ⟨_, _, rfl⟩ | rfl | rfl | rfl | rfl <;> first | exact hf | rfl
@[go_sem high] theorem wk_f : partV false 1 (wkC f x) 0 = f := Eq.trans rfl rfl
@[go_sem high] theorem wk_path : partV false 1 (wkC f x) 25 = uV x.path := Eq.trans rfl rfl
@[go_sem high] theorem wk_left : partV false 1 (wkC f x) 26 = uV x.left := Eq.trans rfl rfl
@[go_sem high] theorem wk_lr : partV false 1 (wkC f x) 27 = iV x.lr := Eq.trans rfl rfl
@[go_sem high] theorem wk_lrLoc : partV false 1 (wkC f x) 28 = iV x.lrLoc := Eq.trans rfl rfl
@[go_sem high] theorem wk_regs : partV true 16 (wkC f x) 1 = .agg (regsC x.regs) := Eq.trans rfl rfl
@[go_sem high] theorem wk_reg (h : r < 8) : partV true 2 (wkC f x) (1 + r * 2) = .agg [bV (x.regs r).k, uV (x.regs r).v] := by
  rcases lt8 h with rfl | rfl | rfl | rfl | rfl | rfl | rfl | rfl <;> rfl
@[go_sem high] theorem wk_hang (h : r < 8) : partV false 1 (wkC f x) (17 + r) = uV (x.hangs r) := by
  rcases lt8 h with rfl | rfl | rfl | rfl | rfl | rfl | rfl | rfl <;> rfl
@[go_sem high] theorem put_path {n : Int} : putPart (.agg (wkC f x)) 25 (uV n) = .agg (wkC f { x with path := n }) := Eq.trans rfl rfl
@[go_sem high] theorem put_left {n : Int} : putPart (.agg (wkC f x)) 26 (uV n) = .agg (wkC f { x with left := n }) := Eq.trans rfl rfl
@[go_sem high] theorem put_lr {n : Int} : putPart (.agg (wkC f x)) 27 (iV n) = .agg (wkC f { x with lr := n }) := Eq.trans rfl rfl
@[go_sem high] theorem put_lrLoc {n : Int} : putPart (.agg (wkC f x)) 28 (iV n) = .agg (wkC f { x with lrLoc := n }) := Eq.trans rfl rfl
@[go_sem high] theorem put_reg {a : Bool} {b : Int} (h : r < 8) : putPart (.agg (wkC f x)) (1 + r * 2) (.agg [bV a, uV b]) = .agg (wkC f { x with regs := fun q => if q = r then ⟨a, b⟩ else x.regs q }) := by
  rcases lt8 h with rfl | rfl | rfl | rfl | rfl | rfl | rfl | rfl <;> rfl
@[go_sem high] theorem put_known {a : Bool} (h : r < 8) : putPart (.agg (wkC f x)) (1 + r * 2) (bV a) = .agg (wkC f { x with regs := fun q => if q = r then ⟨a, (x.regs r).v⟩ else x.regs q }) := by
  rcases lt8 h with rfl | rfl | rfl | rfl | rfl | rfl | rfl | rfl <;> rfl
@[go_sem high] theorem put_hang {n : Int} (h : r < 8) : putPart (.agg (wkC f x)) (17 + r) (uV n) = .agg (wkC f { x with hangs := fun q => if q = r then n else x.hangs q }) := by
  rcases lt8 h with rfl | rfl | rfl | rfl | rfl | rfl | rfl | rfl <;> rfl
@[go_sem high] theorem regsC_len {g : Nat → Vl} : (regsC g).length = 16 := Eq.trans rfl rfl
@[go_sem high] theorem regsC_fits {g : Nat → Vl} : (V.agg (regsC g)).fits 16 = true := Eq.trans rfl rfl
@[go_sem high] theorem regsC_all {g : Nat → Vl} : partV true 16 (regsC g) 0 = .agg (regsC g) := Eq.trans rfl rfl
@[go_sem high] theorem regsC_reg {g : Nat → Vl} (h : r < 8) : partV true 2 (regsC g) (r * 2) = .agg [bV (g r).k, uV (g r).v] := by
  rcases lt8 h with rfl | rfl | rfl | rfl | rfl | rfl | rfl | rfl <;> rfl
end
theorem nl_regs (g : Nat → Vl) : NLs (regsC g) := fun v hv => by
  obtain ⟨a, _, h⟩ := List.mem_flatMap.1 hv
  simp at h
  rcases h with rfl | rfl <;> exact .val _

/-! ## rows -/

def iVs (l : List Int) : List V := l.map iV
def uVs (l : List Int) : List V := l.map uV
def bVs (l : List Bool) : List V := l.map bV
def vls (l : List Vl) : List V := l.map vlC
@[go_sem] theorem iVs_len (l : List Int) : (iVs l).length = l.length := List.length_map ..
@[go_sem] theorem uVs_len (l : List Int) : (uVs l).length = l.length := List.length_map ..
@[go_sem] theorem bVs_len (l : List Bool) : (bVs l).length = l.length := List.length_map ..
@[go_sem] theorem vls_len (l : List Vl) : (vls l).length = l.length := List.length_map ..
@[go_sem] theorem iVs_at (l : List Int) (i : Nat) : (iVs l)[i]? = l[i]?.map iV := List.getElem?_map ..
@[go_sem] theorem uVs_at (l : List Int) (i : Nat) : (uVs l)[i]? = l[i]?.map uV := List.getElem?_map ..
@[go_sem] theorem bVs_at (l : List Bool) (i : Nat) : (bVs l)[i]? = l[i]?.map bV := List.getElem?_map ..
@[go_sem] theorem vls_at (l : List Vl) (i : Nat) : (vls l)[i]? = l[i]?.map fun x => V.agg [bV x.k, uV x.v] := List.getElem?_map ..
@[go_sem] theorem iVs_get (l : List Int) (i : Nat) (h : i < (iVs l).length) : (iVs l)[i] = iV (l[i]'(by simpa [iVs] using h)) := by simp [iVs]
@[go_sem] theorem uVs_get (l : List Int) (i : Nat) (h : i < (uVs l).length) : (uVs l)[i] = uV (l[i]'(by simpa [uVs] using h)) := by simp [uVs]
@[go_sem] theorem bVs_get (l : List Bool) (i : Nat) (h : i < (bVs l).length) : (bVs l)[i] = bV (l[i]'(by simpa [bVs] using h)) := by simp [bVs]
@[go_sem] theorem vls_get (l : List Vl) (i : Nat) (h : i < (vls l).length) : (vls l)[i] = .agg [bV (l[i]'(by simpa [vls] using h)).k, uV (l[i]'(by simpa [vls] using h)).v] := by simp [vls, vlC]
@[go_sem] theorem iVs_set (l : List Int) (i : Nat) (n : Int) : (iVs l).set i (iV n) = iVs (l.set i n) := (List.map_set ..).symm
@[go_sem] theorem uVs_set (l : List Int) (i : Nat) (n : Int) : (uVs l).set i (uV n) = uVs (l.set i n) := (List.map_set ..).symm
@[go_sem] theorem bVs_set (l : List Bool) (i : Nat) (n : Bool) : (bVs l).set i (bV n) = bVs (l.set i n) := (List.map_set ..).symm
@[go_sem] theorem vls_set (l : List Vl) (i : Nat) (a : Bool) (b : Int) : (vls l).set i (.agg [bV a, uV b]) = vls (l.set i ⟨a, b⟩) := (List.map_set (f := vlC) (l := l) (i := i) (a := ⟨a, b⟩)).symm
theorem iVs_zeros (n : Nat) : List.replicate n (iV 0) = iVs (List.replicate n 0) := by simp [iVs]
theorem uVs_zeros (n : Nat) : List.replicate n (uV 0) = uVs (List.replicate n 0) := by simp [uVs]
theorem vls_zeros (n : Nat) : List.replicate n (V.agg [bV false, uV 0]) = vls (List.replicate n ⟨false, 0⟩) := by simp [vls, vlC]
theorem nl_iVs (l : List Int) : NL (.ro 1 (iVs l)) := .ro fun v hv => by obtain ⟨a, _, rfl⟩ := List.mem_map.1 hv; exact .cons (.val _) .nil
theorem nl_uVs (l : List Int) : NL (.ro 1 (uVs l)) := .ro fun v hv => by obtain ⟨a, _, rfl⟩ := List.mem_map.1 hv; exact .cons (.val _) .nil
theorem nl_bVs (l : List Bool) : NL (.ro 1 (bVs l)) := .ro fun v hv => by obtain ⟨a, _, rfl⟩ := List.mem_map.1 hv; exact .cons (.val _) .nil
theorem nl_vls (l : List Vl) : NL (.ro 2 (vls l)) := .ro fun v hv => by obtain ⟨a, _, rfl⟩ := List.mem_map.1 hv; exact .cons (.val _) (.cons (.val _) .nil)

/-! ## Ops -/

def memI (x : Ins) : Bool := memB x.op
def memL (l : List Ins) : Nat := l.countP memI
def opC (p : Nat × Nat) : V := .agg [iV (p.1 : Nat), iV (p.2 : Nat)]
def opsC (l : List (Nat × Nat)) : List V := l.map opC
def opsL (th : Nat) : Nat → List Ins → List (Nat × Nat)
  | _, [] => []
  | i, x :: l => if memI x then (th, i) :: opsL th (i + 1) l else opsL th (i + 1) l
def opsT : Nat → List (List Ins) → List (Nat × Nat)
  | _, [] => []
  | i, l :: r => opsL i 0 l ++ opsT (i + 1) r
theorem opsL_len (th : Nat) : ∀ (i : Nat) (l : List Ins), (opsL th i l).length = memL l
  | _, [] => rfl
  | i, x :: l => by
    unfold opsL memL
    have := opsL_len th (i + 1) l
    unfold memL at this
    by_cases h : memI x = true
    · rw [if_pos h, List.countP_cons_of_pos h, List.length_cons, this]
    · rw [if_neg h, List.countP_cons_of_neg h, this]
theorem opsT_len : ∀ (i : Nat) (l : List (List Ins)), (opsT i l).length = (l.map memL).sum
  | _, [] => rfl
  | i, x :: l => by simp [opsT, opsL_len, opsT_len (i + 1) l]
def nOps (t : Tst) : Nat := (t.ths.map memL).sum

/-! ## Reckon -/

def reck (op a b : Int) : Int :=
  if op = 2 then IntKind.u64.wrap (a + b) else if op = 3 then IntKind.u64.wrap (a - b) else if op = 4 then x64 a b else if op = 5 then n64 a b else if op = 6 then o64 a b
  else if op = 7 then sl64 a (n64 b 63) else sr64 a (n64 b 63)

/-! ## a walker's steps -/

/-- what is known of each Op -/
structure Fl where
  state : List Int
  write : List Vl
  pair : List Int
  place : List Int
  value : List Int
  path : List Int
structure FlOk (n : Nat) (f : Fl) : Prop where
  l1 : f.state.length = n
  l2 : f.write.length = n
  l3 : f.pair.length = n
  l4 : f.place.length = n
  l5 : f.value.length = n
  l6 : f.path.length = n

def argW (w : Wk) (r : Bool) (n : Int) : Vl := if r then w.regs n.toNat else ⟨true, n⟩
def argH (w : Wk) (r : Bool) (n : Int) : Int := if r then w.hangs n.toNat else 0
def setW (w : Wk) (rd : Int) (v : Vl) (on : Int) : Wk := { w with regs := fun q => if q = rd.toNat then clean v else w.regs q, hangs := fun q => if q = rd.toNat then on else w.hangs q }

def condF (w : Wk) (f : Fl) (x : Ins) (k : Nat) (a : Vl) (on : Int) (works : Bool) : Fl :=
  let pr := if 0 < w.lr ∧ w.lrLoc = x.loc then f.pair.set k w.lr else f.pair
  if works then { f with pair := pr, write := f.write.set k a, value := f.value.set k on } else { f with pair := pr, state := f.state.set k 2, path := f.path.set k 0, place := f.place.set k 0 }
def condW (w : Wk) (x : Ins) (k : Nat) (works : Bool) : Wk :=
  if works then setW { w with lr := 0 } x.rd ⟨true, 0⟩ (sl64 1 (k : Nat)) else setW { w with lr := 0 } x.rd ⟨true, 1⟩ 0
def memF0 (w : Wk) (f : Fl) (x : Ins) (k : Nat) : Fl :=
  { f with state := f.state.set k 1, path := f.path.set k w.path, place := if 0 < x.dep then f.place.set k (w.hangs (x.dep - 1).toNat) else f.place }
def memF (w : Wk) (f : Fl) (x : Ins) (k : Nat) (read : Vl) (works : Bool) : Fl :=
  let f := memF0 w f x k
  let a := argW w x.aR x.aN
  let on := argH w x.aR x.aN
  if x.op = 10 ∨ x.op = 11 then { f with write := f.write.set k a, value := f.value.set k on }
  else if x.op = 12 then { f with write := f.write.set k (clean (vsum a read)), value := f.value.set k on }
  else if x.op = 14 then condF w f x k a on works else f
def memW (w : Wk) (x : Ins) (k : Nat) (read : Vl) (works : Bool) : Wk :=
  if x.op = 9 then setW w x.rd read (sl64 1 (k : Nat))
  else if x.op = 13 then { setW w x.rd read (sl64 1 (k : Nat)) with lr := (k : Nat) + 1, lrLoc := x.loc }
  else if x.op = 10 then w
  else if x.op = 11 ∨ x.op = 12 then setW w x.rd read (sl64 1 (k : Nat))
  else if x.op = 14 then condW w x k works else w
def brW (w : Wk) (x : Ins) : Wk := { w with path := o64 w.path (o64 (argH w x.aR x.aN) (argH w x.bR x.bN)) }
def brK (w : Wk) (x : Ins) : Bool := (argW w x.aR x.aN).k && (argW w x.bR x.bN).k
def brN (w : Wk) (x : Ins) : Int := if brK w x && (decide ((argW w x.aR x.aN).v = (argW w x.bR x.bN).v) == decide (x.op = 16)) then x.skip else 0
def plainW (w : Wk) (x : Ins) : Wk :=
  if x.op = 15 then w else if x.op = 1 then setW w x.rd (argW w x.aR x.aN) 0
  else setW w x.rd ⟨(argW w x.aR x.aN).k && (argW w x.bR x.bN).k, reck x.op (argW w x.aR x.aN).v (argW w x.bR x.bN).v⟩ (o64 (argH w x.aR x.aN) (argH w x.bR x.bN))

/-- what is asked of an instruction -/
structure InsOk (x : Ins) : Prop where
  rd0 : 0 ≤ x.rd
  rd8 : x.rd < 8
  a : x.aR = true → 0 ≤ x.aN ∧ x.aN < 8
  b : x.bR = true → 0 ≤ x.bN ∧ x.bN < 8
  dep : x.dep ≤ 8
  skip : x.skip ≤ 9223372036854775807
theorem memF0_ok {m : Nat} {f : Fl} (h : FlOk m f) (w : Wk) (x : Ins) (k : Nat) : FlOk m (memF0 w f x k) := by
  obtain ⟨l1, l2, l3, l4, l5, l6⟩ := h
  unfold memF0
  refine ⟨by simpa using l1, l2, l3, ?_, l5, by simpa using l6⟩
  dsimp only; split
  · simpa using l4
  · exact l4
theorem condF_ok {m : Nat} {f : Fl} (h : FlOk m f) (w : Wk) (x : Ins) (k : Nat) (a : Vl) (on : Int) (b : Bool) : FlOk m (condF w f x k a on b) := by
  obtain ⟨l1, l2, l3, l4, l5, l6⟩ := h
  have h3 : (if 0 < w.lr ∧ w.lrLoc = x.loc then f.pair.set k w.lr else f.pair).length = m := by split <;> simpa using l3
  unfold condF
  cases b
  · exact ⟨by simpa using l1, l2, h3, by simpa using l4, l5, by simpa using l6⟩
  · exact ⟨l1, by simpa using l2, h3, l4, by simpa using l5, l6⟩
theorem memF_ok {m : Nat} {f : Fl} (h : FlOk m f) (w : Wk) (x : Ins) (k : Nat) (r : Vl) (b : Bool) : FlOk m (memF w f x k r b) := by
  have h0 := memF0_ok h w x k
  unfold memF
  dsimp only
  split
  · obtain ⟨l1, l2, l3, l4, l5, l6⟩ := h0
    exact ⟨l1, by simpa using l2, l3, l4, by simpa using l5, l6⟩
  · split
    · obtain ⟨l1, l2, l3, l4, l5, l6⟩ := h0
      exact ⟨l1, by simpa using l2, l3, l4, by simpa using l5, l6⟩
    · split
      · exact condF_ok h0 _ _ _ _ _ _
      · exact h0

/-- a thread under way: how many are left out, the next Op's number -/
structure Ts where
  w : Wk
  f : Fl
  out : Int
  k : Nat
def zV : Vl := ⟨false, 0⟩
def stepT (reads : List Vl) (works : List Bool) (i : Nat) (x : Ins) (s : Ts) : Ts :=
  if 0 < s.out then { w := { s.w with left := o64 s.w.left (sl64 1 (i : Nat)) }, f := if memI x then { s.f with state := s.f.state.set s.k 2 } else s.f, out := s.out - 1, k := if memI x then s.k + 1 else s.k }
  else if memI x then { w := memW s.w x s.k (reads.getD s.k zV) (works.getD s.k false), f := memF s.w s.f x s.k (reads.getD s.k zV) (works.getD s.k false), out := s.out, k := s.k + 1 }
  else if isBr x.op then { s with w := brW s.w x, out := brN s.w x }
  else { s with w := plainW s.w x }
def stepB (x : Ins) (s : Ts) : Bool := !(decide (s.out ≤ 0) && !memI x && isBr x.op && !brK s.w x)
def runT (reads : List Vl) (works : List Bool) : Nat → List Ins → Ts → Ts × Bool
  | _, [], s => (s, true)
  | i, x :: l, s => if stepB x s then runT reads works (i + 1) l (stepT reads works i x s) else (stepT reads works i x s, false)

theorem drop_cons {α : Type} {l : List α} {i : Nat} {x : α} (h : l[i]? = some x) : l.drop i = x :: l.drop (i + 1) := by
  obtain ⟨h1, h2⟩ := List.getElem?_eq_some_iff.1 h
  rw [List.drop_eq_getElem_cons h1, h2]
theorem memL_cons (x : Ins) (l : List Ins) : memL (x :: l) = (if memI x then 1 else 0) + memL l := by
  unfold memL
  rw [List.countP_cons]; omega
theorem memL_drop {l : List Ins} {i : Nat} {x : Ins} (h : l[i]? = some x) : memL (l.drop i) = (if memI x then 1 else 0) + memL (l.drop (i + 1)) := by rw [drop_cons h, memL_cons]
theorem runT_step {reads : List Vl} {works : List Bool} {l : List Ins} {i : Nat} {x : Ins} {s : Ts} (h : l[i]? = some x) (hb : stepB x s = true) : runT reads works i (l.drop i) s = runT reads works (i + 1) (l.drop (i + 1)) (stepT reads works i x s) := by
  rw [drop_cons h, runT, if_pos hb]
theorem runT_stop {reads : List Vl} {works : List Bool} {l : List Ins} {i : Nat} {x : Ins} {s : Ts} (h : l[i]? = some x) (hb : stepB x s = false) : runT reads works i (l.drop i) s = (stepT reads works i x s, false) := by
  rw [drop_cons h, runT, if_neg (by simp [hb])]
theorem stepT_ok {m : Nat} {reads : List Vl} {works : List Bool} {i : Nat} {x : Ins} {s : Ts} (h : FlOk m s.f) : FlOk m (stepT reads works i x s).f := by
  unfold stepT
  split
  · dsimp only
    split
    · obtain ⟨l1, l2, l3, l4, l5, l6⟩ := h
      exact ⟨by simpa using l1, l2, l3, l4, l5, l6⟩
    · exact h
  · split
    · exact memF_ok h _ _ _ _ _
    · split
      · exact h
      · exact h
theorem stepT_k {reads : List Vl} {works : List Bool} {l : List Ins} {i : Nat} {x : Ins} {s : Ts} (h : l[i]? = some x) : (stepT reads works i x s).k + memL (l.drop (i + 1)) ≤ s.k + memL (l.drop i) := by
  rw [memL_drop h]
  unfold stepT
  split
  · dsimp only
    split <;> omega
  · split
    · dsimp only; omega
    · split <;> (dsimp only; omega)
theorem stepT_out {reads : List Vl} {works : List Bool} {i : Nat} {x : Ins} {s : Ts} (h : s.out ≤ 9223372036854775807) (hx : InsOk x) : (stepT reads works i x s).out ≤ 9223372036854775807 := by
  have := hx.skip
  unfold stepT
  split
  · dsimp only; omega
  · split
    · exact h
    · split
      · show brN s.w x ≤ _
        unfold brN
        split <;> omega
      · exact h

/-! ## what threads do -/

def w0 : Wk := { regs := fun _ => ⟨true, 0⟩, hangs := fun _ => 0, path := 0, left := 0, lr := 0, lrLoc := 0 }
def f0 (n : Nat) : Fl := { state := List.replicate n 0, write := List.replicate n ⟨false, 0⟩, pair := List.replicate n 0, place := List.replicate n 0, value := List.replicate n 0, path := List.replicate n 0 }
structure Os' where
  f : Fl
  left : List Int
  regs : List (Nat → Vl)
  whole : Bool
  k : Nat
def allK (g : Nat → Vl) : Bool := (List.range 8).all fun r => (g r).k
def stepO (reads : List Vl) (works : List Bool) (l : List Ins) (s : Os') : Os' :=
  let r := runT reads works 0 l { w := w0, f := s.f, out := 0, k := s.k }
  { f := r.1.f, left := s.left ++ [r.1.w.left], regs := s.regs ++ [r.1.w.regs], whole := s.whole && r.2 && allK r.1.w.regs, k := s.k + memL l }
def runO (reads : List Vl) (works : List Bool) : List (List Ins) → Os' → Os'
  | [], s => s
  | l :: r, s => runO reads works r (stepO reads works l s)
def flowOf (t : Tst) (reads : List Vl) (works : List Bool) : Os' := runO reads works t.ths { f := f0 (nOps t), left := [], regs := [], whole := true, k := 0 }
def regsRows (l : List (Nat → Vl)) : List V := l.map fun g => .agg (regsC g)
def Os'.cs (s : Os') : List V := [.ro 1 (iVs s.f.state), .ro 2 (vls s.f.write), .ro 1 (iVs s.f.pair), .ro 1 (uVs s.f.place), .ro 1 (uVs s.f.value), .ro 1 (uVs s.f.path), .ro 1 (uVs s.left), .ro 16 (regsRows s.regs), bV s.whole]
end Go.Proofs.Ytokdphmnlcmbbaa
