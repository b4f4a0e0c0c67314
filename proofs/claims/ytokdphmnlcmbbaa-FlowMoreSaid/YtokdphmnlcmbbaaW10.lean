/- Litmus tests: what an instruction may be, plainly. -/
import Derived.Test.YtokdphmnlcmbbaaW9
set_option linter.unusedVariables false
set_option linter.unusedSimpArgs false
namespace Go.Proofs.Ytokdphmnlcmbbaa
open Go Go.Sl

@[go_sem high] theorem part_ins0 (x : Ins) : partV false 1 x.cs 0 = iV x.op := Eq.trans rfl rfl
@[go_sem high] theorem part_ins1 (x : Ins) : partV false 1 x.cs 1 = iV x.rd := Eq.trans rfl rfl
@[go_sem high] theorem part_ins2 (x : Ins) : partV false 1 x.cs 2 = iV x.loc := Eq.trans rfl rfl
@[go_sem high] theorem part_ins3 (x : Ins) : partV false 1 x.cs 3 = bV x.aR := Eq.trans rfl rfl
@[go_sem high] theorem part_ins4 (x : Ins) : partV false 1 x.cs 4 = uV x.aN := Eq.trans rfl rfl
@[go_sem high] theorem part_ins5 (x : Ins) : partV false 1 x.cs 5 = bV x.bR := Eq.trans rfl rfl
@[go_sem high] theorem part_ins6 (x : Ins) : partV false 1 x.cs 6 = uV x.bN := Eq.trans rfl rfl
@[go_sem high] theorem part_ins7 (x : Ins) : partV false 1 x.cs 7 = bV x.acq := Eq.trans rfl rfl
@[go_sem high] theorem part_ins8 (x : Ins) : partV false 1 x.cs 8 = bV x.rel := Eq.trans rfl rfl
@[go_sem high] theorem part_ins9 (x : Ins) : partV false 1 x.cs 9 = iV x.dep := Eq.trans rfl rfl
@[go_sem high] theorem part_ins10 (x : Ins) : partV false 1 x.cs 10 = iV x.pred := Eq.trans rfl rfl
@[go_sem high] theorem part_ins11 (x : Ins) : partV false 1 x.cs 11 = iV x.succ := Eq.trans rfl rfl
@[go_sem high] theorem part_ins12 (x : Ins) : partV false 1 x.cs 12 = iV x.skip := Eq.trans rfl rfl
@[go_sem high] theorem part_insA (x : Ins) : partV true 2 x.cs 3 = .agg [bV x.aR, uV x.aN] := Eq.trans rfl rfl
@[go_sem high] theorem part_insB (x : Ins) : partV true 2 x.cs 5 = .agg [bV x.bR, uV x.bN] := Eq.trans rfl rfl
@[go_sem high] theorem part_insW (x : Ins) : partV true 13 x.cs 0 = .agg x.cs := Eq.trans rfl rfl
@[go_sem high] theorem cells_ins (x : Ins) : (insC x).cells = x.cs := Eq.trans rfl rfl
@[go_sem high] theorem fits_ins (x : Ins) : (insC x).fits 13 = true := Eq.trans rfl rfl
@[go_sem high] theorem fits_ins2 (x : Ins) : (V.agg x.cs).fits 13 = true := Eq.trans rfl rfl
@[go_sem high] theorem len_ins (x : Ins) : x.cs.length = 13 := Eq.trans rfl rfl

theorem int_beq (a b : Int) : (a == b) = decide (a = b) := by rw [Bool.eq_iff_iff, beq_iff_eq, decide_eq_true_eq]

def useAB (op : Int) : Bool := decide (2 ≤ op) && decide (op ≤ 8) || (decide (op = 16) || decide (op = 17))
def use1 (op : Int) : Bool := decide (op = 1) || wrB op
def useA (op : Int) : Bool := use1 op || useAB op
def useB (op : Int) : Bool := !use1 op && useAB op
def isBr (op : Int) : Bool := decide (op = 16) || decide (op = 17)
/-- only what its Op needs -/
def blankI (x : Ins) : Ins :=
  { op := x.op, rd := if setB x.op then x.rd else 0, loc := if memB x.op then x.loc else 0, aR := useA x.op && x.aR, aN := if useA x.op then x.aN else 0, bR := useB x.op && x.bR, bN := if useB x.op then x.bN else 0,
    acq := memB x.op && x.acq, rel := memB x.op && x.rel, dep := if memB x.op then x.dep else 0, pred := if x.op = 15 then x.pred else 0, succ := if x.op = 15 then x.succ else 0, skip := if isBr x.op then x.skip else 0 }
def insEq (a b : Ins) : Bool := (eqCells [.int, .int, .int, .bool, .int, .bool, .int, .bool, .bool, .int, .int, .int, .int] a.cs b.cs).getD false
@[go_sem high] theorem eq_ins (a b : Ins) : eqCells [.int, .int, .int, .bool, .int, .bool, .int, .bool, .bool, .int, .int, .int, .int] a.cs b.cs = some (insEq a b) := Eq.trans rfl rfl
theorem insEq_iff {a b : Ins} : insEq a b = true ↔ a = b := by
  unfold insEq
  obtain ⟨a1, a2, a3, a4, a5, a6, a7, a8, a9, a10, a11, a12, a13⟩ := a
  obtain ⟨b1, b2, b3, b4, b5, b6, b7, b8, b9, b10, b11, b12, b13⟩ := b
  simp [Ins.cs, eqCells]

def err1 (x : Ins) : Bool := decide (x.op < 1) || (decide (17 < x.op) || !insEq (blankI x) x)
def err2 (x : Ins) : Bool := decide (x.rd < 0) || (decide (8 ≤ x.rd) || (!argOk x.aR x.aN || (!argOk x.bR x.bN || (decide (x.dep < 0) || decide (8 < x.dep)))))
def err3 (n : Nat) (x : Ins) : Bool := memB x.op && (decide (x.loc < 0) || decide ((n : Int) ≤ x.loc))
def err4 (x : Ins) : Bool := decide (x.op = 1) && x.aR
def err5 (x : Ins) : Bool := decide (x.op = 15) && (decide (x.pred < 1) || (decide (3 < x.pred) || (decide (x.succ < 1) || decide (3 < x.succ))))
def err6 (x : Ins) : Bool := x.acq && !rdB x.op || x.rel && !wrB x.op
def err7 (x : Ins) (left : Int) : Bool := decide (x.skip < 0) || decide (left < x.skip)
def insErr (n : Nat) (left : Int) (x : Ins) : Int :=
  if err1 x then 3 else if err2 x then 11 else if err3 n x then 11 else if err4 x then 3 else if err5 x then 3 else if err6 x then 3 else if err7 x left then 13 else 0

def strLe (a b : ByteArray) : Bool := Op.bytesLess a.toList b.toList || a.toList == b.toList
def prevLe (t : Tst) (i : Nat) (l : Ini) : Bool := decide (0 < i) && (match t.locs[i - 1]? with | some p => strLe l.name p.name | none => false)
def locErr (t : Tst) (i : Nat) (l : Ini) : Int := if nmB l.name = false then 11 else if prevLe t i l = true then 16 else 0
def thrErr (t : Tst) (_ : Nat) (l : List Ins) : Int := fe (fun i x => insErr t.locs.length ((l.length : Int) - i - 1) x) 0 l
def prevAsk (t : Tst) (i : Nat) (a : Atm) : Bool := decide (0 < i) && (match t.asks[i - 1]? with | some p => !beforeB p a | none => false)
def askErr2 (t : Tst) (i : Nat) (a : Atm) : Int := if askErr t a ≠ 0 then askErr t a else if prevAsk t i a = true then 16 else 0
def chkErr (t : Tst) : Int :=
  if sizeErr t ≠ 0 then sizeErr t else if fe (locErr t) 0 t.locs ≠ 0 then fe (locErr t) 0 t.locs else if fe (thrErr t) 0 t.ths ≠ 0 then fe (thrErr t) 0 t.ths else fe (askErr2 t) 0 t.asks
theorem sizeErr_zero {t : Tst} (h : sizeErr t = 0) : t.ths ≠ [] ∧ t.ths.length ≤ 4 ∧ t.locs.length ≤ 8 ∧ t.asks.length ≤ 40 ∧ (∀ x ∈ t.ths, x.length ≤ 8) ∧ events t.ths ≤ 8 := by
  unfold sizeErr at h
  split at h
  · cases h
  · rename_i h0
    split at h
    · cases h
    · rename_i h1
      split at h
      · cases h
      · rename_i h2
        split at h
        · cases h
        · rename_i h3
          unfold manyB at h1
          simp at h1
          exact ⟨h0, by omega, by omega, by omega, Classical.byContradiction h2, by omega⟩

/-! ## pairs; cut texts; message passing -/

def isPair (x : Ins) : Bool := decide (x.op = 13) || decide (x.op = 14)
def hasPairs (l : List (List Ins)) : Bool := l.any fun x => x.any isPair
theorem any_step {α : Type} {f : α → Bool} {l : List α} {i : Nat} {x : α} (h : l[i]? = some x) (h0 : (l.take i).any f = false) (hx : f x = false) : (l.take (i + 1)).any f = false := by
  rw [takeAt h, List.any_append, h0]; simp [hx]
theorem any_at {α : Type} {f : α → Bool} {l : List α} {i : Nat} {x : α} (h : l[i]? = some x) (hx : f x = true) : l.any f = true := List.any_eq_true.2 ⟨x, List.mem_of_getElem? h, hx⟩
def cutS (s : ByteArray) (n : Nat) : ByteArray := if n < s.size then s.extract 0 n else s
theorem cutS_le (s : ByteArray) (n : Nat) : (cutS s n).size ≤ n := by
  unfold cutS
  split
  · rw [ByteArray.size_extract]; omega
  · omega

def zI : Ins := { op := 0, rd := 0, loc := 0, aR := false, aN := 0, bR := false, bN := 0, acq := false, rel := false, dep := 0, pred := 0, succ := 0, skip := 0 }
def passing : Tst :=
  { locs := [⟨⟨#[120]⟩, 0⟩, ⟨⟨#[121]⟩, 0⟩], ths := [[{ zI with op := 10, aN := 1 }, { zI with op := 10, loc := 1, aN := 1 }], [{ zI with op := 9, loc := 1 }, { zI with op := 9, rd := 1 }]], asks := [] }

/-! ## registers that are set -/

def boolsC (f : Nat → Bool) : List V := (List.range 8).map fun r => bV (f r)
theorem boolsC_ext {f g : Nat → Bool} (h : ∀ r, r < 8 → f r = g r) : boolsC f = boolsC g := List.map_congr_left fun r hr => by rw [h r (List.mem_range.1 hr)]
@[go_sem] theorem boolsC_zero : [V.val (.bool false), .val (.bool false), .val (.bool false), .val (.bool false), .val (.bool false), .val (.bool false), .val (.bool false), .val (.bool false)] = boolsC fun _ => false := Eq.trans rfl rfl
@[go_sem high] theorem boolsC_len (f : Nat → Bool) : (boolsC f).length = 8 := Eq.trans rfl rfl
@[go_sem high] theorem boolsC_fits (f : Nat → Bool) : (V.agg (boolsC f)).fits 8 = true := Eq.trans rfl rfl
@[go_sem high] theorem boolsC_all (f : Nat → Bool) : partV true 8 (boolsC f) 0 = .agg (boolsC f) := Eq.trans rfl rfl
@[go_sem high] theorem boolsC_part (f : Nat → Bool) {r : Nat} (h : r < 8) : partV false 1 (boolsC f) r = bV (f r) := by
  simp [partV, boolsC, List.getD, List.getElem?_map, List.getElem?_range h]
@[go_sem high] theorem boolsC_put (f : Nat → Bool) {n : Nat} {b : Bool} (h : n < 8) : putPart (.agg (boolsC f)) n (bV b) = .agg (boolsC fun r => if r = n then b else f r) := by
  simp only [putPart, splice, V.cells]
  congr 1
  apply List.ext_getElem?
  intro i
  simp only [List.length_singleton]
  have hl : ((boolsC f).take n).length = n := by simp [boolsC]; omega
  by_cases h1 : i < n
  · rw [List.getElem?_append_left (by omega), List.getElem?_take, if_pos h1]
    simp [boolsC, List.getElem?_map, List.getElem?_range (show i < 8 by omega), show i ≠ n by omega]
  · rw [List.getElem?_append_right (by omega), hl]
    by_cases h2 : i = n
    · subst h2
      simp [boolsC, List.getElem?_map, List.getElem?_range h]
    · rw [List.getElem?_append_right (by simp; omega), List.getElem?_drop]
      simp only [List.length_singleton]
      rw [show n + 1 + (i - n - 1) = i by omega]
      by_cases h3 : i < 8
      · simp [boolsC, List.getElem?_map, List.getElem?_range h3, h2]
      · simp [boolsC, h3]

def setR (l : List Ins) (r : Nat) : Bool := l.any fun x => setB x.op && decide (x.rd = (r : Int))
theorem setR_nil : setR [] = fun _ => false := rfl
theorem setR_step {l : List Ins} {i : Nat} {x : Ins} (h : l[i]? = some x) (r : Nat) : setR (l.take (i + 1)) r = (setR (l.take i) r || (setB x.op && decide (x.rd = (r : Int)))) := by
  simp [setR, takeAt h]
def natV (l : List Nat) : List V := l.map fun n : Nat => iV (n : Int)
@[go_sem] theorem natV_len (l : List Nat) : (natV l).length = l.length := List.length_map ..
@[go_sem] theorem natV_take (l : List Nat) (n : Nat) : (natV l).take n = natV (l.take n) := (List.map_take ..).symm
@[go_sem] theorem natV_drop (l : List Nat) (n : Nat) : (natV l).drop n = natV (l.drop n) := (List.map_drop ..).symm
theorem natV_one (n : Nat) : natV [n] = [iV n] := rfl
@[go_sem] theorem natV_at (l : List Nat) (i : Nat) : (natV l)[i]? = l[i]?.map fun n : Nat => iV (n : Int) := List.getElem?_map ..
theorem natV_append (l m : List Nat) : natV (l ++ m) = natV l ++ natV m := List.map_append ..
theorem nl_natV (l : List Nat) : NL (.ro 1 (natV l)) := .ro fun v hv => by
  obtain ⟨a, _, rfl⟩ := List.mem_map.1 hv
  exact .cons (.val _) .nil
def upTo (f : Nat → Bool) (n : Nat) : List Nat := (List.range n).filter f
theorem upTo_yes {f : Nat → Bool} {n : Nat} (h : f n = true) : upTo f (n + 1) = upTo f n ++ [n] := by simp [upTo, List.range_succ, h]
theorem upTo_no {f : Nat → Bool} {n : Nat} (h : f n = false) : upTo f (n + 1) = upTo f n := by simp [upTo, List.range_succ, h]
theorem upTo_len (f : Nat → Bool) (n : Nat) : (upTo f n).length ≤ n := by have := List.length_filter_le f (List.range n); rw [List.length_range] at this; exact this

/-! ## few of a test -/

def cutI (x : Ini) : Ini := ⟨cutS x.name 20, x.v⟩
def few (t : Tst) : Tst := { locs := (t.locs.take 12).map cutI, ths := (t.ths.take 6).map fun l => l.take 12, asks := t.asks.take 50 }
def locP (l : List Ini) (i : Nat) : List Ini := (l.take i).map cutI
theorem locP_zero (l : List Ini) : locP l 0 = [] := by simp [locP]
theorem locP_step {l : List Ini} {i : Nat} {x : Ini} (h : l[i]? = some x) : locP l (i + 1) = locP l i ++ [cutI x] := by simp [locP, takeAt h]
theorem locP_len (l : List Ini) (i : Nat) : (locP l i).length ≤ i := by simp [locP]; omega
theorem locP_all {l : List Ini} (h : l.length ≤ 12) : locP l l.length = locP l 12 := by simp [locP, List.take_of_length_le h]
def thP (l : List (List Ins)) (i : Nat) : List (List Ins) := (l.take i).map fun x => x.take 12
theorem thP_zero (l : List (List Ins)) : thP l 0 = [] := by simp [thP]
theorem thP_step {l : List (List Ins)} {i : Nat} {x : List Ins} (h : l[i]? = some x) : thP l (i + 1) = thP l i ++ [x.take 12] := by simp [thP, takeAt h]
theorem thP_len (l : List (List Ins)) (i : Nat) : (thP l i).length ≤ i := by simp [thP]; omega
theorem thP_all {l : List (List Ins)} (h : l.length ≤ 6) : thP l l.length = thP l 6 := by simp [thP, List.take_of_length_le h]
theorem inis_one (x : Ini) : inis [x] = [iniC x] := rfl
theorem inis_nil : inis [] = [] := rfl
theorem thrs_one (x : List Ins) : thrs [x] = [.ro 13 (inss x)] := rfl
theorem thrs_nil : thrs [] = [] := rfl
theorem few_cs (t : Tst) : (few t).cs = [.ro 2 (inis (locP t.locs 12)), .ro 1 (thrs (thP t.ths 6)), .ro 3 (atms (t.asks.take 50))] := rfl
theorem inis_append (l m : List Ini) : inis (l ++ m) = inis l ++ inis m := List.map_append ..
theorem thrs_append (l m : List (List Ins)) : thrs (l ++ m) = thrs l ++ thrs m := List.map_append ..
@[go_sem] theorem inis_take (l : List Ini) (n : Nat) : (inis l).take n = inis (l.take n) := (List.map_take ..).symm
@[go_sem] theorem inis_drop (l : List Ini) (n : Nat) : (inis l).drop n = inis (l.drop n) := (List.map_drop ..).symm
@[go_sem] theorem thrs_take (l : List (List Ins)) (n : Nat) : (thrs l).take n = thrs (l.take n) := (List.map_take ..).symm
@[go_sem] theorem thrs_drop (l : List (List Ins)) (n : Nat) : (thrs l).drop n = thrs (l.drop n) := (List.map_drop ..).symm
@[go_sem] theorem inss_take (l : List Ins) (n : Nat) : (inss l).take n = inss (l.take n) := (List.map_take ..).symm
@[go_sem] theorem inss_drop (l : List Ins) (n : Nat) : (inss l).drop n = inss (l.drop n) := (List.map_drop ..).symm
@[go_sem] theorem atms_take (l : List Atm) (n : Nat) : (atms l).take n = atms (l.take n) := (List.map_take ..).symm
@[go_sem] theorem atms_drop (l : List Atm) (n : Nat) : (atms l).drop n = atms (l.drop n) := (List.map_drop ..).symm
@[go_sem high] theorem thrs_frz (l : List (List Ins)) (S : List Nat) (H : Heap) : (thrs l).map (elemF (frz S H 1)) = thrs l := by
  unfold thrs; rw [List.map_map]; exact List.map_congr_left fun x _ => rfl
@[go_sem high] theorem inis_frz (l : List Ini) (S : List Nat) (H : Heap) : (inis l).map (elemF (frz S H 1)) = inis l := by
  unfold inis; rw [List.map_map]; exact List.map_congr_left fun x _ => rfl
@[go_sem high] theorem inss_frz (l : List Ins) (S : List Nat) (H : Heap) : (inss l).map (elemF (frz S H 1)) = inss l := by
  unfold inss; rw [List.map_map]; exact List.map_congr_left fun x _ => rfl
@[go_sem high] theorem atms_frz (l : List Atm) (S : List Nat) (H : Heap) : (atms l).map (elemF (frz S H 1)) = atms l := by
  unfold atms; rw [List.map_map]; exact List.map_congr_left fun x _ => rfl

end Go.Proofs.Ytokdphmnlcmbbaa
