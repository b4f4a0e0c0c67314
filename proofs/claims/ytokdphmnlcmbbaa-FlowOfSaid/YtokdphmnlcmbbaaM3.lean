/- Texts put together, in order: W10, Glitg, Glitj, Glitd, Glite, Glitb, Glitc, Glitf, Sl20, W12, W13, Gflof, W14, W17, Sl21, Gflom, Gfloa, Gflob. -/
import Derived.Test.YtokdphmnlcmbbaaM2
set_option linter.unusedVariables false
set_option linter.unusedSimpArgs false
/- Litmus tests: what an instruction may be, plainly. -/
namespace Go.Proofs.Ytokdphmnlcmbbaa
open Go Go.Sl

@[go_sem high] theorem part_ins0 (x : Ins) : partV false 1 x.cs 0 = iV x.op := Eq.trans rfl rfl
@[go_sem high] theorem part_ins1 (x : Ins) : partV false 1 x.cs 1 = iV x.rd := Eq.trans rfl rfl
@[go_sem high] theorem part_ins2 (x : Ins) : partV false 1 x.cs 2 = iV x.loc := Eq.trans rfl rfl
@[go_sem high] theorem part_ins3 (x : Ins) : partV false 1 x.cs 3 = bV x.aR := Eq.trans rfl rfl
@[go_sem high] theorem part_ins4 (x : Ins) : partV false 1 x.cs 4 = uV x.aN := Eq.trans rfl rfl
@[go_sem high] theorem part_ins5 (x : Ins) : partV false 1 x.cs 5 = bV x.bR := Eq.trans rfl rfl
@[go_sem high] theorem part_ins6 (x : Ins) : partV false 1 x.cs 6 = uV x.bN := Eq.trans rfl rfl
@[go_sem high] theorem part_ins7 (x : Ins) : partV false 1 x.cs 7 = bV x.acq := Eq.trans rfl rfl
@[go_sem high] theorem part_ins8 (x : Ins) : partV false 1 x.cs 8 = bV x.rel := Eq.trans rfl rfl
@[go_sem high] theorem part_ins9 (x : Ins) : partV false 1 x.cs 9 = iV x.dep := Eq.trans rfl rfl
@[go_sem high] theorem part_ins10 (x : Ins) : partV false 1 x.cs 10 = iV x.pred := Eq.trans rfl rfl
@[go_sem high] theorem part_ins11 (x : Ins) : partV false 1 x.cs 11 = iV x.succ := Eq.trans rfl rfl
@[go_sem high] theorem part_ins12 (x : Ins) : partV false 1 x.cs 12 = iV x.skip := Eq.trans rfl rfl
@[go_sem high] theorem part_insA (x : Ins) : partV true 2 x.cs 3 = .agg [bV x.aR, uV x.aN] := Eq.trans rfl rfl
@[go_sem high] theorem part_insB (x : Ins) : partV true 2 x.cs 5 = .agg [bV x.bR, uV x.bN] := Eq.trans rfl rfl
@[go_sem high] theorem part_insW (x : Ins) : partV true 13 x.cs 0 = .agg x.cs := Eq.trans rfl rfl
@[go_sem high] theorem cells_ins (x : Ins) : (insC x).cells = x.cs := Eq.trans rfl rfl
@[go_sem high] theorem fits_ins (x : Ins) : (insC x).fits 13 = true := Eq.trans rfl rfl
@[go_sem high] theorem fits_ins2 (x : Ins) : (V.agg x.cs).fits 13 = true := Eq.trans rfl rfl
@[go_sem high] theorem len_ins (x : Ins) : x.cs.length = 13 := Eq.trans rfl rfl

theorem int_beq (a b : Int) : (a == b) = decide (a = b) := by rw [Bool.eq_iff_iff, beq_iff_eq, decide_eq_true_eq]

def useAB (op : Int) : Bool := decide (2 ≤ op) && decide (op ≤ 8) || (decide (op = 16) || decide (op = 17))
def use1 (op : Int) : Bool := decide (op = 1) || wrB op
def useA (op : Int) : Bool := use1 op || useAB op
def useB (op : Int) : Bool := !use1 op && useAB op
def isBr (op : Int) : Bool := decide (op = 16) || decide (op = 17)
/-- only what its Op needs -/
def blankI (x : Ins) : Ins :=
  { op := x.op, rd := if setB x.op then x.rd else 0, loc := if memB x.op then x.loc else 0, aR := useA x.op && x.aR, aN := if useA x.op then x.aN else 0, bR := useB x.op && x.bR, bN := if useB x.op then x.bN else 0,
    acq := memB x.op && x.acq, rel := memB x.op && x.rel, dep := if memB x.op then x.dep else 0, pred := if x.op = 15 then x.pred else 0, succ := if x.op = 15 then x.succ else 0, skip := if isBr x.op then x.skip else 0 }
def insEq (a b : Ins) : Bool := (eqCells [.int, .int, .int, .bool, .int, .bool, .int, .bool, .bool, .int, .int, .int, .int] a.cs b.cs).getD false
@[go_sem high] theorem eq_ins (a b : Ins) : eqCells [.int, .int, .int, .bool, .int, .bool, .int, .bool, .bool, .int, .int, .int, .int] a.cs b.cs = some (insEq a b) := Eq.trans rfl rfl
theorem insEq_iff {a b : Ins} : insEq a b = true ↔ a = b := by
  unfold insEq
  obtain ⟨a1, a2, a3, a4, a5, a6, a7, a8, a9, a10, a11, a12, a13⟩ := a
  obtain ⟨b1, b2, b3, b4, b5, b6, b7, b8, b9, b10, b11, b12, b13⟩ := b
  simp [Ins.cs, eqCells]

def err1 (x : Ins) : Bool := decide (x.op < 1) || (decide (17 < x.op) || !insEq (blankI x) x)
def err2 (x : Ins) : Bool := decide (x.rd < 0) || (decide (8 ≤ x.rd) || (!argOk x.aR x.aN || (!argOk x.bR x.bN || (decide (x.dep < 0) || decide (8 < x.dep)))))
def err3 (n : Nat) (x : Ins) : Bool := memB x.op && (decide (x.loc < 0) || decide ((n : Int) ≤ x.loc))
def err4 (x : Ins) : Bool := decide (x.op = 1) && x.aR
def err5 (x : Ins) : Bool := decide (x.op = 15) && (decide (x.pred < 1) || (decide (3 < x.pred) || (decide (x.succ < 1) || decide (3 < x.succ))))
def err6 (x : Ins) : Bool := x.acq && !rdB x.op || x.rel && !wrB x.op
def err7 (x : Ins) (left : Int) : Bool := decide (x.skip < 0) || decide (left < x.skip)
def insErr (n : Nat) (left : Int) (x : Ins) : Int :=
  if err1 x then 3 else if err2 x then 11 else if err3 n x then 11 else if err4 x then 3 else if err5 x then 3 else if err6 x then 3 else if err7 x left then 13 else 0

def strLe (a b : ByteArray) : Bool := Op.bytesLess a.toList b.toList || a.toList == b.toList
def prevLe (t : Tst) (i : Nat) (l : Ini) : Bool := decide (0 < i) && (match t.locs[i - 1]? with | some p => strLe l.name p.name | none => false)
def locErr (t : Tst) (i : Nat) (l : Ini) : Int := if nmB l.name = false then 11 else if prevLe t i l = true then 16 else 0
def thrErr (t : Tst) (_ : Nat) (l : List Ins) : Int := fe (fun i x => insErr t.locs.length ((l.length : Int) - i - 1) x) 0 l
def prevAsk (t : Tst) (i : Nat) (a : Atm) : Bool := decide (0 < i) && (match t.asks[i - 1]? with | some p => !beforeB p a | none => false)
def askErr2 (t : Tst) (i : Nat) (a : Atm) : Int := if askErr t a ≠ 0 then askErr t a else if prevAsk t i a = true then 16 else 0
def chkErr (t : Tst) : Int :=
  if sizeErr t ≠ 0 then sizeErr t else if fe (locErr t) 0 t.locs ≠ 0 then fe (locErr t) 0 t.locs else if fe (thrErr t) 0 t.ths ≠ 0 then fe (thrErr t) 0 t.ths else fe (askErr2 t) 0 t.asks
theorem sizeErr_zero {t : Tst} (h : sizeErr t = 0) : t.ths ≠ [] ∧ t.ths.length ≤ 4 ∧ t.locs.length ≤ 8 ∧ t.asks.length ≤ 40 ∧ (∀ x ∈ t.ths, x.length ≤ 8) ∧ events t.ths ≤ 8 := by
  unfold sizeErr at h
  split at h
  · cases h
  · rename_i h0
    split at h
    · cases h
    · rename_i h1
      split at h
      · cases h
      · rename_i h2
        split at h
        · cases h
        · rename_i h3
          unfold manyB at h1
          simp at h1
          exact ⟨h0, by omega, by omega, by omega, Classical.byContradiction h2, by omega⟩

/-! ## pairs; cut texts; message passing -/

def isPair (x : Ins) : Bool := decide (x.op = 13) || decide (x.op = 14)
def hasPairs (l : List (List Ins)) : Bool := l.any fun x => x.any isPair
theorem any_step {α : Type} {f : α → Bool} {l : List α} {i : Nat} {x : α} (h : l[i]? = some x) (h0 : (l.take i).any f = false) (hx : f x = false) : (l.take (i + 1)).any f = false := by
  rw [takeAt h, List.any_append, h0]; simp [hx]
theorem any_at {α : Type} {f : α → Bool} {l : List α} {i : Nat} {x : α} (h : l[i]? = some x) (hx : f x = true) : l.any f = true := List.any_eq_true.2 ⟨x, List.mem_of_getElem? h, hx⟩
def cutS (s : ByteArray) (n : Nat) : ByteArray := if n < s.size then s.extract 0 n else s
theorem cutS_le (s : ByteArray) (n : Nat) : (cutS s n).size ≤ n := by
  unfold cutS
  split
  · rw [ByteArray.size_extract]; omega
  · omega

def zI : Ins := { op := 0, rd := 0, loc := 0, aR := false, aN := 0, bR := false, bN := 0, acq := false, rel := false, dep := 0, pred := 0, succ := 0, skip := 0 }
def passing : Tst :=
  { locs := [⟨⟨#[120]⟩, 0⟩, ⟨⟨#[121]⟩, 0⟩], ths := [[{ zI with op := 10, aN := 1 }, { zI with op := 10, loc := 1, aN := 1 }], [{ zI with op := 9, loc := 1 }, { zI with op := 9, rd := 1 }]], asks := [] }

/-! ## registers that are set -/

def boolsC (f : Nat → Bool) : List V := (List.range 8).map fun r => bV (f r)
theorem boolsC_ext {f g : Nat → Bool} (h : ∀ r, r < 8 → f r = g r) : boolsC f = boolsC g := List.map_congr_left fun r hr => by rw [h r (List.mem_range.1 hr)]
@[go_sem] theorem boolsC_zero : [V.val (.bool false), .val (.bool false), .val (.bool false), .val (.bool false), .val (.bool false), .val (.bool false), .val (.bool false), .val (.bool false)] = boolsC fun _ => false := Eq.trans rfl rfl
@[go_sem high] theorem boolsC_len (f : Nat → Bool) : (boolsC f).length = 8 := Eq.trans rfl rfl
@[go_sem high] theorem boolsC_fits (f : Nat → Bool) : (V.agg (boolsC f)).fits 8 = true := Eq.trans rfl rfl
@[go_sem high] theorem boolsC_all (f : Nat → Bool) : partV true 8 (boolsC f) 0 = .agg (boolsC f) := Eq.trans rfl rfl
@[go_sem high] theorem boolsC_part (f : Nat → Bool) {r : Nat} (h : r < 8) : partV false 1 (boolsC f) r = bV (f r) := by
  simp [partV, boolsC, List.getD, List.getElem?_map, List.getElem?_range h]
@[go_sem high] theorem boolsC_put (f : Nat → Bool) {n : Nat} {b : Bool} (h : n < 8) : putPart (.agg (boolsC f)) n (bV b) = .agg (boolsC fun r => if r = n then b else f r) := by
  simp only [putPart, splice, V.cells]
  congr 1
  apply List.ext_getElem?
  intro i
  simp only [List.length_singleton]
  have hl : ((boolsC f).take n).length = n := by simp [boolsC]; omega
  by_cases h1 : i < n
  · rw [List.getElem?_append_left (by omega), List.getElem?_take, if_pos h1]
    simp [boolsC, List.getElem?_map, List.getElem?_range (show i < 8 by omega), show i ≠ n by omega]
  · rw [List.getElem?_append_right (by omega), hl]
    by_cases h2 : i = n
    · subst h2
      simp [boolsC, List.getElem?_map, List.getElem?_range h]
    · rw [List.getElem?_append_right (by simp; omega), List.getElem?_drop]
      simp only [List.length_singleton]
      rw [show n + 1 + (i - n - 1) = i by omega]
      by_cases h3 : i < 8
      · simp [boolsC, List.getElem?_map, List.getElem?_range h3, h2]
      · simp [boolsC, h3]

def setR (l : List Ins) (r : Nat) : Bool := l.any fun x => setB x.op && decide (x.rd = (r : Int))
theorem setR_nil : setR [] = fun _ => false := rfl
theorem setR_step {l : List Ins} {i : Nat} {x : Ins} (h : l[i]? = some x) (r : Nat) : setR (l.take (i + 1)) r = (setR (l.take i) r || (setB x.op && decide (x.rd = (r : Int)))) := by
  simp [setR, takeAt h]
def natV (l : List Nat) : List V := l.map fun n : Nat => iV (n : Int)
@[go_sem] theorem natV_len (l : List Nat) : (natV l).length = l.length := List.length_map ..
@[go_sem] theorem natV_take (l : List Nat) (n : Nat) : (natV l).take n = natV (l.take n) := (List.map_take ..).symm
@[go_sem] theorem natV_drop (l : List Nat) (n : Nat) : (natV l).drop n = natV (l.drop n) := (List.map_drop ..).symm
theorem natV_one (n : Nat) : natV [n] = [iV n] := rfl
@[go_sem] theorem natV_at (l : List Nat) (i : Nat) : (natV l)[i]? = l[i]?.map fun n : Nat => iV (n : Int) := List.getElem?_map ..
theorem natV_append (l m : List Nat) : natV (l ++ m) = natV l ++ natV m := List.map_append ..
theorem nl_natV (l : List Nat) : NL (.ro 1 (natV l)) := .ro fun v hv => by
  obtain ⟨a, _, rfl⟩ := List.mem_map.1 hv
  exact .cons (.val _) .nil
def upTo (f : Nat → Bool) (n : Nat) : List Nat := (List.range n).filter f
theorem upTo_yes {f : Nat → Bool} {n : Nat} (h : f n = true) : upTo f (n + 1) = upTo f n ++ [n] := by simp [upTo, List.range_succ, h]
theorem upTo_no {f : Nat → Bool} {n : Nat} (h : f n = false) : upTo f (n + 1) = upTo f n := by simp [upTo, List.range_succ, h]
theorem upTo_len (f : Nat → Bool) (n : Nat) : (upTo f n).length ≤ n := by have := List.length_filter_le f (List.range n); rw [List.length_range] at this; exact this

/-! ## few of a test -/

def cutI (x : Ini) : Ini := ⟨cutS x.name 20, x.v⟩
def few (t : Tst) : Tst := { locs := (t.locs.take 12).map cutI, ths := (t.ths.take 6).map fun l => l.take 12, asks := t.asks.take 50 }
def locP (l : List Ini) (i : Nat) : List Ini := (l.take i).map cutI
theorem locP_zero (l : List Ini) : locP l 0 = [] := by simp [locP]
theorem locP_step {l : List Ini} {i : Nat} {x : Ini} (h : l[i]? = some x) : locP l (i + 1) = locP l i ++ [cutI x] := by simp [locP, takeAt h]
theorem locP_len (l : List Ini) (i : Nat) : (locP l i).length ≤ i := by simp [locP]; omega
theorem locP_all {l : List Ini} (h : l.length ≤ 12) : locP l l.length = locP l 12 := by simp [locP, List.take_of_length_le h]
def thP (l : List (List Ins)) (i : Nat) : List (List Ins) := (l.take i).map fun x => x.take 12
theorem thP_zero (l : List (List Ins)) : thP l 0 = [] := by simp [thP]
theorem thP_step {l : List (List Ins)} {i : Nat} {x : List Ins} (h : l[i]? = some x) : thP l (i + 1) = thP l i ++ [x.take 12] := by simp [thP, takeAt h]
theorem thP_len (l : List (List Ins)) (i : Nat) : (thP l i).length ≤ i := by simp [thP]; omega
theorem thP_all {l : List (List Ins)} (h : l.length ≤ 6) : thP l l.length = thP l 6 := by simp [thP, List.take_of_length_le h]
theorem inis_one (x : Ini) : inis [x] = [iniC x] := rfl
theorem inis_nil : inis [] = [] := rfl
theorem thrs_one (x : List Ins) : thrs [x] = [.ro 13 (inss x)] := rfl
theorem thrs_nil : thrs [] = [] := rfl
theorem few_cs (t : Tst) : (few t).cs = [.ro 2 (inis (locP t.locs 12)), .ro 1 (thrs (thP t.ths 6)), .ro 3 (atms (t.asks.take 50))] := rfl
theorem inis_append (l m : List Ini) : inis (l ++ m) = inis l ++ inis m := List.map_append ..
theorem thrs_append (l m : List (List Ins)) : thrs (l ++ m) = thrs l ++ thrs m := List.map_append ..
@[go_sem] theorem inis_take (l : List Ini) (n : Nat) : (inis l).take n = inis (l.take n) := (List.map_take ..).symm
@[go_sem] theorem inis_drop (l : List Ini) (n : Nat) : (inis l).drop n = inis (l.drop n) := (List.map_drop ..).symm
@[go_sem] theorem thrs_take (l : List (List Ins)) (n : Nat) : (thrs l).take n = thrs (l.take n) := (List.map_take ..).symm
@[go_sem] theorem thrs_drop (l : List (List Ins)) (n : Nat) : (thrs l).drop n = thrs (l.drop n) := (List.map_drop ..).symm
@[go_sem] theorem inss_take (l : List Ins) (n : Nat) : (inss l).take n = inss (l.take n) := (List.map_take ..).symm
@[go_sem] theorem inss_drop (l : List Ins) (n : Nat) : (inss l).drop n = inss (l.drop n) := (List.map_drop ..).symm
@[go_sem] theorem atms_take (l : List Atm) (n : Nat) : (atms l).take n = atms (l.take n) := (List.map_take ..).symm
@[go_sem] theorem atms_drop (l : List Atm) (n : Nat) : (atms l).drop n = atms (l.drop n) := (List.map_drop ..).symm
@[go_sem high] theorem thrs_frz (l : List (List Ins)) (S : List Nat) (H : Heap) : (thrs l).map (elemF (frz S H 1)) = thrs l := by
  unfold thrs; rw [List.map_map]; exact List.map_congr_left fun x _ => rfl
@[go_sem high] theorem inis_frz (l : List Ini) (S : List Nat) (H : Heap) : (inis l).map (elemF (frz S H 1)) = inis l := by
  unfold inis; rw [List.map_map]; exact List.map_congr_left fun x _ => rfl
@[go_sem high] theorem inss_frz (l : List Ins) (S : List Nat) (H : Heap) : (inss l).map (elemF (frz S H 1)) = inss l := by
  unfold inss; rw [List.map_map]; exact List.map_congr_left fun x _ => rfl
@[go_sem high] theorem atms_frz (l : List Atm) (S : List Nat) (H : Heap) : (atms l).map (elemF (frz S H 1)) = atms l := by
  unfold atms; rw [List.map_map]; exact List.map_congr_left fun x _ => rfl

end Go.Proofs.Ytokdphmnlcmbbaa
/- Litmus tests: the walks of HasPairs, Cut, Passing. -/
namespace Go.Proofs.Ytokdphmnlcmbbaa
open Go Go.Sl Go.Proofs.Try

theorem Pf.seen_res' {P : Program} {f : FuncId} {args : List V} {r r' : V} (h : SeenAs r r') (p : Pf P f args r) : Pf P f args r' :=
  ⟨p.enters, fun ι O w cargs hO hv => (p.calls ι O w cargs hO hv).mono fun e w' ⟨cv, he, hr, h1⟩ => ⟨cv, he, h _ _ _ _ hr, h1⟩⟩

theorem cut_pf (s : ByteArray) (n : Nat) (hs : s.size ≤ 9223372036854775807) : Pf Try.prog 26 [.val (.string s), iV (n : Nat)] (.val (.string (cutS s n))) := by
  refine Pf.of_fn (.cons (.val _) (.cons (.val _) .nil)) (.val _) ?_
  refine fn_in T_ok func26 rfl rfl ntmps26 rfl (by simp) ?_
  refine region_k T_ok (by decide) fun K hK => ?_
  simp [go_sem]
  refine hK _ ?_; clear hK K
  refine seq_k fun K1 hK1 => ?_
  refine region_k T_ok (by decide) fun K hK => ?_
  simp [go_sem]
  refine hK _ ?_; clear hK K
  refine cond_k rfl (fun h => ?_) (fun h => ?_)
  · simp at h
    have hI := h
    have h' : n < s.size := by omega
    have hn0 : (0 : Int) ≤ (n : Nat) := by omega
    have hle : (n : Int) ≤ (s.size : Nat) := by omega
    have hle' : n ≤ s.size := by omega
    refine region_k T_ok (by decide) fun K hK => ?_
    simp [go_sem, hn0, hle, hle']
    refine hK _ ?_; clear hK K
    refine tr_ret ⟨.inr rfl, ?_⟩
    simp [go_sem, cutS, h']
  · simp at h
    have h' : ¬ n < s.size := by omega
    refine tr_skip ?_
    refine hK1 _ ?_; try clear hK1 K1
    refine region_k T_ok (by decide) fun K hK => ?_
    simp [go_sem]
    refine hK _ ?_; clear hK K
    refine tr_ret ⟨.inr rfl, ?_⟩
    simp [go_sem, cutS, h']

end Go.Proofs.Ytokdphmnlcmbbaa
/- Litmus tests: the walk of Few. -/
namespace Go.Proofs.Ytokdphmnlcmbbaa
open Go Go.Sl Go.Proofs.Try

set_option maxRecDepth 100000 in
set_option maxHeartbeats 16000000 in
theorem few_pf (t : Tst) (hs : ∀ l ∈ t.locs, l.name.size ≤ 9223372036854775807) : Pf Try.prog 11 [.agg t.cs] (.agg (few t).cs) := by
  refine Pf.of_fz 2 (.cons (.agg (nl_tst t)) .nil) (.agg (nl_tst _)) ?_
  refine fn_in T_ok func11 rfl rfl ntmps11 rfl (by simp) ?_
  refine region_k T_ok (by decide) fun K hK => ?_
  simp [go_sem, Tst.cs]
  refine hK _ ?_; clear hK K
  refine region_k T_ok (by decide) fun K hK => ?_
  simp [go_sem]
  refine hK _ ?_; clear hK K
  refine seq_to ⟨78, [(1, .ptr 0 0 0), (2, .ptr 1 0 0), (3, .ptr 2 0 0)], [(0, .rows 3 [.agg [.ro 2 (inis t.locs), .ro 1 (thrs t.ths), .ro 3 (atms t.asks)]]), (1, .rows 3 [.agg [.val (.slice none 0 0), .val (.slice none 0 0), .val (.slice none 0 0)]]), (2, .rows 3 [.agg [.ro 2 (inis (locP t.locs 12)), .sl 4 0 0, .sl 3 0 0]]), (4, .rows 1 []), (3, .rows 3 [])], 300⟩ ?_ ?_
  · skip
    refine region_k T_ok (by decide) fun K hK => ?_
    simp [go_sem]
    refine hK _ ?_; clear hK K
    refine tr_block ?_
    refine Tr.weaken (Weaker.ghostH (sz := 3) (es := [.agg [.val (.slice none 0 0), .val (.slice none 0 0), .val (.slice none 0 0)]]) 2 3 [.agg [.val (.slice none 0 0), .val (.slice none 0 0), .sl 3 0 0]] (by simp [Sl.look]) (by simp) (by simp) (by simp [V.fits, V.cells, V.one]) (by simp only [List.flatMap_cons, List.flatMap_nil, V.cells, List.append_nil]; exact .same (.same (.to .nil)))) ?_
    simp only [Sl.put, if_true, if_false, Nat.reduceEqDiff, reduceIte]
    refine Tr.weaken (Weaker.ghostH (sz := 3) (es := [.agg [.val (.slice none 0 0), .val (.slice none 0 0), .sl 3 0 0]]) 2 1 [.agg [.val (.slice none 0 0), .sl 4 0 0, .sl 3 0 0]] (by simp [Sl.look]) (by simp) (by simp) (by simp [V.fits, V.cells, V.one]) (by simp only [List.flatMap_cons, List.flatMap_nil, V.cells, List.append_nil]; exact .same (.to (.same .nil)))) ?_
    simp only [Sl.put, if_true, if_false, Nat.reduceEqDiff, reduceIte]
    refine Tr.weaken (Weaker.ghostH (sz := 3) (es := [.agg [.val (.slice none 0 0), .sl 4 0 0, .sl 3 0 0]]) 2 2 [.agg [.sl 5 0 0, .sl 4 0 0, .sl 3 0 0]] (by simp [Sl.look]) (by simp) (by simp) (by simp [V.fits, V.cells, V.one]) (by simp only [List.flatMap_cons, List.flatMap_nil, V.cells, List.append_nil]; exact .to (.same (.same .nil)))) ?_
    simp only [Sl.put, if_true, if_false, Nat.reduceEqDiff, reduceIte]
    refine loop_p (α := Nat × Nat × Nat) (fun a => ⟨78, [(1, .ptr 0 0 0), (2, .ptr 1 0 0), (3, .ptr 2 0 0), (4, iV (a.1 : Nat))], [(0, .rows 3 [.agg [.ro 2 (inis t.locs), .ro 1 (thrs t.ths), .ro 3 (atms t.asks)]]), (1, .rows 3 [.agg [.val (.slice none 0 0), .val (.slice none 0 0), .val (.slice none 0 0)]]), (2, .rows 3 [.agg [.sl a.2.2 0 (locP t.locs a.1).length, .sl 4 0 0, .sl 3 0 0]]), (a.2.2, .rows 2 (inis (locP t.locs a.1))), (4, .rows 1 []), (3, .rows 3 [])], a.2.1 + 6⟩) (fun a => a.1 ≤ t.locs.length ∧ a.1 ≤ 12 ∧ 4 < a.2.2 ∧ a.2.2 < a.2.1 + 6 ∧ a.2.1 = 18 * a.1) (fun a => 12 - a.1) (0, 0, 5) ?_ ?_ ?_
    · dsimp only; omega
    · refine Weaker.fz 1 0 ?_ ?_ ?_
      · simp [go_sem, locP_zero]
      · first | (simp; done) | (simp; omega)
      · simp [go_sem, Tst.cs, locP_zero, inis_nil]
    rintro ⟨i, j, m⟩ ⟨hi, hi2, hm1, hm2, hj⟩
    dsimp only at hi hi2 hm1 hm2 hj ⊢
    refine seq_k fun K1 hK1 => ?_
    refine region_k T_ok (by decide) fun K hK => ?_
    have hcase : (i < t.locs.length ∧ i < 12) ∨ (i < t.locs.length ∧ i = 12) ∨ i = t.locs.length := by omega
    rcases hcase with ⟨h1, h2⟩ | ⟨h1, rfl⟩ | h1
    · have h1I : (i : Int) < (t.locs.length : Nat) := by omega
      have h2I : (i : Int) < 12 := by omega
      simp [go_sem, h1, h2, h1I, h2I]
      refine hK _ ?_; clear hK K
      refine cond_k rfl (fun h => ?_) (fun h => ?_)
      · clear h
        obtain ⟨x, hx, hx'⟩ := getAt h1
        have hi0 : (0 : Int) ≤ (i : Nat) := by omega
        have hw : IntKind.i64.wrap ((i : Nat) + 1) = (i : Nat) + 1 := wrap_i64 (by omega) (by omega)
        have hsx := hs x (List.mem_of_getElem? hx)
        have hpl := locP_len t.locs i
        have n0 : ¬ m = 0 := by omega
        have q0 : ¬ 0 = m := by omega
        have n1 : ¬ m = 1 := by omega
        have q1 : ¬ 1 = m := by omega
        have n2 : ¬ m = 2 := by omega
        have q2 : ¬ 2 = m := by omega
        have n3 : ¬ m = 3 := by omega
        have q3 : ¬ 3 = m := by omega
        have n4 : ¬ m = 4 := by omega
        have q4 : ¬ 4 = m := by omega
        have n5 : ¬ m = j + 22 := by omega
        have q5 : ¬ j + 22 = m := by omega
        have n6 : ¬ m = j + 23 := by omega
        have q6 : ¬ j + 23 = m := by omega
        refine tr_skip ?_
        refine hK1 _ ?_; try clear hK1 K1
        refine seq_k fun K2 hK2 => ?_
        refine tr_block ?_
        refine draw_e T_ok (by kernel_rfl) 17 [[], [0], [], [2], [], [2, 3, 4], [2, 3, 4, 5], [2, 3, 4, 5, 6], [2, 3, 4, 5, 6, 7], [], [9], [], [9, 10, 11], [9, 10, 11, 12], [9, 10, 11, 12, 13], [2, 3, 4, 5, 6, 7, 8, 9, 10, 11, 12, 13, 14], [2, 3, 4, 5, 6, 7, 8, 9, 10, 11, 12, 13, 14, 15], [0, 1, 2, 3, 4, 5, 6, 7, 8, 9, 10, 11, 12, 13, 14, 15, 16], [0, 1, 2, 3, 4, 5, 6, 7, 8, 9, 10, 11, 12, 13, 14, 15, 16, 17], [0, 1, 2, 3, 4, 5, 6, 7, 8, 9, 10, 11, 12, 13, 14, 15, 16, 17, 18]] [(0, 16), (1, 16)] (by decide) (by decide) (by decide) fun K hK => ?_
        first | dsimp only [List.take, List.drop] | dsimp [List.take, List.drop]
        simp [go_sem, hx, hx', hi0, h1, h1I, iniC, Ini.cs, n0, q0, n1, q1, n2, q2, n3, q3, n4, q4, n5, q5, n6, q6]
        refine callD_of (cut_pf x.name 20 hsx) ?_
        simp [go_sem, hx, hx', hi0, h1, h1I, iniC, Ini.cs, n0, q0, n1, q1, n2, q2, n3, q3, n4, q4, n5, q5, n6, q6]
        refine ⟨by omega, ?_⟩
        refine hK _ ?_; clear hK K
        refine hK2 _ ?_; try clear hK2 K2
        refine region_e T_ok (by decide) fun K hK => ?_
        simp [go_sem, hw]
        refine hK _ ?_; clear hK K
        refine ⟨(i + 1, j + 18, j + 23), ?_, ?_, ?_⟩
        · dsimp only; omega
        · dsimp only; omega
        · refine Weaker.fz 1 0 ?_ ?_ ?_
          · simp [go_sem, locP_step hx]
          · first | (simp; done) | (simp; omega)
          simp [go_sem, locP_step hx, inis_append, inis_one, iniC, Ini.cs, cutI, n0, q0, n1, q1, n2, q2, n3, q3, n4, q4, n5, q5, n6, q6]
      · simp at h
    · have h1I : (12 : Int) < (t.locs.length : Nat) := by omega
      simp [go_sem, h1, h1I]
      refine hK _ ?_; clear hK K
      refine cond_k rfl (fun h => ?_) (fun h => ?_)
      · simp at h
      · have hla : True := trivial
        have n0 : ¬ m = 0 := by omega
        have q0 : ¬ 0 = m := by omega
        have n1 : ¬ m = 1 := by omega
        have q1 : ¬ 1 = m := by omega
        have n2 : ¬ m = 2 := by omega
        have q2 : ¬ 2 = m := by omega
        have n3 : ¬ m = 3 := by omega
        have q3 : ¬ 3 = m := by omega
        have n4 : ¬ m = 4 := by omega
        have q4 : ¬ 4 = m := by omega
        have n5 : ¬ m = j + 22 := by omega
        have q5 : ¬ j + 22 = m := by omega
        have n6 : ¬ m = j + 23 := by omega
        have q6 : ¬ j + 23 = m := by omega
        refine tr_exit ?_
        refine Weaker.fzk 1 1 (by omega) ?_ ?_ ?_
        · simp [go_sem, hla, n0, q0, n1, q1, n2, q2, n3, q3, n4, q4, n5, q5, n6, q6]
        · first | (simp; done) | (simp; omega)
        · simp [go_sem, hla, n0, q0, n1, q1, n2, q2, n3, q3, n4, q4, n5, q5, n6, q6]
    · simp [go_sem, h1]
      refine hK _ ?_; clear hK K
      refine cond_k rfl (fun h => ?_) (fun h => ?_)
      · simp at h
      · have hla := locP_all (l := t.locs) (by omega)
        have n0 : ¬ m = 0 := by omega
        have q0 : ¬ 0 = m := by omega
        have n1 : ¬ m = 1 := by omega
        have q1 : ¬ 1 = m := by omega
        have n2 : ¬ m = 2 := by omega
        have q2 : ¬ 2 = m := by omega
        have n3 : ¬ m = 3 := by omega
        have q3 : ¬ 3 = m := by omega
        have n4 : ¬ m = 4 := by omega
        have q4 : ¬ 4 = m := by omega
        have n5 : ¬ m = j + 22 := by omega
        have q5 : ¬ j + 22 = m := by omega
        have n6 : ¬ m = j + 23 := by omega
        have q6 : ¬ j + 23 = m := by omega
        refine tr_exit ?_
        refine Weaker.fzk 1 1 (by omega) ?_ ?_ ?_
        · simp [go_sem, hla, n0, q0, n1, q1, n2, q2, n3, q3, n4, q4, n5, q5, n6, q6]
        · first | (simp; done) | (simp; omega)
        · simp [go_sem, hla, n0, q0, n1, q1, n2, q2, n3, q3, n4, q4, n5, q5, n6, q6]
  · skip
    refine seq_to ⟨78, [(1, .ptr 0 0 0), (2, .ptr 1 0 0), (3, .ptr 2 0 0)], [(0, .rows 3 [.agg [.ro 2 (inis t.locs), .ro 1 (thrs t.ths), .ro 3 (atms t.asks)]]), (1, .rows 3 [.agg [.val (.slice none 0 0), .val (.slice none 0 0), .val (.slice none 0 0)]]), (2, .rows 3 [.agg [.ro 2 (inis (locP t.locs 12)), .ro 1 (thrs (thP t.ths 6)), .sl 3 0 0]]), (3, .rows 3 [])], 400⟩ ?_ ?_
    · skip
      refine region_k T_ok (by decide) fun K hK => ?_
      simp [go_sem]
      refine hK _ ?_; clear hK K
      refine tr_block ?_
      refine loop_p (α := Nat × Nat × Nat) (fun a => ⟨78, [(1, .ptr 0 0 0), (2, .ptr 1 0 0), (3, .ptr 2 0 0), (5, iV (a.1 : Nat))], [(0, .rows 3 [.agg [.ro 2 (inis t.locs), .ro 1 (thrs t.ths), .ro 3 (atms t.asks)]]), (1, .rows 3 [.agg [.val (.slice none 0 0), .val (.slice none 0 0), .val (.slice none 0 0)]]), (2, .rows 3 [.agg [.ro 2 (inis (locP t.locs 12)), .sl a.2.2 0 (thP t.ths a.1).length, .sl 3 0 0]]), (a.2.2, .rows 1 (thrs (thP t.ths a.1))), (3, .rows 3 [])], a.2.1 + 300⟩) (fun a => a.1 ≤ t.ths.length ∧ a.1 ≤ 6 ∧ 3 < a.2.2 ∧ a.2.2 < a.2.1 + 300 ∧ a.2.1 = 11 * a.1) (fun a => 6 - a.1) (0, 0, 4) ?_ ?_ ?_
      · dsimp only; omega
      · refine Weaker.fz 1 1 ?_ ?_ ?_
        · simp [go_sem, thP_zero]
        · first | (simp; done) | (simp; omega)
        · simp [go_sem, thP_zero, thrs_nil]
      rintro ⟨i, j, m⟩ ⟨hi, hi2, hm1, hm2, hj⟩
      dsimp only at hi hi2 hm1 hm2 hj ⊢
      refine seq_k fun K3 hK3 => ?_
      refine region_k T_ok (by decide) fun K hK => ?_
      have hcase : (i < t.ths.length ∧ i < 6) ∨ (i < t.ths.length ∧ i = 6) ∨ i = t.ths.length := by omega
      rcases hcase with ⟨h1, h2⟩ | ⟨h1, rfl⟩ | h1
      · have h1I : (i : Int) < (t.ths.length : Nat) := by omega
        have h2I : (i : Int) < 6 := by omega
        simp [go_sem, h1, h2, h1I, h2I]
        refine hK _ ?_; clear hK K
        refine cond_k rfl (fun h => ?_) (fun h => ?_)
        · clear h
          obtain ⟨l, hx, hx'⟩ := getAt h1
          have hi0 : (0 : Int) ≤ (i : Nat) := by omega
          have hw : IntKind.i64.wrap ((i : Nat) + 1) = (i : Nat) + 1 := wrap_i64 (by omega) (by omega)
          have hpl := thP_len t.ths i
          have n0 : ¬ m = 0 := by omega
          have q0 : ¬ 0 = m := by omega
          have n1 : ¬ m = 1 := by omega
          have q1 : ¬ 1 = m := by omega
          have n2 : ¬ m = 2 := by omega
          have q2 : ¬ 2 = m := by omega
          have n3 : ¬ m = 3 := by omega
          have q3 : ¬ 3 = m := by omega
          have n4 : ¬ m = j + 302 := by omega
          have q4 : ¬ j + 302 = m := by omega
          have n5 : ¬ m = j + 308 := by omega
          have q5 : ¬ j + 308 = m := by omega
          have n6 : ¬ m = j + 309 := by omega
          have q6 : ¬ j + 309 = m := by omega
          have n7 : ¬ m = j + 310 := by omega
          have q7 : ¬ j + 310 = m := by omega
          refine tr_skip ?_
          refine hK3 _ ?_; try clear hK3 K3
          refine seq_k fun K4 hK4 => ?_
          refine tr_block ?_
          refine region_k T_ok (by decide) fun K hK => ?_
          simp [go_sem, hx, hx', hi0, h1, h1I]
          refine hK _ ?_; clear hK K
          refine draw_e T_ok (by kernel_rfl) 10 [[], [0], [], [], [], [4], [4, 5], [3, 4, 5, 6], [2, 3, 4, 5, 6, 7], [2, 3, 4, 5, 6, 7, 8], [0, 1, 2, 3, 4, 5, 6, 7, 8, 9], [0, 1, 2, 3, 4, 5, 6, 7, 8, 9, 10], [0, 1, 2, 3, 4, 5, 6, 7, 8, 9, 10, 11]] [(0, 2), (1, 2), (2, 3), (2, 4), (2, 5), (2, 6), (2, 7), (0, 8), (1, 8), (0, 9), (1, 9)] (by decide) (by decide) (by decide) fun K hK => ?_
          first | dsimp only [List.take, List.drop] | dsimp [List.take, List.drop]
          rcases Nat.lt_or_ge 12 l.length with hl | hl
          · have hlI : (12 : Int) < (l.length : Nat) := by omega
            have hl2 : (12 : Int) ≤ (l.length : Nat) := by omega
            have hl3 : 12 ≤ l.length := by omega
            have ht12 : True := trivial
            have hm12 : 12 ≤ min 12 l.length := by omega
            simp [go_sem, hl, hlI, hl2, hl3, n0, q0, n1, q1, n2, q2, n3, q3, n4, q4, n5, q5, n6, q6, n7, q7]
            refine ⟨by omega, ?_⟩
            refine hK _ ?_; clear hK K
            refine hK4 _ ?_; try clear hK4 K4
            refine region_e T_ok (by decide) fun K hK => ?_
            simp [go_sem, hw]
            refine hK _ ?_; clear hK K
            refine ⟨(i + 1, j + 11, j + 310), ?_, ?_, ?_⟩
            · dsimp only; omega
            · dsimp only; omega
            · refine Weaker.fz 1 1 ?_ ?_ ?_
              · simp [go_sem, thP_step hx]
              · first | (simp; done) | (simp; omega)
              simp [go_sem, thP_step hx, thrs_append, thrs_one, ht12, hm12, List.take_take, n0, q0, n1, q1, n2, q2, n3, q3, n4, q4, n5, q5, n6, q6, n7, q7]
          · have hlI : ¬ (12 : Int) < (l.length : Nat) := by omega
            have hl2 : (0 : Int) ≤ (l.length : Nat) := by omega
            have hm12 : True := trivial
            have ht12 : l.take 12 = l := List.take_of_length_le hl
            simp [go_sem, hl, hlI, hl2, n0, q0, n1, q1, n2, q2, n3, q3, n4, q4, n5, q5, n6, q6, n7, q7]
            refine ⟨by omega, ?_⟩
            refine ⟨by omega, ?_⟩
            refine hK _ ?_; clear hK K
            refine hK4 _ ?_; try clear hK4 K4
            refine region_e T_ok (by decide) fun K hK => ?_
            simp [go_sem, hw]
            refine hK _ ?_; clear hK K
            refine ⟨(i + 1, j + 11, j + 310), ?_, ?_, ?_⟩
            · dsimp only; omega
            · dsimp only; omega
            · refine Weaker.fz 1 1 ?_ ?_ ?_
              · simp [go_sem, thP_step hx]
              · first | (simp; done) | (simp; omega)
              simp [go_sem, thP_step hx, thrs_append, thrs_one, ht12, hm12, List.take_take, n0, q0, n1, q1, n2, q2, n3, q3, n4, q4, n5, q5, n6, q6, n7, q7]
        · simp at h
      · have h1I : (6 : Int) < (t.ths.length : Nat) := by omega
        simp [go_sem, h1, h1I]
        refine hK _ ?_; clear hK K
        refine cond_k rfl (fun h => ?_) (fun h => ?_)
        · simp at h
        · have hla : True := trivial
          have n0 : ¬ m = 0 := by omega
          have q0 : ¬ 0 = m := by omega
          have n1 : ¬ m = 1 := by omega
          have q1 : ¬ 1 = m := by omega
          have n2 : ¬ m = 2 := by omega
          have q2 : ¬ 2 = m := by omega
          have n3 : ¬ m = 3 := by omega
          have q3 : ¬ 3 = m := by omega
          have n4 : ¬ m = j + 302 := by omega
          have q4 : ¬ j + 302 = m := by omega
          have n5 : ¬ m = j + 308 := by omega
          have q5 : ¬ j + 308 = m := by omega
          have n6 : ¬ m = j + 309 := by omega
          have q6 : ¬ j + 309 = m := by omega
          have n7 : ¬ m = j + 310 := by omega
          have q7 : ¬ j + 310 = m := by omega
          refine tr_exit ?_
          refine Weaker.fzk 1 1 (by omega) ?_ ?_ ?_
          · simp [go_sem, hla, n0, q0, n1, q1, n2, q2, n3, q3, n4, q4, n5, q5, n6, q6, n7, q7]
          · first | (simp; done) | (simp; omega)
          · simp [go_sem, hla, n0, q0, n1, q1, n2, q2, n3, q3, n4, q4, n5, q5, n6, q6, n7, q7]
      · simp [go_sem, h1]
        refine hK _ ?_; clear hK K
        refine cond_k rfl (fun h => ?_) (fun h => ?_)
        · simp at h
        · have hla := thP_all (l := t.ths) (by omega)
          have n0 : ¬ m = 0 := by omega
          have q0 : ¬ 0 = m := by omega
          have n1 : ¬ m = 1 := by omega
          have q1 : ¬ 1 = m := by omega
          have n2 : ¬ m = 2 := by omega
          have q2 : ¬ 2 = m := by omega
          have n3 : ¬ m = 3 := by omega
          have q3 : ¬ 3 = m := by omega
          have n4 : ¬ m = j + 302 := by omega
          have q4 : ¬ j + 302 = m := by omega
          have n5 : ¬ m = j + 308 := by omega
          have q5 : ¬ j + 308 = m := by omega
          have n6 : ¬ m = j + 309 := by omega
          have q6 : ¬ j + 309 = m := by omega
          have n7 : ¬ m = j + 310 := by omega
          have q7 : ¬ j + 310 = m := by omega
          refine tr_exit ?_
          refine Weaker.fzk 1 1 (by omega) ?_ ?_ ?_
          · simp [go_sem, hla, n0, q0, n1, q1, n2, q2, n3, q3, n4, q4, n5, q5, n6, q6, n7, q7]
          · first | (simp; done) | (simp; omega)
          · simp [go_sem, hla, n0, q0, n1, q1, n2, q2, n3, q3, n4, q4, n5, q5, n6, q6, n7, q7]
    · skip
      refine draw_k T_ok (by kernel_rfl) 9 [[], [0], [], [2], [], [4], [4, 5], [4, 5, 6], [2, 3, 4, 5, 6, 7], [0, 1, 2, 3, 4, 5, 6, 7, 8], [0, 1, 2, 3, 4, 5, 6, 7, 8, 9], [0, 1, 2, 3, 4, 5, 6, 7, 8, 9, 10]] [] (by decide) (by decide) (by decide) fun K hK => ?_
      first | dsimp only [List.take, List.drop] | dsimp [List.take, List.drop]
      rcases Nat.lt_or_ge 50 t.asks.length with hl | hl
      · have hlI : (50 : Int) < (t.asks.length : Nat) := by omega
        have hl2 : (50 : Int) ≤ (t.asks.length : Nat) := by omega
        have hl3 : 50 ≤ t.asks.length := by omega
        have ht50 : True := trivial
        have hm50 : 50 ≤ min 50 t.asks.length := by omega
        simp [go_sem, hl, hlI, hl2, hl3]
        refine hK _ ?_; clear hK K
        refine region_k T_ok (by decide) fun K hK => ?_
        simp [go_sem]
        refine hK _ ?_; clear hK K
        refine tr_ret ⟨.inr rfl, ?_⟩
        simp [go_sem, few_cs, ht50, hm50, List.take_take]
      · have hlI : ¬ (50 : Int) < (t.asks.length : Nat) := by omega
        have hl2 : (0 : Int) ≤ (t.asks.length : Nat) := by omega
        have hm50 : True := trivial
        have ht50 : t.asks.take 50 = t.asks := List.take_of_length_le hl
        simp [go_sem, hl, hlI, hl2]
        refine ⟨by omega, ?_⟩
        refine hK _ ?_; clear hK K
        refine region_k T_ok (by decide) fun K hK => ?_
        simp [go_sem]
        refine hK _ ?_; clear hK K
        refine tr_ret ⟨.inr rfl, ?_⟩
        simp [go_sem, few_cs, ht50, hm50, List.take_take]

end Go.Proofs.Ytokdphmnlcmbbaa
/- Litmus tests: the walk of blank of the package litmus. -/
namespace Go.Proofs.Ytokdphmnlcmbbaa
open Go Go.Sl Go.Proofs.Try

set_option maxRecDepth 100000 in
set_option maxHeartbeats 8000000 in
theorem blank_pf (x : Ins) : Pf Try.prog 41 [insC x] (insC (blankI x)) := by
  refine Pf.of_fn (.cons (nl_insC x) .nil) (nl_insC _) ?_
  refine fn_in T_ok func41 rfl rfl ntmps41 rfl (by simp) ?_
  refine region_k T_ok (by decide) fun K hK => ?_
  simp [go_sem, insC]
  refine hK _ ?_; clear hK K
  refine region_k T_ok (by decide) fun K hK => ?_
  simp [go_sem]
  refine hK _ ?_; clear hK K
  refine seq_to ⟨78, [(1, .ptr 0 0 0), (2, .ptr 1 0 0), (3, .ptr 2 0 0)], [(0, .rows 13 [.agg x.cs]), (1, .rows 13 [.agg [iV 0, iV 0, iV 0, bV false, uV 0, bV false, uV 0, bV false, bV false, iV 0, iV 0, iV 0, iV 0]]), (2, .rows 13 [.agg [iV x.op, iV (if setB x.op = true then x.rd else 0), iV 0, bV false, uV 0, bV false, uV 0, bV false, bV false, iV 0, iV 0, iV 0, iV 0]])], 3⟩ ?_ ?_
  · skip
    refine region_k T_ok (by decide) fun K hK => ?_
    simp [go_sem]
    refine call_pf (sets_pf x) ?_
    simp [go_sem]
    refine hK _ ?_; clear hK K
    refine cond_k rfl (fun h => ?_) (fun h => ?_)
    · have hs := h
      refine region_e T_ok (by decide) fun K hK => ?_
      simp [go_sem]
      refine hK _ ?_; clear hK K
      refine Weaker.fzk 1 0 (by omega) ?_ ?_ ?_
      · simp [go_sem, hs]
      · first | (simp; done) | (simp; omega)
      · simp [go_sem, hs]
    · have hs := h
      refine tr_skip ?_
      refine Weaker.fzk 1 0 (by omega) ?_ ?_ ?_
      · simp [go_sem, hs]
      · first | (simp; done) | (simp; omega)
      · simp [go_sem, hs]
  · skip
    refine seq_to ⟨78, [(1, .ptr 0 0 0), (2, .ptr 1 0 0), (3, .ptr 2 0 0)], [(0, .rows 13 [.agg x.cs]), (1, .rows 13 [.agg [iV 0, iV 0, iV 0, bV false, uV 0, bV false, uV 0, bV false, bV false, iV 0, iV 0, iV 0, iV 0]]), (2, .rows 13 [.agg [iV x.op, iV (if setB x.op = true then x.rd else 0), iV (if memB x.op = true then x.loc else 0), bV false, uV 0, bV false, uV 0, bV (memB x.op && x.acq), bV (memB x.op && x.rel), iV (if memB x.op = true then x.dep else 0), iV 0, iV 0, iV 0]])], 17⟩ ?_ ?_
    · skip
      refine region_k T_ok (by decide) fun K hK => ?_
      simp [go_sem]
      refine call_pf (ismem_pf x) ?_
      simp [go_sem]
      refine hK _ ?_; clear hK K
      refine cond_k rfl (fun h => ?_) (fun h => ?_)
      · have hm := h
        refine draw_e T_ok (by kernel_rfl) 14 [[], [0], [], [2], [], [4], [], [6], [0, 1], [0, 1, 8], [0, 1, 2, 3, 8, 9], [0, 1, 2, 3, 8, 9, 10], [0, 1, 2, 3, 4, 5, 8, 9, 10, 11], [0, 1, 2, 3, 4, 5, 8, 9, 10, 11, 12], [0, 1, 2, 3, 4, 5, 6, 7, 8, 9, 10, 11, 12, 13], [0, 1, 2, 3, 4, 5, 6, 7, 8, 9, 10, 11, 12, 13, 14]] [(2, 9), (3, 9), (4, 9), (5, 9), (6, 9), (7, 9), (4, 11), (5, 11), (6, 11), (7, 11), (6, 13), (7, 13)] (by decide) (by decide) (by decide) fun K hK => ?_
        first | dsimp only [List.take, List.drop] | dsimp [List.take, List.drop]
        simp [go_sem]
        refine hK _ ?_; clear hK K
        refine Weaker.fzk 1 0 (by omega) ?_ ?_ ?_
        · simp [go_sem, hm]
        · first | (simp; done) | (simp; omega)
        · simp [go_sem, hm]
      · have hm := h
        refine tr_skip ?_
        refine Weaker.fzk 1 0 (by omega) ?_ ?_ ?_
        · simp [go_sem, hm]
        · first | (simp; done) | (simp; omega)
        · simp [go_sem, hm]
    · skip
      refine seq_to ⟨78, [(1, .ptr 0 0 0), (2, .ptr 1 0 0), (3, .ptr 2 0 0)], [(0, .rows 13 [.agg x.cs]), (1, .rows 13 [.agg [iV 0, iV 0, iV 0, bV false, uV 0, bV false, uV 0, bV false, bV false, iV 0, iV 0, iV 0, iV 0]]), (2, .rows 13 [.agg [iV x.op, iV (if setB x.op = true then x.rd else 0), iV (if memB x.op = true then x.loc else 0), bV (useA x.op && x.aR), uV (if useA x.op = true then x.aN else 0), bV (useB x.op && x.bR), uV (if useB x.op = true then x.bN else 0), bV (memB x.op && x.acq), bV (memB x.op && x.rel), iV (if memB x.op = true then x.dep else 0), iV 0, iV 0, iV 0]])], 23⟩ ?_ ?_
      · skip
        refine tr_block ?_
        refine seq_to ⟨78, [(1, .ptr 0 0 0), (2, .ptr 1 0 0), (3, .ptr 2 0 0), (26, bV (use1 x.op))], [(0, .rows 13 [.agg x.cs]), (1, .rows 13 [.agg [iV 0, iV 0, iV 0, bV false, uV 0, bV false, uV 0, bV false, bV false, iV 0, iV 0, iV 0, iV 0]]), (2, .rows 13 [.agg [iV x.op, iV (if setB x.op = true then x.rd else 0), iV (if memB x.op = true then x.loc else 0), bV false, uV 0, bV false, uV 0, bV (memB x.op && x.acq), bV (memB x.op && x.rel), iV (if memB x.op = true then x.dep else 0), iV 0, iV 0, iV 0]])], 17⟩ ?_ ?_
        · skip
          refine region_k T_ok (by decide) fun K hK => ?_
          simp [go_sem]
          refine hK _ ?_; clear hK K
          refine cond_k rfl (fun h => ?_) (fun h => ?_)
          · simp at h
            have h1 : x.op = 1 := h
            refine tr_skip ?_
            refine Weaker.fzk 1 0 (by omega) ?_ ?_ ?_
            · simp [go_sem, use1, h1]
            · first | (simp; done) | (simp; omega)
            · simp [go_sem, use1, h1]
          · simp at h
            have h1 : ¬ x.op = 1 := h
            refine region_e T_ok (by decide) fun K hK => ?_
            simp [go_sem]
            refine call_pf (of_pf x) ?_
            simp [go_sem]
            refine hK _ ?_; clear hK K
            refine Weaker.fzk 1 0 (by omega) ?_ ?_ ?_
            · simp [go_sem, use1, h1]
            · first | (simp; done) | (simp; omega)
            · simp [go_sem, use1, h1]
        · skip
          refine cond_k rfl (fun h => ?_) (fun h => ?_)
          · have h1' : use1 x.op = true := h
            have h1 : True := trivial
            have hab' : True := trivial
            refine region_e T_ok (by decide) fun K hK => ?_
            simp [go_sem]
            refine hK _ ?_; clear hK K
            refine Weaker.fzk 1 0 (by omega) ?_ ?_ ?_
            · simp [go_sem, h1, h1', hab', useA, useB]
            · first | (simp; done) | (simp; omega)
            · simp [go_sem, h1, h1', hab', useA, useB]
          · have h1' : use1 x.op = false := h
            have h1 : True := trivial
            refine seq_to ⟨78, [(1, .ptr 0 0 0), (2, .ptr 1 0 0), (3, .ptr 2 0 0), (36, bV (useAB x.op)), (26, bV (use1 x.op))], [(0, .rows 13 [.agg x.cs]), (1, .rows 13 [.agg [iV 0, iV 0, iV 0, bV false, uV 0, bV false, uV 0, bV false, bV false, iV 0, iV 0, iV 0, iV 0]]), (2, .rows 13 [.agg [iV x.op, iV (if setB x.op = true then x.rd else 0), iV (if memB x.op = true then x.loc else 0), bV false, uV 0, bV false, uV 0, bV (memB x.op && x.acq), bV (memB x.op && x.rel), iV (if memB x.op = true then x.dep else 0), iV 0, iV 0, iV 0]])], 17⟩ ?_ ?_
            · skip
              refine region_to T_ok (by decide) ⟨78, [(1, .ptr 0 0 0), (2, .ptr 1 0 0), (3, .ptr 2 0 0), (26, bV (use1 x.op)), (36, bV (decide (2 ≤ x.op) && decide (x.op ≤ 8)))], [(0, .rows 13 [.agg x.cs]), (1, .rows 13 [.agg [iV 0, iV 0, iV 0, bV false, uV 0, bV false, uV 0, bV false, bV false, iV 0, iV 0, iV 0, iV 0]]), (2, .rows 13 [.agg [iV x.op, iV (if setB x.op = true then x.rd else 0), iV (if memB x.op = true then x.loc else 0), bV false, uV 0, bV false, uV 0, bV (memB x.op && x.acq), bV (memB x.op && x.rel), iV (if memB x.op = true then x.dep else 0), iV 0, iV 0, iV 0]])], 17⟩ ?_ ?_
              · by_cases c1 : 2 ≤ x.op
                · by_cases c2 : x.op ≤ 8
                  · simp [go_sem, c1, c2]
                    refine Weaker.fz 1 0 ?_ ?_ ?_
                    · simp [go_sem, c1, c2]
                    · first | (simp; done) | (simp; omega)
                    · simp [go_sem, c1, c2]
                  · simp [go_sem, c1, c2]
                    refine Weaker.fz 1 0 ?_ ?_ ?_
                    · simp [go_sem, c1, c2]
                    · first | (simp; done) | (simp; omega)
                    · simp [go_sem, c1, c2]
                · simp [go_sem, c1]
                  refine Weaker.fz 1 0 ?_ ?_ ?_
                  · simp [go_sem, c1]
                  · first | (simp; done) | (simp; omega)
                  · simp [go_sem, c1]
              · skip
                refine cond_k rfl (fun h => ?_) (fun h => ?_)
                · have hab : (decide (2 ≤ x.op) && decide (x.op ≤ 8)) = true := h
                  have h16 : True := trivial
                  refine tr_skip ?_
                  refine Weaker.fzk 1 0 (by omega) ?_ ?_ ?_
                  · simp [go_sem, useAB, hab, h16, int_beq]
                  · first | (simp; done) | (simp; omega)
                  · simp [go_sem, useAB, hab, h16, int_beq]
                · have hab : (decide (2 ≤ x.op) && decide (x.op ≤ 8)) = false := h
                  refine region_k T_ok (by decide) fun K hK => ?_
                  simp [go_sem]
                  refine hK _ ?_; clear hK K
                  refine cond_k rfl (fun h => ?_) (fun h => ?_)
                  · simp at h
                    have h16 : x.op = 16 := h
                    refine tr_skip ?_
                    refine Weaker.fzk 1 0 (by omega) ?_ ?_ ?_
                    · simp [go_sem, useAB, hab, h16, int_beq]
                    · first | (simp; done) | (simp; omega)
                    · simp [go_sem, useAB, hab, h16, int_beq]
                  · simp at h
                    have h16 : ¬ x.op = 16 := h
                    refine region_e T_ok (by decide) fun K hK => ?_
                    simp [go_sem]
                    refine hK _ ?_; clear hK K
                    refine Weaker.fzk 1 0 (by omega) ?_ ?_ ?_
                    · simp [go_sem, useAB, hab, h16, int_beq]
                    · first | (simp; done) | (simp; omega)
                    · simp [go_sem, useAB, hab, h16, int_beq]
            · skip
              refine cond_k rfl (fun h => ?_) (fun h => ?_)
              · have hab' : useAB x.op = true := h
                refine draw_e T_ok (by kernel_rfl) 6 [[], [0], [], [2], [0, 1], [0, 1, 4], [0, 1, 2, 3, 4, 5], [0, 1, 2, 3, 4, 5, 6]] [(2, 5), (3, 5)] (by decide) (by decide) (by decide) fun K hK => ?_
                first | dsimp only [List.take, List.drop] | dsimp [List.take, List.drop]
                simp [go_sem]
                refine hK _ ?_; clear hK K
                refine Weaker.fzk 1 0 (by omega) ?_ ?_ ?_
                · simp [go_sem, h1, h1', hab', useA, useB]
                · first | (simp; done) | (simp; omega)
                · simp [go_sem, h1, h1', hab', useA, useB]
              · have hab' : useAB x.op = false := h
                refine tr_skip ?_
                refine Weaker.fzk 1 0 (by omega) ?_ ?_ ?_
                · simp [go_sem, h1, h1', hab', useA, useB]
                · first | (simp; done) | (simp; omega)
                · simp [go_sem, h1, h1', hab', useA, useB]
      · skip
        refine seq_to ⟨78, [(1, .ptr 0 0 0), (2, .ptr 1 0 0), (3, .ptr 2 0 0)], [(0, .rows 13 [.agg x.cs]), (1, .rows 13 [.agg [iV 0, iV 0, iV 0, bV false, uV 0, bV false, uV 0, bV false, bV false, iV 0, iV 0, iV 0, iV 0]]), (2, .rows 13 [.agg [iV x.op, iV (if setB x.op = true then x.rd else 0), iV (if memB x.op = true then x.loc else 0), bV (useA x.op && x.aR), uV (if useA x.op = true then x.aN else 0), bV (useB x.op && x.bR), uV (if useB x.op = true then x.bN else 0), bV (memB x.op && x.acq), bV (memB x.op && x.rel), iV (if memB x.op = true then x.dep else 0), iV (if x.op = 15 then x.pred else 0), iV (if x.op = 15 then x.succ else 0), iV 0]])], 29⟩ ?_ ?_
        · skip
          refine region_k T_ok (by decide) fun K hK => ?_
          simp [go_sem]
          refine hK _ ?_; clear hK K
          refine cond_k rfl (fun h => ?_) (fun h => ?_)
          · simp at h
            have hf := h
            refine draw_e T_ok (by kernel_rfl) 6 [[], [0], [], [2], [0, 1], [0, 1, 4], [0, 1, 2, 3, 4, 5], [0, 1, 2, 3, 4, 5, 6]] [(2, 5), (3, 5)] (by decide) (by decide) (by decide) fun K hK => ?_
            first | dsimp only [List.take, List.drop] | dsimp [List.take, List.drop]
            simp [go_sem]
            refine hK _ ?_; clear hK K
            refine Weaker.fzk 1 0 (by omega) ?_ ?_ ?_
            · simp [go_sem, hf]
            · first | (simp; done) | (simp; omega)
            · simp [go_sem, hf]
          · simp at h
            have hf := h
            refine tr_skip ?_
            refine Weaker.fzk 1 0 (by omega) ?_ ?_ ?_
            · simp [go_sem, hf]
            · first | (simp; done) | (simp; omega)
            · simp [go_sem, hf]
        · skip
          refine seq_k fun K1 hK1 => ?_
          refine region_to T_ok (by decide) ⟨78, [(1, .ptr 0 0 0), (2, .ptr 1 0 0), (3, .ptr 2 0 0), (73, bV (isBr x.op))], [(0, .rows 13 [.agg x.cs]), (1, .rows 13 [.agg [iV 0, iV 0, iV 0, bV false, uV 0, bV false, uV 0, bV false, bV false, iV 0, iV 0, iV 0, iV 0]]), (2, .rows 13 [.agg [iV x.op, iV (if setB x.op = true then x.rd else 0), iV (if memB x.op = true then x.loc else 0), bV (useA x.op && x.aR), uV (if useA x.op = true then x.aN else 0), bV (useB x.op && x.bR), uV (if useB x.op = true then x.bN else 0), bV (memB x.op && x.acq), bV (memB x.op && x.rel), iV (if memB x.op = true then x.dep else 0), iV (if x.op = 15 then x.pred else 0), iV (if x.op = 15 then x.succ else 0), iV 0]])], 29⟩ ?_ ?_
          · by_cases c1 : x.op = 16
            · simp [go_sem, c1]
              refine Weaker.fz 1 0 ?_ ?_ ?_
              · simp [go_sem, c1, isBr]
              · first | (simp; done) | (simp; omega)
              · simp [go_sem, c1, isBr]
            · by_cases c2 : x.op = 17
              · simp [go_sem, c1, c2]
                refine Weaker.fz 1 0 ?_ ?_ ?_
                · simp [go_sem, c1, c2, isBr]
                · first | (simp; done) | (simp; omega)
                · simp [go_sem, c1, c2, isBr]
              · simp [go_sem, c1, c2]
                refine Weaker.fz 1 0 ?_ ?_ ?_
                · simp [go_sem, c1, c2, isBr]
                · first | (simp; done) | (simp; omega)
                · simp [go_sem, c1, c2, isBr]
          · skip
            refine cond_k rfl (fun h => ?_) (fun h => ?_)
            · have hb := h
              refine region_e T_ok (by decide) fun K hK => ?_
              simp [go_sem]
              refine hK _ ?_; clear hK K
              refine hK1 _ ?_; try clear hK1 K1
              refine region_k T_ok (by decide) fun K hK => ?_
              simp [go_sem]
              refine hK _ ?_; clear hK K
              refine tr_ret ⟨.inr rfl, ?_⟩
              simp [go_sem, insC, Ins.cs, blankI, hb]
            · have hb := h
              refine tr_skip ?_
              refine hK1 _ ?_; try clear hK1 K1
              refine region_k T_ok (by decide) fun K hK => ?_
              simp [go_sem]
              refine hK _ ?_; clear hK K
              refine tr_ret ⟨.inr rfl, ?_⟩
              simp [go_sem, insC, Ins.cs, blankI, hb]

end Go.Proofs.Ytokdphmnlcmbbaa
/- Litmus tests: the walk of check of the package litmus. -/
namespace Go.Proofs.Ytokdphmnlcmbbaa
open Go Go.Sl Go.Proofs.Try

set_option maxRecDepth 100000 in
set_option maxHeartbeats 16000000 in
theorem check_pf (t : Tst) (x : Ins) (left : Int) : Pf Try.prog 29 [.rp t.cs 0, insC x, iV left] (iV (insErr t.locs.length left x)) := by
  refine Pf.of_fn (.cons (nl_rp t) (.cons (nl_insC x) (.cons (.val _) .nil))) (.val _) ?_
  refine fn_in T_ok func29 rfl rfl ntmps29 rfl (by simp) ?_
  refine region_k T_ok (by decide) fun K hK => ?_
  simp [go_sem, insC]
  refine hK _ ?_; clear hK K
  refine seq_k fun K1 hK1 => ?_
  refine tr_block ?_
  refine draw_to T_ok (by kernel_rfl) 12 [[], [0], [0, 1], [0, 1, 2], [0, 1, 2, 3], [0, 1, 2, 3, 4], [0, 1, 2, 3, 4, 5], [0, 1, 2, 3, 4, 5, 6], [0, 1, 2, 3, 4, 5, 6, 7], [0, 1, 2, 3, 4, 5, 6, 7, 8], [0, 1, 2, 3, 4, 5, 6, 7, 8, 9], [0, 1, 2, 3, 4, 5, 6, 7, 8], [0, 1, 2, 3, 4, 5, 6, 7, 8, 9, 10, 11], [0, 1, 2, 3, 4, 5, 6, 7, 8, 9, 10, 11, 12], [0, 1, 2, 3, 4, 5, 6, 7, 8, 9, 10, 11, 12, 13]] [] (by decide) (by decide) (by decide) ⟨133, [(0, .rp t.cs 0), (2, iV left), (4, .ptr 0 0 0), (7, bV (err1 x))], [(0, .rows 13 [.agg x.cs])], 13⟩ ?_ ?_
  · first | dsimp only [List.take, List.drop] | dsimp [List.take, List.drop]
    by_cases c1 : x.op < 1
    · simp [go_sem, c1]
      refine Weaker.fz 1 0 ?_ ?_ ?_
      · simp [go_sem, c1, err1]
      · first | (simp; done) | (simp; omega)
      · simp [go_sem, c1, err1]
    · by_cases c2 : 17 < x.op
      · simp [go_sem, c1, c2]
        refine Weaker.fz 1 0 ?_ ?_ ?_
        · simp [go_sem, c1, c2, err1]
        · first | (simp; done) | (simp; omega)
        · simp [go_sem, c1, c2, err1]
      · simp [go_sem, c1, c2]
        refine callD_of (blank_pf x) ?_
        simp [go_sem, c1, c2, insC]
        refine Weaker.fz 1 0 ?_ ?_ ?_
        · simp [go_sem, c1, c2, err1]
        · first | (simp; done) | (simp; omega)
        · simp [go_sem, c1, c2, err1]
  · skip
    refine cond_k rfl (fun h => ?_) (fun h => ?_)
    · have e1 := h
      refine region_k T_ok (by decide) fun K hK => ?_
      simp [go_sem]
      refine hK _ ?_; clear hK K
      refine tr_ret ⟨.inr rfl, ?_⟩
      simp [go_sem, insErr, e1]
    · have e1 := h
      refine region_to T_ok (by decide) ⟨133, [(0, .rp t.cs 0), (2, iV left), (4, .ptr 0 0 0), (22, bV (err2 x))], [(0, .rows 13 [.agg x.cs])], 13⟩ ?_ ?_
      · by_cases c1 : x.rd < 0
        · simp [go_sem, c1]
          refine Weaker.fz 1 0 ?_ ?_ ?_
          · simp [go_sem, c1, err2]
          · first | (simp; done) | (simp; omega)
          · simp [go_sem, c1, err2]
        · by_cases c2 : 8 ≤ x.rd
          · simp [go_sem, c1, c2]
            refine Weaker.fz 1 0 ?_ ?_ ?_
            · simp [go_sem, c1, c2, err2]
            · first | (simp; done) | (simp; omega)
            · simp [go_sem, c1, c2, err2]
          · by_cases c3 : argOk x.aR x.aN = true
            · by_cases c4 : argOk x.bR x.bN = true
              · by_cases c5 : x.dep < 0
                · simp [go_sem, c1, c2, c3, c4, c5]
                  refine call_pf (goodArg_pf _ _) ?_
                  simp [go_sem, c1, c2, c3, c4, c5]
                  refine call_pf (goodArg_pf _ _) ?_
                  simp [go_sem, c1, c2, c3, c4, c5]
                  refine Weaker.fz 1 0 ?_ ?_ ?_
                  · simp [go_sem, c1, c2, c3, c4, c5, err2]
                  · first | (simp; done) | (simp; omega)
                  · simp [go_sem, c1, c2, c3, c4, c5, err2]
                · by_cases c6 : 8 < x.dep
                  · simp [go_sem, c1, c2, c3, c4, c5, c6]
                    refine call_pf (goodArg_pf _ _) ?_
                    simp [go_sem, c1, c2, c3, c4, c5, c6]
                    refine call_pf (goodArg_pf _ _) ?_
                    simp [go_sem, c1, c2, c3, c4, c5, c6]
                    refine Weaker.fz 1 0 ?_ ?_ ?_
                    · simp [go_sem, c1, c2, c3, c4, c5, c6, err2]
                    · first | (simp; done) | (simp; omega)
                    · simp [go_sem, c1, c2, c3, c4, c5, c6, err2]
                  · simp [go_sem, c1, c2, c3, c4, c5, c6]
                    refine call_pf (goodArg_pf _ _) ?_
                    simp [go_sem, c1, c2, c3, c4, c5, c6]
                    refine call_pf (goodArg_pf _ _) ?_
                    simp [go_sem, c1, c2, c3, c4, c5, c6]
                    refine Weaker.fz 1 0 ?_ ?_ ?_
                    · simp [go_sem, c1, c2, c3, c4, c5, c6, err2]
                    · first | (simp; done) | (simp; omega)
                    · simp [go_sem, c1, c2, c3, c4, c5, c6, err2]
              · simp [go_sem, c1, c2, c3, c4]
                refine call_pf (goodArg_pf _ _) ?_
                simp [go_sem, c1, c2, c3, c4]
                refine call_pf (goodArg_pf _ _) ?_
                simp [go_sem, c1, c2, c3, c4]
                refine Weaker.fz 1 0 ?_ ?_ ?_
                · simp [go_sem, c1, c2, c3, c4, err2]
                · first | (simp; done) | (simp; omega)
                · simp [go_sem, c1, c2, c3, c4, err2]
            · simp [go_sem, c1, c2, c3]
              refine call_pf (goodArg_pf _ _) ?_
              simp [go_sem, c1, c2, c3]
              refine Weaker.fz 1 0 ?_ ?_ ?_
              · simp [go_sem, c1, c2, c3, err2]
              · first | (simp; done) | (simp; omega)
              · simp [go_sem, c1, c2, c3, err2]
      · skip
        refine cond_k rfl (fun h => ?_) (fun h => ?_)
        · have e2 := h
          refine region_k T_ok (by decide) fun K hK => ?_
          simp [go_sem]
          refine hK _ ?_; clear hK K
          refine tr_ret ⟨.inr rfl, ?_⟩
          simp [go_sem, insErr, e1, e2]
        · have e2 := h
          refine draw_to T_ok (by kernel_rfl) 14 [[], [0], [0, 1], [0, 1, 2], [0, 1, 2, 3], [0, 1, 2, 3, 4], [0, 1, 2, 3, 4, 5], [0, 1, 2, 3, 4, 5, 6], [0, 1, 2, 3, 4, 5, 6, 7], [0, 1, 2, 3, 4, 5, 6], [0, 1, 2, 3, 4, 5, 6, 9], [0, 1, 2, 3, 4, 5, 6, 9, 10], [0, 1, 2, 3, 4, 5, 6, 9, 10, 11], [0, 1, 2, 3, 4, 5, 6, 9, 10, 11, 12], [0, 1, 2, 3, 4, 5, 6, 7, 8, 9, 10, 11, 12, 13], [0, 1, 2, 3, 4, 5, 6, 7, 8, 9, 10, 11, 12, 13, 14], [0, 1, 2, 3, 4, 5, 6, 7, 8, 9, 10, 11, 12, 13, 14, 15], [0, 1, 2, 3, 4, 5, 6, 7, 8, 9, 10, 11, 12, 13, 14, 15, 16]] [] (by decide) (by decide) (by decide) ⟨133, [(0, .rp t.cs 0), (2, iV left), (4, .ptr 0 0 0), (53, bV (err3 t.locs.length x))], [(0, .rows 13 [.agg x.cs])], 27⟩ ?_ ?_
          · first | dsimp only [List.take, List.drop] | dsimp [List.take, List.drop]
            by_cases c1 : memB x.op = true
            · by_cases c2 : x.loc < 0
              · simp [go_sem, c1, c2, Tst.cs]
                refine callD_of (ismem_pf x) ?_
                simp [go_sem, c1, c2, Tst.cs]
                refine Weaker.fz 1 0 ?_ ?_ ?_
                · simp [go_sem, Tst.cs, c1, c2, err3]
                · first | (simp; done) | (simp; omega)
                · simp [go_sem, c1, c2, err3]
              · by_cases c3 : (t.locs.length : Int) ≤ x.loc
                · simp [go_sem, c1, c2, c3, Tst.cs]
                  refine callD_of (ismem_pf x) ?_
                  simp [go_sem, c1, c2, c3, Tst.cs]
                  refine Weaker.fz 1 0 ?_ ?_ ?_
                  · simp [go_sem, Tst.cs, c1, c2, c3, err3]
                  · first | (simp; done) | (simp; omega)
                  · simp [go_sem, c1, c2, c3, err3]
                · simp [go_sem, c1, c2, c3, Tst.cs]
                  refine callD_of (ismem_pf x) ?_
                  simp [go_sem, c1, c2, c3, Tst.cs]
                  refine Weaker.fz 1 0 ?_ ?_ ?_
                  · simp [go_sem, Tst.cs, c1, c2, c3, err3]
                  · first | (simp; done) | (simp; omega)
                  · simp [go_sem, c1, c2, c3, err3]
            · simp [go_sem, c1, Tst.cs]
              refine callD_of (ismem_pf x) ?_
              simp [go_sem, c1, Tst.cs]
              refine Weaker.fz 1 0 ?_ ?_ ?_
              · simp [go_sem, Tst.cs, c1, err3]
              · first | (simp; done) | (simp; omega)
              · simp [go_sem, c1, err3]
          · skip
            refine cond_k rfl (fun h => ?_) (fun h => ?_)
            · have e3 := h
              refine region_k T_ok (by decide) fun K hK => ?_
              simp [go_sem]
              refine hK _ ?_; clear hK K
              refine tr_ret ⟨.inr rfl, ?_⟩
              simp [go_sem, insErr, e1, e2, e3]
            · have e3 := h
              refine region_to T_ok (by decide) ⟨133, [(0, .rp t.cs 0), (2, iV left), (4, .ptr 0 0 0), (71, bV (err4 x))], [(0, .rows 13 [.agg x.cs])], 27⟩ ?_ ?_
              · by_cases c1 : x.op = 1
                · by_cases c2 : x.aR = true
                  · simp [go_sem, c1, c2]
                    refine Weaker.fz 1 0 ?_ ?_ ?_
                    · simp [go_sem, c1, c2, err4]
                    · first | (simp; done) | (simp; omega)
                    · simp [go_sem, c1, c2, err4]
                  · simp [go_sem, c1, c2]
                    refine Weaker.fz 1 0 ?_ ?_ ?_
                    · simp [go_sem, c1, c2, err4]
                    · first | (simp; done) | (simp; omega)
                    · simp [go_sem, c1, c2, err4]
                · simp [go_sem, c1]
                  refine Weaker.fz 1 0 ?_ ?_ ?_
                  · simp [go_sem, c1, err4]
                  · first | (simp; done) | (simp; omega)
                  · simp [go_sem, c1, err4]
              · skip
                refine cond_k rfl (fun h => ?_) (fun h => ?_)
                · have e4 := h
                  refine region_k T_ok (by decide) fun K hK => ?_
                  simp [go_sem]
                  refine hK _ ?_; clear hK K
                  refine tr_ret ⟨.inr rfl, ?_⟩
                  simp [go_sem, insErr, e1, e2, e3, e4]
                · have e4 := h
                  refine region_to T_ok (by decide) ⟨133, [(0, .rp t.cs 0), (2, iV left), (4, .ptr 0 0 0), (80, bV (err5 x))], [(0, .rows 13 [.agg x.cs])], 27⟩ ?_ ?_
                  · by_cases c1 : x.op = 15
                    · by_cases c2 : x.pred < 1
                      · simp [go_sem, c1, c2]
                        refine Weaker.fz 1 0 ?_ ?_ ?_
                        · simp [go_sem, c1, c2, err5]
                        · first | (simp; done) | (simp; omega)
                        · simp [go_sem, c1, c2, err5]
                      · by_cases c3 : 3 < x.pred
                        · simp [go_sem, c1, c2, c3]
                          refine Weaker.fz 1 0 ?_ ?_ ?_
                          · simp [go_sem, c1, c2, c3, err5]
                          · first | (simp; done) | (simp; omega)
                          · simp [go_sem, c1, c2, c3, err5]
                        · by_cases c4 : x.succ < 1
                          · simp [go_sem, c1, c2, c3, c4]
                            refine Weaker.fz 1 0 ?_ ?_ ?_
                            · simp [go_sem, c1, c2, c3, c4, err5]
                            · first | (simp; done) | (simp; omega)
                            · simp [go_sem, c1, c2, c3, c4, err5]
                          · by_cases c5 : 3 < x.succ
                            · simp [go_sem, c1, c2, c3, c4, c5]
                              refine Weaker.fz 1 0 ?_ ?_ ?_
                              · simp [go_sem, c1, c2, c3, c4, c5, err5]
                              · first | (simp; done) | (simp; omega)
                              · simp [go_sem, c1, c2, c3, c4, c5, err5]
                            · simp [go_sem, c1, c2, c3, c4, c5]
                              refine Weaker.fz 1 0 ?_ ?_ ?_
                              · simp [go_sem, c1, c2, c3, c4, c5, err5]
                              · first | (simp; done) | (simp; omega)
                              · simp [go_sem, c1, c2, c3, c4, c5, err5]
                    · simp [go_sem, c1]
                      refine Weaker.fz 1 0 ?_ ?_ ?_
                      · simp [go_sem, c1, err5]
                      · first | (simp; done) | (simp; omega)
                      · simp [go_sem, c1, err5]
                  · skip
                    refine cond_k rfl (fun h => ?_) (fun h => ?_)
                    · have e5 := h
                      refine region_k T_ok (by decide) fun K hK => ?_
                      simp [go_sem]
                      refine hK _ ?_; clear hK K
                      refine tr_ret ⟨.inr rfl, ?_⟩
                      simp [go_sem, insErr, e1, e2, e3, e4, e5]
                    · have e5 := h
                      refine region_to T_ok (by decide) ⟨133, [(0, .rp t.cs 0), (2, iV left), (4, .ptr 0 0 0), (104, bV (err6 x))], [(0, .rows 13 [.agg x.cs])], 27⟩ ?_ ?_
                      · by_cases c1 : x.acq = true
                        · by_cases c2 : rdB x.op = true
                          · by_cases c3 : x.rel = true
                            · simp [go_sem, c1, c2, c3]
                              refine call_pf (of_pf x) ?_
                              simp [go_sem, c1, c2, c3]
                              refine call_pf (of_pf x) ?_
                              simp [go_sem, c1, c2, c3]
                              refine Weaker.fz 1 0 ?_ ?_ ?_
                              · simp [go_sem, c1, c2, c3, err6]
                              · first | (simp; done) | (simp; omega)
                              · simp [go_sem, c1, c2, c3, err6]
                            · simp [go_sem, c1, c2, c3]
                              refine call_pf (of_pf x) ?_
                              simp [go_sem, c1, c2, c3]
                              refine Weaker.fz 1 0 ?_ ?_ ?_
                              · simp [go_sem, c1, c2, c3, err6]
                              · first | (simp; done) | (simp; omega)
                              · simp [go_sem, c1, c2, c3, err6]
                          · simp [go_sem, c1, c2]
                            refine call_pf (of_pf x) ?_
                            simp [go_sem, c1, c2]
                            refine Weaker.fz 1 0 ?_ ?_ ?_
                            · simp [go_sem, c1, c2, err6]
                            · first | (simp; done) | (simp; omega)
                            · simp [go_sem, c1, c2, err6]
                        · by_cases c2 : x.rel = true
                          · simp [go_sem, c1, c2]
                            refine call_pf (of_pf x) ?_
                            simp [go_sem, c1, c2]
                            refine Weaker.fz 1 0 ?_ ?_ ?_
                            · simp [go_sem, c1, c2, err6]
                            · first | (simp; done) | (simp; omega)
                            · simp [go_sem, c1, c2, err6]
                          · simp [go_sem, c1, c2]
                            refine Weaker.fz 1 0 ?_ ?_ ?_
                            · simp [go_sem, c1, c2, err6]
                            · first | (simp; done) | (simp; omega)
                            · simp [go_sem, c1, c2, err6]
                      · skip
                        refine cond_k rfl (fun h => ?_) (fun h => ?_)
                        · have e6 := h
                          refine region_k T_ok (by decide) fun K hK => ?_
                          simp [go_sem]
                          refine hK _ ?_; clear hK K
                          refine tr_ret ⟨.inr rfl, ?_⟩
                          simp [go_sem, insErr, e1, e2, e3, e4, e5, e6]
                        · have e6 := h
                          refine region_to T_ok (by decide) ⟨133, [(0, .rp t.cs 0), (2, iV left), (4, .ptr 0 0 0), (123, bV (err7 x left))], [(0, .rows 13 [.agg x.cs])], 27⟩ ?_ ?_
                          · by_cases c1 : x.skip < 0
                            · simp [go_sem, c1]
                              refine Weaker.fz 1 0 ?_ ?_ ?_
                              · simp [go_sem, c1, err7]
                              · first | (simp; done) | (simp; omega)
                              · simp [go_sem, c1, err7]
                            · by_cases c2 : left < x.skip
                              · simp [go_sem, c1, c2]
                                refine Weaker.fz 1 0 ?_ ?_ ?_
                                · simp [go_sem, c1, c2, err7]
                                · first | (simp; done) | (simp; omega)
                                · simp [go_sem, c1, c2, err7]
                              · simp [go_sem, c1, c2]
                                refine Weaker.fz 1 0 ?_ ?_ ?_
                                · simp [go_sem, c1, c2, err7]
                                · first | (simp; done) | (simp; omega)
                                · simp [go_sem, c1, c2, err7]
                          · skip
                            refine cond_k rfl (fun h => ?_) (fun h => ?_)
                            · have e7 := h
                              refine region_k T_ok (by decide) fun K hK => ?_
                              simp [go_sem]
                              refine hK _ ?_; clear hK K
                              refine tr_ret ⟨.inr rfl, ?_⟩
                              simp [go_sem, insErr, e1, e2, e3, e4, e5, e6, e7]
                            · have e7 := h
                              refine tr_skip ?_
                              refine hK1 _ ?_; try clear hK1 K1
                              refine region_k T_ok (by decide) fun K hK => ?_
                              simp [go_sem]
                              refine hK _ ?_; clear hK K
                              refine tr_ret ⟨.inr rfl, ?_⟩
                              simp [go_sem, insErr, e1, e2, e3, e4, e5, e6, e7]

end Go.Proofs.Ytokdphmnlcmbbaa
/- Litmus tests: the walks of the package litmus, the second part. -/
namespace Go.Proofs.Ytokdphmnlcmbbaa
open Go Go.Sl Go.Proofs.Try

set_option maxRecDepth 100000 in
set_option maxHeartbeats 8000000 in
theorem checkAsk_pf (t : Tst) (a : Atm) : Pf Try.prog 30 [.rp t.cs 0, atmC a] (iV (askErr t a)) := by
  refine Pf.of_fn (.cons (nl_rp t) (.cons (nl_atmC a) .nil)) (.val _) ?_
  refine fn_in T_ok func30 rfl rfl ntmps30 rfl (by simp) ?_
  refine region_k T_ok (by decide) fun K hK => ?_
  simp [go_sem, atmC, Atm.cs, Tst.cs]
  refine hK _ ?_; clear hK K
  refine region_k T_ok (by decide) fun K hK => ?_
  simp [go_sem, atmC, Atm.cs, Tst.cs]
  refine hK _ ?_; clear hK K
  refine seq_k fun K1 hK1 => ?_
  refine region_k T_ok (by decide) fun K hK => ?_
  simp [go_sem, atmC, Atm.cs, Tst.cs]
  refine hK _ ?_; clear hK K
  refine cond_k rfl (fun h => ?_) (fun h => ?_)
  · simp at h
    have hth := h
    refine region_e T_ok (by decide) fun K hK => ?_
    simp [go_sem]
    refine hK _ ?_; clear hK K
    refine hK1 _ ?_; try clear hK1 K1
    refine seq_k fun K2 hK2 => ?_
    refine draw_to T_ok (by kernel_rfl) 22 [[], [0], [0, 1], [0, 1, 2], [0, 1, 2, 3], [0, 1, 2, 3, 4], [0, 1, 2, 3], [0, 1, 2, 3, 6], [0, 1, 2, 3, 6, 7], [0, 1, 2, 3, 6, 7, 8], [0, 1, 2, 3, 6, 7, 8, 9], [0, 1, 2, 3, 4, 5, 6, 7, 8, 9, 10], [0, 1, 2, 3, 4, 5, 6, 7, 8, 9, 10, 11], [0, 1, 2, 3, 4, 5, 6, 7, 8, 9, 10, 11, 12], [0, 1, 2, 3, 4, 5, 6, 7, 8, 9, 10, 11, 12, 13], [0, 1, 2, 3, 4, 5, 6, 7, 8, 9, 10, 11, 12, 13, 14], [0, 1, 2, 3, 4, 5, 6, 7, 8, 9, 10, 11, 12, 13, 14, 15], [0, 1, 2, 3, 4, 5, 6, 7, 8, 9, 10, 11, 12, 13, 14, 15, 16], [0, 1, 2, 3, 4, 5, 6, 7, 8, 9, 10, 11, 12, 13, 14, 15, 16, 17], [0, 1, 2, 3, 4, 5, 6, 7, 8, 9, 10, 11, 12, 13, 14, 15, 16, 17, 18], [0, 1, 2, 3, 4, 5, 6, 7, 8, 9, 10, 11, 12, 13, 14, 15, 16, 17, 18, 19], [0, 1, 2, 3, 4, 5, 6, 7, 8, 9, 10, 11, 12, 13, 14, 15, 16, 17, 18], [0, 1, 2, 3, 4, 5, 6, 7, 8, 9, 10, 11, 12, 13, 14, 15, 16, 17, 18, 19, 20, 21], [0, 1, 2, 3, 4, 5, 6, 7, 8, 9, 10, 11, 12, 13, 14, 15, 16, 17, 18, 19, 20, 21, 22]] [] (by decide) (by decide) (by decide) ⟨38, [(37, bV (askBad t a))], [], 23⟩ ?_ ?_
    · first | dsimp only [List.take, List.drop] | dsimp [List.take, List.drop]
      by_cases c1 : a.th < -1
      · simp [go_sem, c1, atmC, Atm.cs, Tst.cs]
        refine Weaker.fz 1 0 ?_ ?_ ?_
        · simp [go_sem, c1, askBad, askLim, hth]
        · first | (simp; done) | (simp; omega)
        · simp [go_sem, c1, askBad, askLim, hth]
      · by_cases c2 : (t.ths.length : Int) ≤ a.th
        · simp [go_sem, c1, c2, atmC, Atm.cs, Tst.cs]
          refine Weaker.fz 1 0 ?_ ?_ ?_
          · simp [go_sem, c1, c2, askBad, askLim, hth]
          · first | (simp; done) | (simp; omega)
          · simp [go_sem, c1, c2, askBad, askLim, hth]
        · by_cases c3 : a.at_ < 0
          · simp [go_sem, c1, c2, c3, atmC, Atm.cs, Tst.cs]
            refine Weaker.fz 1 0 ?_ ?_ ?_
            · simp [go_sem, c1, c2, c3, askBad, askLim, hth]
            · first | (simp; done) | (simp; omega)
            · simp [go_sem, c1, c2, c3, askBad, askLim, hth]
          · by_cases c4 : 8 ≤ a.at_
            · simp [go_sem, c1, c2, c3, c4, atmC, Atm.cs, Tst.cs]
              refine Weaker.fz 1 0 ?_ ?_ ?_
              · simp [go_sem, c1, c2, c3, c4, askBad, askLim, hth]
              · first | (simp; done) | (simp; omega)
              · simp [go_sem, c1, c2, c3, c4, askBad, askLim, hth]
            · simp [go_sem, c1, c2, c3, c4, atmC, Atm.cs, Tst.cs]
              refine Weaker.fz 1 0 ?_ ?_ ?_
              · simp [go_sem, c1, c2, c3, c4, askBad, askLim, hth]
              · first | (simp; done) | (simp; omega)
              · simp [go_sem, c1, c2, c3, c4, askBad, askLim, hth]
    · skip
      refine cond_k rfl (fun h => ?_) (fun h => ?_)
      · have hb := h
        refine region_k T_ok (by decide) fun K hK => ?_
        simp [go_sem]
        refine hK _ ?_; clear hK K
        refine tr_ret ⟨.inr rfl, ?_⟩
        simp [go_sem, askErr, hb]
      · have hb := h
        refine tr_skip ?_
        refine hK2 _ ?_; try clear hK2 K2
        refine region_k T_ok (by decide) fun K hK => ?_
        simp [go_sem]
        refine hK _ ?_; clear hK K
        refine tr_ret ⟨.inr rfl, ?_⟩
        simp [go_sem, askErr, hb]
  · simp at h
    have hth : ¬ 0 ≤ a.th := by omega
    refine tr_skip ?_
    refine hK1 _ ?_; try clear hK1 K1
    refine seq_k fun K3 hK3 => ?_
    refine draw_to T_ok (by kernel_rfl) 22 [[], [0], [0, 1], [0, 1, 2], [0, 1, 2, 3], [0, 1, 2, 3, 4], [0, 1, 2, 3], [0, 1, 2, 3, 6], [0, 1, 2, 3, 6, 7], [0, 1, 2, 3, 6, 7, 8], [0, 1, 2, 3, 6, 7, 8, 9], [0, 1, 2, 3, 4, 5, 6, 7, 8, 9, 10], [0, 1, 2, 3, 4, 5, 6, 7, 8, 9, 10, 11], [0, 1, 2, 3, 4, 5, 6, 7, 8, 9, 10, 11, 12], [0, 1, 2, 3, 4, 5, 6, 7, 8, 9, 10, 11, 12, 13], [0, 1, 2, 3, 4, 5, 6, 7, 8, 9, 10, 11, 12, 13, 14], [0, 1, 2, 3, 4, 5, 6, 7, 8, 9, 10, 11, 12, 13, 14, 15], [0, 1, 2, 3, 4, 5, 6, 7, 8, 9, 10, 11, 12, 13, 14, 15, 16], [0, 1, 2, 3, 4, 5, 6, 7, 8, 9, 10, 11, 12, 13, 14, 15, 16, 17], [0, 1, 2, 3, 4, 5, 6, 7, 8, 9, 10, 11, 12, 13, 14, 15, 16, 17, 18], [0, 1, 2, 3, 4, 5, 6, 7, 8, 9, 10, 11, 12, 13, 14, 15, 16, 17, 18, 19], [0, 1, 2, 3, 4, 5, 6, 7, 8, 9, 10, 11, 12, 13, 14, 15, 16, 17, 18], [0, 1, 2, 3, 4, 5, 6, 7, 8, 9, 10, 11, 12, 13, 14, 15, 16, 17, 18, 19, 20, 21], [0, 1, 2, 3, 4, 5, 6, 7, 8, 9, 10, 11, 12, 13, 14, 15, 16, 17, 18, 19, 20, 21, 22]] [] (by decide) (by decide) (by decide) ⟨38, [(37, bV (askBad t a))], [], 23⟩ ?_ ?_
    · first | dsimp only [List.take, List.drop] | dsimp [List.take, List.drop]
      by_cases c1 : a.th < -1
      · simp [go_sem, c1, atmC, Atm.cs, Tst.cs]
        refine Weaker.fz 1 0 ?_ ?_ ?_
        · simp [go_sem, c1, askBad, askLim, hth]
        · first | (simp; done) | (simp; omega)
        · simp [go_sem, c1, askBad, askLim, hth]
      · by_cases c2 : (t.ths.length : Int) ≤ a.th
        · simp [go_sem, c1, c2, atmC, Atm.cs, Tst.cs]
          refine Weaker.fz 1 0 ?_ ?_ ?_
          · simp [go_sem, c1, c2, askBad, askLim, hth]
          · first | (simp; done) | (simp; omega)
          · simp [go_sem, c1, c2, askBad, askLim, hth]
        · by_cases c3 : a.at_ < 0
          · simp [go_sem, c1, c2, c3, atmC, Atm.cs, Tst.cs]
            refine Weaker.fz 1 0 ?_ ?_ ?_
            · simp [go_sem, c1, c2, c3, askBad, askLim, hth]
            · first | (simp; done) | (simp; omega)
            · simp [go_sem, c1, c2, c3, askBad, askLim, hth]
          · by_cases c4 : (t.locs.length : Int) ≤ a.at_
            · simp [go_sem, c1, c2, c3, c4, atmC, Atm.cs, Tst.cs]
              refine Weaker.fz 1 0 ?_ ?_ ?_
              · simp [go_sem, c1, c2, c3, c4, askBad, askLim, hth]
              · first | (simp; done) | (simp; omega)
              · simp [go_sem, c1, c2, c3, c4, askBad, askLim, hth]
            · simp [go_sem, c1, c2, c3, c4, atmC, Atm.cs, Tst.cs]
              refine Weaker.fz 1 0 ?_ ?_ ?_
              · simp [go_sem, c1, c2, c3, c4, askBad, askLim, hth]
              · first | (simp; done) | (simp; omega)
              · simp [go_sem, c1, c2, c3, c4, askBad, askLim, hth]
    · skip
      refine cond_k rfl (fun h => ?_) (fun h => ?_)
      · have hb := h
        refine region_k T_ok (by decide) fun K hK => ?_
        simp [go_sem]
        refine hK _ ?_; clear hK K
        refine tr_ret ⟨.inr rfl, ?_⟩
        simp [go_sem, askErr, hb]
      · have hb := h
        refine tr_skip ?_
        refine hK3 _ ?_; try clear hK3 K3
        refine region_k T_ok (by decide) fun K hK => ?_
        simp [go_sem]
        refine hK _ ?_; clear hK K
        refine tr_ret ⟨.inr rfl, ?_⟩
        simp [go_sem, askErr, hb]

theorem events_pf (t : Tst) (ht : t.ths.length ≤ 1000) (hl : ∀ x ∈ t.ths, x.length ≤ 1000) (he : events t.ths ≤ 1000000) : Pf Try.prog 40 [.rp t.cs 0] (iV (events t.ths : Nat)) := by
  refine Pf.of_fn (.cons (nl_rp t) .nil) (.val _) ?_
  refine fn_in T_ok func40 rfl rfl ntmps40 rfl (by simp) ?_
  refine region_k T_ok (by decide) fun K hK => ?_
  simp [go_sem]
  refine hK _ ?_; clear hK K
  refine region_k T_ok (by decide) fun K hK => ?_
  simp [go_sem]
  refine hK _ ?_; clear hK K
  refine seq_k fun K1 hK1 => ?_
  refine region_k T_ok (by decide) fun K hK => ?_
  simp [go_sem, Tst.cs]
  refine hK _ ?_; clear hK K
  refine tr_block ?_
  refine loop_p (α := Nat × Nat) (fun a => ⟨37, [(3, iV (events (t.ths.take a.1) : Nat)), (12, .ro 1 (thrs t.ths)), (13, iV (t.ths.length : Nat)), (14, iV (a.1 : Nat))], [], a.2⟩) (fun a => a.1 ≤ t.ths.length) (fun a => t.ths.length - a.1) (0, 0) ?_ ?_ ?_
  · dsimp only; omega
  · refine Weaker.fz 1 0 ?_ ?_ ?_
    · simp [go_sem, events]
    · first | (simp; done) | (simp; omega)
    · simp [go_sem]
  rintro ⟨i, j⟩ hi
  dsimp only at hi ⊢
  refine region_k T_ok (by decide) fun K hK => ?_
  simp [go_sem]
  refine hK _ ?_; clear hK K
  refine seq_k fun K2 hK2 => ?_
  refine cond_k rfl (fun h => ?_) (fun h => ?_)
  · simp at h
    have hI := h
    clear h
    have h' : i < (t.ths).length := by omega
    obtain ⟨l, hx, hx'⟩ := getAt h'
    have hi0 : (0 : Int) ≤ (i : Nat) := by omega
    have hw : IntKind.i64.wrap ((i : Nat) + 1) = (i : Nat) + 1 := wrap_i64 (by omega) (by omega)
    have hll := hl l (List.mem_of_getElem? hx)
    refine tr_skip ?_
    refine hK2 _ ?_; try clear hK2 K2
    refine seq_k fun K3 hK3 => ?_
    refine tr_block ?_
    refine region_k T_ok (by decide) fun K hK => ?_
    simp [go_sem, hI, hx, hx', hi0, h']
    refine hK _ ?_; clear hK K
    refine region_k T_ok (by decide) fun K hK => ?_
    simp [go_sem, hI, hx, hx', hi0, h']
    refine hK _ ?_; clear hK K
    refine tr_block ?_
    refine loop_p (α := Nat × Nat) (fun b => ⟨37, [(3, iV (evP t.ths i l b.1 : Nat)), (12, .ro 1 (thrs t.ths)), (13, iV (t.ths.length : Nat)), (14, iV (i : Nat)), (18, .ro 13 (inss l)), (19, iV (l.length : Nat)), (20, iV (b.1 : Nat))], [], b.2⟩) (fun b => b.1 ≤ l.length) (fun b => l.length - b.1) (0, j) ?_ ?_ ?_
    · dsimp only; omega
    · refine Weaker.fz 1 0 ?_ ?_ ?_
      · simp [go_sem, evP_zero]
      · first | (simp; done) | (simp; omega)
      · simp [go_sem]
    rintro ⟨b, c⟩ hib
    dsimp only at hib ⊢
    refine region_k T_ok (by decide) fun K hK => ?_
    simp [go_sem]
    refine hK _ ?_; clear hK K
    refine seq_k fun K4 hK4 => ?_
    refine cond_k rfl (fun h => ?_) (fun h => ?_)
    · simp at h
      have hIb := h
      clear h
      have h'b : b < (l).length := by omega
      obtain ⟨x, hxb, hx'b⟩ := getAt h'b
      have hi0b : (0 : Int) ≤ (b : Nat) := by omega
      have hwb : IntKind.i64.wrap ((b : Nat) + 1) = (b : Nat) + 1 := wrap_i64 (by omega) (by omega)
      have hle := evP_le hx hxb
      refine tr_skip ?_
      refine hK4 _ ?_; try clear hK4 K4
      refine seq_k fun K5 hK5 => ?_
      refine tr_block ?_
      refine region_k T_ok (by decide) fun K hK => ?_
      simp [go_sem, hIb, hxb, hx'b, hi0b, h'b, insC, Ins.cs]
      refine hK _ ?_; clear hK K
      refine region_k T_ok (by decide) fun K hK => ?_
      simp [go_sem, insC, Ins.cs]
      refine call_pf (of_pf x) ?_
      simp [go_sem]
      refine hK _ ?_; clear hK K
      refine seq_to ⟨37, [(3, iV (evP t.ths i l b + (rdB x.op).toNat : Nat)), (8, .ptr (c + 1) 0 0), (12, .ro 1 (thrs t.ths)), (13, iV (t.ths.length : Nat)), (14, iV (i : Nat)), (18, .ro 13 (inss l)), (19, iV (l.length : Nat)), (20, iV (b : Nat))], [(c + 1, .rows 2 [.agg [bV (rdB x.op), bV (wrB x.op)]])], c + 2⟩ ?_ ?_
      · skip
        refine region_k T_ok (by decide) fun K hK => ?_
        simp [go_sem]
        refine hK _ ?_; clear hK K
        refine cond_k rfl (fun h => ?_) (fun h => ?_)
        · have hr := h
          rw [hr] at hle
          simp only [Bool.toNat_true] at hle
          have hwr : IntKind.i64.wrap (((evP t.ths i l b : Nat) : Int) + 1) = ((evP t.ths i l b : Nat) : Int) + 1 := wrap_i64 (by omega) (by omega)
          refine region_e T_ok (by decide) fun K hK => ?_
          simp [go_sem, hwr]
          refine hK _ ?_; clear hK K
          refine Weaker.fzk 1 0 (by omega) ?_ ?_ ?_
          · simp [go_sem, hr]
          · first | (simp; done) | (simp; omega)
          · simp [go_sem, hr]
        · have hr := h
          have hwr : True := trivial
          refine tr_skip ?_
          refine Weaker.fzk 1 0 (by omega) ?_ ?_ ?_
          · simp [go_sem, hr]
          · first | (simp; done) | (simp; omega)
          · simp [go_sem, hr]
      · skip
        refine region_k T_ok (by decide) fun K hK => ?_
        simp [go_sem]
        refine hK _ ?_; clear hK K
        refine cond_k rfl (fun h => ?_) (fun h => ?_)
        · have hw2 := h
          rw [hw2] at hle
          simp only [Bool.toNat_true] at hle
          have hwr2 : IntKind.i64.wrap (((evP t.ths i l b : Nat) : Int) + (((rdB x.op).toNat : Nat) : Int) + 1) = ((evP t.ths i l b : Nat) : Int) + (((rdB x.op).toNat : Nat) : Int) + 1 := wrap_i64 (by omega) (by omega)
          refine region_e T_ok (by decide) fun K hK => ?_
          simp [go_sem, hwr2]
          refine hK _ ?_; clear hK K
          refine hK5 _ ?_; try clear hK5 K5
          refine region_e T_ok (by decide) fun K hK => ?_
          simp [go_sem, hwb]
          refine hK _ ?_; clear hK K
          refine ⟨(b + 1, c + 2), ?_, ?_, ?_⟩
          · dsimp only; omega
          · dsimp only; omega
          · refine Weaker.fz 1 0 ?_ ?_ ?_
            · simp [go_sem, evP_step hxb, hw2]
            · first | (simp; done) | (simp; omega)
            simp [go_sem]
        · have hw2 := h
          refine tr_skip ?_
          refine hK5 _ ?_; try clear hK5 K5
          refine region_e T_ok (by decide) fun K hK => ?_
          simp [go_sem, hwb]
          refine hK _ ?_; clear hK K
          refine ⟨(b + 1, c + 2), ?_, ?_, ?_⟩
          · dsimp only; omega
          · dsimp only; omega
          · refine Weaker.fz 1 0 ?_ ?_ ?_
            · simp [go_sem, evP_step hxb, hw2]
            · first | (simp; done) | (simp; omega)
            simp [go_sem]
    · simp at h
      obtain rfl : b = l.length := by omega
      refine tr_exit ?_
      refine hK3 _ ?_; try clear hK3 K3
      refine region_e T_ok (by decide) fun K hK => ?_
      simp [go_sem, hw]
      refine hK _ ?_; clear hK K
      refine ⟨(i + 1, c), ?_, ?_, ?_⟩
      · dsimp only; omega
      · dsimp only; omega
      · refine Weaker.fz 1 0 ?_ ?_ ?_
        · simp [go_sem, evP_end hx]
        · first | (simp; done) | (simp; omega)
        simp [go_sem]
  · simp at h
    obtain rfl : i = t.ths.length := by omega
    refine tr_exit ?_
    refine hK1 _ ?_; try clear hK1 K1
    refine region_k T_ok (by decide) fun K hK => ?_
    simp [go_sem]
    refine hK _ ?_; clear hK K
    refine tr_ret ⟨.inr rfl, ?_⟩
    simp [go_sem]

end Go.Proofs.Ytokdphmnlcmbbaa
/- Litmus tests: the walks of the package litmus: names, sizes. -/
namespace Go.Proofs.Ytokdphmnlcmbbaa
open Go Go.Sl Go.Proofs.Try

@[go_sem] theorem str_nil (s : ByteArray) : (s.toList = []) = (s.size = 0) := by
  rw [ByteArray.toList_eq]
  obtain ⟨⟨x⟩⟩ := s
  cases x with
  | nil => exact propext ⟨fun _ => rfl, fun _ => rfl⟩
  | cons a l => exact propext ⟨fun h => by simp at h, fun h => by simp [ByteArray.size] at h⟩
@[go_sem] theorem str_empty (s : ByteArray) : s.toList.isEmpty = decide (s.size = 0) := by
  rw [Bool.eq_iff_iff, List.isEmpty_iff, decide_eq_true_eq, str_nil]

set_option maxRecDepth 100000 in
set_option maxHeartbeats 8000000 in
theorem name_pf (s : ByteArray) (hs : s.size ≤ 1000000) : Pf Try.prog 28 [.val (.string s)] (bV (nmB s)) := by
  refine Pf.of_fn (.cons (.val _) .nil) (.val _) ?_
  refine fn_in T_ok func28 rfl rfl ntmps28 rfl (by simp) ?_
  refine region_k T_ok (by decide) fun K hK => ?_
  simp [go_sem]
  refine hK _ ?_; clear hK K
  refine seq_k fun K1 hK1 => ?_
  refine region_k T_ok (by decide) fun K hK => ?_
  simp [go_sem]
  refine hK _ ?_; clear hK K
  refine tr_block ?_
  refine loop_p (α := Nat) (fun a => ⟨53, [(0, .val (.string s)), (5, .val (.string s)), (6, iV (s.size : Nat)), (7, iV (a : Nat))], [], 0⟩) (fun a => a ≤ s.size ∧ okCs s a = true) (fun a => s.size - a) 0 ?_ ?_ ?_
  · exact ⟨by omega, rfl⟩
  · refine Weaker.fz 1 0 ?_ ?_ ?_
    · simp [go_sem]
    · first | (simp; done) | (simp; omega)
    · simp [go_sem]
  rintro i ⟨hi, hok⟩
  try dsimp only
  refine region_k T_ok (by decide) fun K hK => ?_
  simp [go_sem]
  refine hK _ ?_; clear hK K
  refine seq_k fun K2 hK2 => ?_
  refine cond_k rfl (fun h => ?_) (fun h => ?_)
  · simp at h
    have h' : i < s.size := by omega
    have hi0 : (0 : Int) ≤ (i : Nat) := by omega
    have hw : IntKind.i64.wrap ((i : Nat) + 1) = (i : Nat) + 1 := wrap_i64 (by omega) (by omega)
    refine tr_skip ?_
    refine hK2 _ ?_; try clear hK2 K2
    refine seq_k fun K3 hK3 => ?_
    refine tr_block ?_
    refine region_k T_ok (by decide) fun K hK => ?_
    simp [go_sem]
    refine hK _ ?_; clear hK K
    refine region_k T_ok (by decide) fun K hK => ?_
    simp [go_sem, h']
    refine hK _ ?_; clear hK K
    refine region_to T_ok (by decide) ⟨53, [(0, .val (.string s)), (5, .val (.string s)), (6, iV (s.size : Nat)), (7, iV (i : Nat)), (31, bV (!okC i (chI s i)))], [], 0⟩ ?_ ?_
    · generalize chI s i = c
      by_cases c1 : 97 ≤ c
      · by_cases c2 : c ≤ 122
        · simp [go_sem, c1, c2]
          refine Weaker.fz 1 0 ?_ ?_ ?_
          · simp [go_sem, c1, c2, okC]
          · first | (simp; done) | (simp; omega)
          · simp [go_sem, c1, c2, okC]
        · by_cases c3 : 0 < i
          · by_cases c4 : 48 ≤ c
            · by_cases c5 : c ≤ 57
              · simp [go_sem, c1, c2, c3, c4, c5]
                refine Weaker.fz 1 0 ?_ ?_ ?_
                · simp [go_sem, c1, c2, c3, c4, c5, okC]
                · first | (simp; done) | (simp; omega)
                · simp [go_sem, c1, c2, c3, c4, c5, okC]
              · simp [go_sem, c1, c2, c3, c4, c5]
                refine Weaker.fz 1 0 ?_ ?_ ?_
                · simp [go_sem, c1, c2, c3, c4, c5, okC]
                · first | (simp; done) | (simp; omega)
                · simp [go_sem, c1, c2, c3, c4, c5, okC]
            · simp [go_sem, c1, c2, c3, c4]
              refine Weaker.fz 1 0 ?_ ?_ ?_
              · simp [go_sem, c1, c2, c3, c4, okC]
              · first | (simp; done) | (simp; omega)
              · simp [go_sem, c1, c2, c3, c4, okC]
          · simp [go_sem, c1, c2, c3]
            refine Weaker.fz 1 0 ?_ ?_ ?_
            · simp [go_sem, c1, c2, c3, okC]
            · first | (simp; done) | (simp; omega)
            · simp [go_sem, c1, c2, c3, okC]
      · by_cases c2 : 0 < i
        · by_cases c3 : 48 ≤ c
          · by_cases c4 : c ≤ 57
            · simp [go_sem, c1, c2, c3, c4]
              refine Weaker.fz 1 0 ?_ ?_ ?_
              · simp [go_sem, c1, c2, c3, c4, okC]
              · first | (simp; done) | (simp; omega)
              · simp [go_sem, c1, c2, c3, c4, okC]
            · simp [go_sem, c1, c2, c3, c4]
              refine Weaker.fz 1 0 ?_ ?_ ?_
              · simp [go_sem, c1, c2, c3, c4, okC]
              · first | (simp; done) | (simp; omega)
              · simp [go_sem, c1, c2, c3, c4, okC]
          · simp [go_sem, c1, c2, c3]
            refine Weaker.fz 1 0 ?_ ?_ ?_
            · simp [go_sem, c1, c2, c3, okC]
            · first | (simp; done) | (simp; omega)
            · simp [go_sem, c1, c2, c3, okC]
        · simp [go_sem, c1, c2]
          refine Weaker.fz 1 0 ?_ ?_ ?_
          · simp [go_sem, c1, c2, okC]
          · first | (simp; done) | (simp; omega)
          · simp [go_sem, c1, c2, okC]
    · skip
      refine cond_k rfl (fun h => ?_) (fun h => ?_)
      · have hc : okC i (chI s i) = false := by simpa using h
        have hbad : okCs s s.size = false := okCs_bad h' hc
        refine region_k T_ok (by decide) fun K hK => ?_
        simp [go_sem]
        refine hK _ ?_; clear hK K
        refine tr_ret ⟨.inr rfl, ?_⟩
        simp [go_sem, nmB, hbad]
      · have hc : okC i (chI s i) = true := by simpa using h
        refine tr_skip ?_
        refine hK3 _ ?_; try clear hK3 K3
        refine region_e T_ok (by decide) fun K hK => ?_
        simp [go_sem, hw]
        refine hK _ ?_; clear hK K
        refine ⟨i + 1, ?_, ?_, ?_⟩
        · exact ⟨by omega, by simp [okCs, hok, hc]⟩
        · omega
        · refine Weaker.fz 1 0 ?_ ?_ ?_
          · simp [go_sem]
          · first | (simp; done) | (simp; omega)
          simp [go_sem]
  · simp at h
    obtain rfl : i = s.size := by omega
    refine tr_exit ?_
    refine hK1 _ ?_; try clear hK1 K1
    refine seq_k fun K4 hK4 => ?_
    refine region_to T_ok (by decide) ⟨53, [(0, .val (.string s)), (45, bV (regN s))], [], 0⟩ ?_ ?_
    · have hsI : (((s.size : Nat) : Int) = 2) = (s.size = 2) := propext (by omega)
      by_cases c1 : s.size = 2
      · by_cases c2 : chI s 0 = 114
        · by_cases c3 : chI s 1 ≤ 57
          · simp [go_sem, c1, c2, c3, hsI]
            refine Weaker.fz 1 0 ?_ ?_ ?_
            · simp [go_sem, c1, c2, c3, regN]
            · first | (simp; done) | (simp; omega)
            · simp [go_sem, c1, c2, c3, regN]
          · simp [go_sem, c1, c2, c3, hsI]
            refine Weaker.fz 1 0 ?_ ?_ ?_
            · simp [go_sem, c1, c2, c3, regN]
            · first | (simp; done) | (simp; omega)
            · simp [go_sem, c1, c2, c3, regN]
        · simp [go_sem, c1, c2, hsI]
          refine Weaker.fz 1 0 ?_ ?_ ?_
          · simp [go_sem, c1, c2, regN]
          · first | (simp; done) | (simp; omega)
          · simp [go_sem, c1, c2, regN]
      · simp [go_sem, c1, hsI]
        refine Weaker.fz 1 0 ?_ ?_ ?_
        · simp [go_sem, c1, regN]
        · first | (simp; done) | (simp; omega)
        · simp [go_sem, c1, regN]
    · skip
      refine cond_k rfl (fun h => ?_) (fun h => ?_)
      · have hreg := h
        refine region_k T_ok (by decide) fun K hK => ?_
        simp [go_sem]
        refine hK _ ?_; clear hK K
        refine tr_ret ⟨.inr rfl, ?_⟩
        simp [go_sem, nmB, hok, hreg]
      · have hreg := h
        refine tr_skip ?_
        refine hK4 _ ?_; try clear hK4 K4
        refine region_to T_ok (by decide) ⟨53, [(2, bV (decide (s.size ≠ 0) && decide (s.size ≤ 16)))], [], 0⟩ ?_ ?_
        · have hsI : (((s.size : Nat) : Int) ≤ 16) = (s.size ≤ 16) := propext (by omega)
          by_cases c1 : s.size = 0
          · simp [go_sem, c1, hsI]
            refine Weaker.fz 1 0 ?_ ?_ ?_
            · simp [go_sem, c1]
            · first | (simp; done) | (simp; omega)
            · simp [go_sem, c1]
          · by_cases c2 : s.size ≤ 16
            · simp [go_sem, c1, c2, hsI]
              refine Weaker.fz 1 0 ?_ ?_ ?_
              · simp [go_sem, c1, c2]
              · first | (simp; done) | (simp; omega)
              · simp [go_sem, c1, c2]
            · simp [go_sem, c1, c2, hsI]
              refine Weaker.fz 1 0 ?_ ?_ ?_
              · simp [go_sem, c1, c2]
              · first | (simp; done) | (simp; omega)
              · simp [go_sem, c1, c2]
        · skip
          refine tr_ret ⟨.inr rfl, ?_⟩
          simp [go_sem, nmB, hok, hreg]

set_option maxRecDepth 100000 in
set_option maxHeartbeats 8000000 in
theorem sizes_pf (t : Tst) : Pf Try.prog 27 [.rp t.cs 0] (iV (sizeErr t)) := by
  refine Pf.of_fn (.cons (nl_rp t) .nil) (.val _) ?_
  refine fn_in T_ok func27 rfl rfl ntmps27 rfl (by simp) ?_
  refine region_k T_ok (by decide) fun K hK => ?_
  simp [go_sem]
  refine hK _ ?_; clear hK K
  refine seq_k fun K1 hK1 => ?_
  refine region_k T_ok (by decide) fun K hK => ?_
  simp [go_sem, Tst.cs]
  refine hK _ ?_; clear hK K
  refine cond_k rfl (fun h => ?_) (fun h => ?_)
  · simp at h
    have h1 := h
    refine region_k T_ok (by decide) fun K hK => ?_
    simp [go_sem]
    refine hK _ ?_; clear hK K
    refine tr_ret ⟨.inr rfl, ?_⟩
    simp [go_sem, sizeErr, h1]
  · simp at h
    have h1 := h
    refine tr_skip ?_
    refine hK1 _ ?_; try clear hK1 K1
    refine seq_k fun K2 hK2 => ?_
    refine region_to T_ok (by decide) ⟨49, [(0, .rp t.cs 0), (32, bV (manyB t))], [], 0⟩ ?_ ?_
    · by_cases c1 : (4 : Int) < (t.ths.length : Nat)
      · simp [go_sem, c1, Tst.cs]
        refine Weaker.fz 1 0 ?_ ?_ ?_
        · simp [go_sem, c1, manyB, Tst.cs]
        · first | (simp; done) | (simp; omega)
        · simp [go_sem, c1, manyB, Tst.cs]
      · by_cases c2 : (8 : Int) < (t.locs.length : Nat)
        · simp [go_sem, c1, c2, Tst.cs]
          refine Weaker.fz 1 0 ?_ ?_ ?_
          · simp [go_sem, c1, c2, manyB, Tst.cs]
          · first | (simp; done) | (simp; omega)
          · simp [go_sem, c1, c2, manyB, Tst.cs]
        · by_cases c3 : (40 : Int) < (t.asks.length : Nat)
          · simp [go_sem, c1, c2, c3, Tst.cs]
            refine Weaker.fz 1 0 ?_ ?_ ?_
            · simp [go_sem, c1, c2, c3, manyB, Tst.cs]
            · first | (simp; done) | (simp; omega)
            · simp [go_sem, c1, c2, c3, manyB, Tst.cs]
          · simp [go_sem, c1, c2, c3, Tst.cs]
            refine Weaker.fz 1 0 ?_ ?_ ?_
            · simp [go_sem, c1, c2, c3, manyB, Tst.cs]
            · first | (simp; done) | (simp; omega)
            · simp [go_sem, c1, c2, c3, manyB, Tst.cs]
    · skip
      refine cond_k rfl (fun h => ?_) (fun h => ?_)
      · have h2 := h
        refine region_k T_ok (by decide) fun K hK => ?_
        simp [go_sem]
        refine hK _ ?_; clear hK K
        refine tr_ret ⟨.inr rfl, ?_⟩
        simp [go_sem, sizeErr, h1, h2]
      · have h2 := h
        have hm : t.ths.length ≤ 4 := by unfold manyB at h2; simp at h2; omega
        refine tr_skip ?_
        refine hK2 _ ?_; try clear hK2 K2
        refine seq_k fun K3 hK3 => ?_
        refine region_k T_ok (by decide) fun K hK => ?_
        simp [go_sem, Tst.cs]
        refine hK _ ?_; clear hK K
        refine tr_block ?_
        refine loop_p (α := Nat) (fun a => ⟨49, [(0, .rp t.cs 0), (36, .ro 1 (thrs t.ths)), (37, iV (t.ths.length : Nat)), (38, iV (a : Nat))], [], 0⟩) (fun a => a ≤ t.ths.length ∧ ∀ x ∈ t.ths.take a, x.length ≤ 8) (fun a => t.ths.length - a) 0 ?_ ?_ ?_
        · exact ⟨by omega, by simp⟩
        · refine Weaker.fz 1 0 ?_ ?_ ?_
          · simp [go_sem, Tst.cs]
          · first | (simp; done) | (simp; omega)
          · simp [go_sem]
        rintro i ⟨hi, hok⟩
        try dsimp only
        refine region_k T_ok (by decide) fun K hK => ?_
        simp [go_sem]
        refine hK _ ?_; clear hK K
        refine seq_k fun K4 hK4 => ?_
        refine cond_k rfl (fun h => ?_) (fun h => ?_)
        · simp at h
          have hI := h
          clear h
          have h' : i < (t.ths).length := by omega
          obtain ⟨l, hx, hx'⟩ := getAt h'
          have hi0 : (0 : Int) ≤ (i : Nat) := by omega
          have hw : IntKind.i64.wrap ((i : Nat) + 1) = (i : Nat) + 1 := wrap_i64 (by omega) (by omega)
          refine tr_skip ?_
          refine hK4 _ ?_; try clear hK4 K4
          refine seq_k fun K5 hK5 => ?_
          refine tr_block ?_
          refine region_k T_ok (by decide) fun K hK => ?_
          simp [go_sem, hI, hx, hx', hi0, h']
          refine hK _ ?_; clear hK K
          refine region_k T_ok (by decide) fun K hK => ?_
          simp [go_sem]
          refine hK _ ?_; clear hK K
          refine cond_k rfl (fun h => ?_) (fun h => ?_)
          · simp at h
            have h8 : ¬ l.length ≤ 8 := by omega
            have hnot : ¬ ∀ x ∈ t.ths, x.length ≤ 8 := fun hh => h8 (hh l (List.mem_of_getElem? hx))
            refine region_k T_ok (by decide) fun K hK => ?_
            simp [go_sem]
            refine hK _ ?_; clear hK K
            refine tr_ret ⟨.inr rfl, ?_⟩
            simp only [sizeErr, h1, h2, hnot, if_false, if_true]
            simp [go_sem, h1, h2]
          · simp at h
            have h8 : l.length ≤ 8 := by omega
            refine tr_skip ?_
            refine hK5 _ ?_; try clear hK5 K5
            refine region_e T_ok (by decide) fun K hK => ?_
            simp [go_sem, hw]
            refine hK _ ?_; clear hK K
            refine ⟨i + 1, ?_, ?_, ?_⟩
            · refine ⟨by omega, fun y hy => ?_⟩
              rw [takeAt hx] at hy
              rcases List.mem_append.1 hy with hy | hy
              · exact hok y hy
              · rw [List.mem_singleton.1 hy]; exact h8
            · omega
            · refine Weaker.fz 1 0 ?_ ?_ ?_
              · simp [go_sem]
              · first | (simp; done) | (simp; omega)
              simp [go_sem]
        · simp at h
          obtain rfl : i = t.ths.length := by omega
          rw [List.take_length] at hok
          have hev := events_len t.ths hok
          have hev2 : events t.ths ≤ 64 := Nat.le_trans hev (by omega)
          refine tr_exit ?_
          refine hK3 _ ?_; try clear hK3 K3
          refine seq_k fun K6 hK6 => ?_
          refine region_k T_ok (by decide) fun K hK => ?_
          simp [go_sem]
          refine call_pf (events_pf t (by omega) (fun x hx => by have := hok x hx; omega) (by omega)) ?_
          simp [go_sem]
          refine hK _ ?_; clear hK K
          refine cond_k rfl (fun h => ?_) (fun h => ?_)
          · simp at h
            have h3 : 8 < events t.ths := by omega
            refine region_k T_ok (by decide) fun K hK => ?_
            simp [go_sem]
            refine hK _ ?_; clear hK K
            refine tr_ret ⟨.inr rfl, ?_⟩
            simp [go_sem, sizeErr, h1, h2, h3]
            try exact fun hh => absurd hok hh
          · simp at h
            have h3 : ¬ 8 < events t.ths := by omega
            refine tr_skip ?_
            refine hK6 _ ?_; try clear hK6 K6
            refine region_k T_ok (by decide) fun K hK => ?_
            simp [go_sem]
            refine hK _ ?_; clear hK K
            refine tr_ret ⟨.inr rfl, ?_⟩
            simp [go_sem, sizeErr, h1, h2, h3]
            try exact hok

end Go.Proofs.Ytokdphmnlcmbbaa
/- Litmus tests: the walk of Check of the package litmus. -/
namespace Go.Proofs.Ytokdphmnlcmbbaa
open Go Go.Sl Go.Proofs.Try

set_option maxRecDepth 100000 in
set_option maxHeartbeats 16000000 in
theorem Check_pf (t : Tst) (hn : ∀ l ∈ t.locs, l.name.size ≤ 1000000) : Pf Try.prog 12 [.rp t.cs 0] (iV (chkErr t)) := by
  refine Pf.of_fn (.cons (nl_rp t) .nil) (.val _) ?_
  refine fn_in T_ok func12 rfl rfl ntmps12 rfl (by simp) ?_
  refine region_k T_ok (by decide) fun K hK => ?_
  simp [go_sem]
  refine hK _ ?_; clear hK K
  refine seq_k fun K1 hK1 => ?_
  refine region_k T_ok (by decide) fun K hK => ?_
  simp [go_sem]
  refine call_pf (sizes_pf t) ?_
  simp [go_sem]
  refine hK _ ?_; clear hK K
  refine region_k T_ok (by decide) fun K hK => ?_
  simp [go_sem]
  refine hK _ ?_; clear hK K
  refine cond_k rfl (fun h => ?_) (fun h => ?_)
  · simp at h
    have hs := h
    refine region_k T_ok (by decide) fun K hK => ?_
    simp [go_sem]
    refine hK _ ?_; clear hK K
    refine tr_ret ⟨.inr rfl, ?_⟩
    simp [go_sem, chkErr, hs]
  · simp at h
    have hz := h
    obtain ⟨_, b1, b2, b3, b4, _⟩ := sizeErr_zero hz
    refine tr_skip ?_
    refine hK1 _ ?_; try clear hK1 K1
    refine seq_k fun K2 hK2 => ?_
    refine region_k T_ok (by decide) fun K hK => ?_
    simp [go_sem, Tst.cs]
    refine hK _ ?_; clear hK K
    refine tr_block ?_
    refine loop_p (α := Nat × Nat) (fun a => ⟨111, [(0, .rp t.cs 0), (22, .ro 2 (inis t.locs)), (23, iV (t.locs.length : Nat)), (24, iV (a.1 : Nat))], [], a.2⟩) (fun a => a.1 ≤ t.locs.length ∧ fe (locErr t) 0 t.locs = fe (locErr t) a.1 (t.locs.drop a.1)) (fun a => t.locs.length - a.1) (0, 0) ?_ ?_ ?_
    · exact ⟨by dsimp only; omega, rfl⟩
    · refine Weaker.fz 1 0 ?_ ?_ ?_
      · simp [go_sem, Tst.cs]
      · first | (simp; done) | (simp; omega)
      · simp [go_sem]
    rintro ⟨i, j⟩ ⟨hi, hf⟩
    dsimp only at hi hf ⊢
    refine region_k T_ok (by decide) fun K hK => ?_
    simp [go_sem]
    refine hK _ ?_; clear hK K
    refine seq_k fun K3 hK3 => ?_
    refine cond_k rfl (fun h => ?_) (fun h => ?_)
    · simp at h
      have hI := h
      clear h
      have h' : i < (t.locs).length := by omega
      obtain ⟨l, hx, hx'⟩ := getAt h'
      have hi0 : (0 : Int) ≤ (i : Nat) := by omega
      have hw : IntKind.i64.wrap ((i : Nat) + 1) = (i : Nat) + 1 := wrap_i64 (by omega) (by omega)
      have hnm := hn l (List.mem_of_getElem? hx)
      refine tr_skip ?_
      refine hK3 _ ?_; try clear hK3 K3
      refine seq_k fun K4 hK4 => ?_
      refine tr_block ?_
      refine region_k T_ok (by decide) fun K hK => ?_
      simp [go_sem, hI, hx, hx', hi0, h', iniC, Ini.cs]
      refine hK _ ?_; clear hK K
      refine seq_k fun K5 hK5 => ?_
      refine region_k T_ok (by decide) fun K hK => ?_
      simp [go_sem, iniC, Ini.cs]
      refine call_pf (name_pf _ (by omega)) ?_
      simp [go_sem]
      refine hK _ ?_; clear hK K
      refine cond_k rfl (fun h => ?_) (fun h => ?_)
      · simp at h
        have hg : locErr t i l = 11 := by simp [locErr, h]
        have hl : fe (locErr t) 0 t.locs = 11 := by rw [hf, fe_bad hx (by rw [hg]; decide), hg]
        refine region_k T_ok (by decide) fun K hK => ?_
        simp [go_sem]
        refine hK _ ?_; clear hK K
        refine tr_ret ⟨.inr rfl, ?_⟩
        simp [go_sem, chkErr, hz, hl]
      · simp at h
        have hnk := h
        refine tr_skip ?_
        refine hK5 _ ?_; try clear hK5 K5
        refine draw_to T_ok (by kernel_rfl) 14 [[], [0], [0, 1], [0, 1, 2], [0, 1, 2, 3], [0, 1, 2], [0, 1, 2, 5], [0, 1, 2, 5, 6], [0, 1, 2, 5, 6, 7], [0, 1, 2], [0, 1, 2, 9], [0, 1, 2, 5, 6, 7, 8, 9, 10], [0, 1, 2, 5, 6, 7, 8, 9, 10, 11], [0, 1, 2, 5, 6, 7, 8, 9, 10, 11, 12], [0, 1, 2, 3, 4, 5, 6, 7, 8, 9, 10, 11, 12, 13], [0, 1, 2, 3, 4, 5, 6, 7, 8, 9, 10, 11, 12, 13, 14]] [] (by decide) (by decide) (by decide) ⟨111, [(0, .rp t.cs 0), (22, .ro 2 (inis t.locs)), (23, iV (t.locs.length : Nat)), (24, iV (i : Nat)), (48, bV (prevLe t i l))], [], j + 15⟩ ?_ ?_
        · first | dsimp only [List.take, List.drop] | dsimp [List.take, List.drop]
          by_cases c1 : 0 < i
          · obtain ⟨p, hp, hp'⟩ := getAt (show i - 1 < t.locs.length by omega)
            have hw1 : IntKind.i64.wrap ((i : Int) - 1) = ((i - 1 : Nat) : Int) := by rw [wrap_i64 (by omega) (by omega)]; omega
            have hb1 : ((i - 1 : Nat) : Int) < (t.locs.length : Nat) := by omega
            have hb0 : (0 : Int) ≤ ((i - 1 : Nat) : Int) := by omega
            have hb2 : i - 1 < t.locs.length := by omega
            have cI : (0 : Int) < (i : Nat) := by omega
            simp [go_sem, c1, Tst.cs, iniC, Ini.cs, hp, hp', hw1, hb1, hb0, hb2, cI]
            refine Weaker.fz 1 0 ?_ ?_ ?_
            · simp [go_sem, c1, prevLe, strLe, Tst.cs, hp, hp', hw1, hb1, hb0, hb2, cI]
            · first | (simp; done) | (simp; omega)
            · simp [go_sem, c1, prevLe, strLe, Tst.cs, hp, hp', hw1, hb1, hb0, hb2, cI]
          · have cI : ¬ (0 : Int) < (i : Nat) := by omega
            simp [go_sem, c1, Tst.cs, iniC, Ini.cs, cI]
            refine Weaker.fz 1 0 ?_ ?_ ?_
            · simp [go_sem, c1, prevLe, strLe, Tst.cs, cI]
            · first | (simp; done) | (simp; omega)
            · simp [go_sem, c1, prevLe, strLe, Tst.cs, cI]
        · skip
          refine cond_k rfl (fun h => ?_) (fun h => ?_)
          · have hg : locErr t i l = 16 := by simp [locErr, hnk, h]
            have hl : fe (locErr t) 0 t.locs = 16 := by rw [hf, fe_bad hx (by rw [hg]; decide), hg]
            refine region_k T_ok (by decide) fun K hK => ?_
            simp [go_sem]
            refine hK _ ?_; clear hK K
            refine tr_ret ⟨.inr rfl, ?_⟩
            simp [go_sem, chkErr, hz, hl]
          · have hg : locErr t i l = 0 := by simp [locErr, hnk, h]
            refine tr_skip ?_
            refine hK4 _ ?_; try clear hK4 K4
            refine region_e T_ok (by decide) fun K hK => ?_
            simp [go_sem, hw]
            refine hK _ ?_; clear hK K
            refine ⟨(i + 1, j + 15), ?_, ?_, ?_⟩
            · exact ⟨by dsimp only; omega, by dsimp only; rw [hf, fe_good hx hg]⟩
            · dsimp only; omega
            · refine Weaker.fz 1 0 ?_ ?_ ?_
              · simp [go_sem]
              · first | (simp; done) | (simp; omega)
              simp [go_sem]
    · simp at h
      obtain rfl : i = t.locs.length := by omega
      rw [fe_end] at hf
      have hl := hf
      clear hf
      refine tr_exit ?_
      refine hK2 _ ?_; try clear hK2 K2
      refine seq_k fun K6 hK6 => ?_
      refine region_k T_ok (by decide) fun K hK => ?_
      simp [go_sem, Tst.cs]
      refine hK _ ?_; clear hK K
      refine tr_block ?_
      refine loop_p (α := Nat × Nat) (fun a => ⟨111, [(0, .rp t.cs 0), (53, .ro 1 (thrs t.ths)), (54, iV (t.ths.length : Nat)), (55, iV (a.1 : Nat))], [], a.2⟩) (fun a => a.1 ≤ t.ths.length ∧ fe (thrErr t) 0 t.ths = fe (thrErr t) a.1 (t.ths.drop a.1)) (fun a => t.ths.length - a.1) (0, j) ?_ ?_ ?_
      · exact ⟨by dsimp only; omega, rfl⟩
      · refine Weaker.fz 1 0 ?_ ?_ ?_
        · simp [go_sem, Tst.cs]
        · first | (simp; done) | (simp; omega)
        · simp [go_sem]
      rintro ⟨i, j⟩ ⟨hi, hf⟩
      dsimp only at hi hf ⊢
      refine region_k T_ok (by decide) fun K hK => ?_
      simp [go_sem]
      refine hK _ ?_; clear hK K
      refine seq_k fun K7 hK7 => ?_
      refine cond_k rfl (fun h => ?_) (fun h => ?_)
      · simp at h
        have hI := h
        clear h
        have h' : i < (t.ths).length := by omega
        obtain ⟨l, hx, hx'⟩ := getAt h'
        have hi0 : (0 : Int) ≤ (i : Nat) := by omega
        have hw : IntKind.i64.wrap ((i : Nat) + 1) = (i : Nat) + 1 := wrap_i64 (by omega) (by omega)
        have hll := b4 l (List.mem_of_getElem? hx)
        refine tr_skip ?_
        refine hK7 _ ?_; try clear hK7 K7
        refine seq_k fun K8 hK8 => ?_
        refine tr_block ?_
        refine region_k T_ok (by decide) fun K hK => ?_
        simp [go_sem, hI, hx, hx', hi0, h']
        refine hK _ ?_; clear hK K
        refine region_k T_ok (by decide) fun K hK => ?_
        simp [go_sem]
        refine hK _ ?_; clear hK K
        refine tr_block ?_
        refine loop_p (α := Nat × Nat) (fun b => ⟨111, [(0, .rp t.cs 0), (7, .ro 13 (inss l)), (53, .ro 1 (thrs t.ths)), (54, iV (t.ths.length : Nat)), (55, iV (i : Nat)), (59, .ro 13 (inss l)), (60, iV (l.length : Nat)), (61, iV (b.1 : Nat))], [], b.2⟩) (fun b => b.1 ≤ l.length ∧ fe (fun i x => insErr t.locs.length ((l.length : Int) - i - 1) x) 0 l = fe (fun i x => insErr t.locs.length ((l.length : Int) - i - 1) x) b.1 (l.drop b.1)) (fun b => l.length - b.1) (0, j) ?_ ?_ ?_
        · exact ⟨by dsimp only; omega, rfl⟩
        · refine Weaker.fz 1 0 ?_ ?_ ?_
          · simp [go_sem]
          · first | (simp; done) | (simp; omega)
          · simp [go_sem]
        rintro ⟨b, c⟩ ⟨hib, hfb⟩
        dsimp only at hib hfb ⊢
        refine region_k T_ok (by decide) fun K hK => ?_
        simp [go_sem]
        refine hK _ ?_; clear hK K
        refine seq_k fun K9 hK9 => ?_
        refine cond_k rfl (fun h => ?_) (fun h => ?_)
        · simp at h
          have hIb := h
          clear h
          have h'b : b < (l).length := by omega
          obtain ⟨x, hxb, hx'b⟩ := getAt h'b
          have hi0b : (0 : Int) ≤ (b : Nat) := by omega
          have hwb : IntKind.i64.wrap ((b : Nat) + 1) = (b : Nat) + 1 := wrap_i64 (by omega) (by omega)
          have hwl1 : IntKind.i64.wrap ((l.length : Int) - (b : Int)) = (l.length : Int) - b := wrap_i64 (by omega) (by omega)
          have hwl2 : IntKind.i64.wrap ((l.length : Int) - (b : Int) - 1) = (l.length : Int) - b - 1 := wrap_i64 (by omega) (by omega)
          refine tr_skip ?_
          refine hK9 _ ?_; try clear hK9 K9
          refine seq_k fun K10 hK10 => ?_
          refine tr_block ?_
          refine region_k T_ok (by decide) fun K hK => ?_
          simp [go_sem, hIb, hxb, hx'b, hi0b, h'b, insC]
          refine hK _ ?_; clear hK K
          refine region_k T_ok (by decide) fun K hK => ?_
          simp [go_sem, hwl1, hwl2]
          refine call_pf (check_pf t x _) ?_
          simp [go_sem]
          refine hK _ ?_; clear hK K
          refine region_k T_ok (by decide) fun K hK => ?_
          simp [go_sem]
          refine hK _ ?_; clear hK K
          refine cond_k rfl (fun h => ?_) (fun h => ?_)
          · simp at h
            have hgx : fe (fun i x => insErr t.locs.length ((l.length : Int) - i - 1) x) 0 l = insErr t.locs.length ((l.length : Int) - b - 1) x := by rw [hfb, fe_bad hxb h]
            have hg : thrErr t i l = insErr t.locs.length ((l.length : Int) - b - 1) x := hgx
            have ht : fe (thrErr t) 0 t.ths = insErr t.locs.length ((l.length : Int) - b - 1) x := by rw [hf, fe_bad hx (by rw [hg]; exact h), hg]
            refine region_k T_ok (by decide) fun K hK => ?_
            simp [go_sem]
            refine hK _ ?_; clear hK K
            refine tr_ret ⟨.inr rfl, ?_⟩
            simp [go_sem, chkErr, hz, hl, ht, h]
          · simp at h
            have hgb := h
            refine tr_skip ?_
            refine hK10 _ ?_; try clear hK10 K10
            refine region_e T_ok (by decide) fun K hK => ?_
            simp [go_sem, hwb]
            refine hK _ ?_; clear hK K
            refine ⟨(b + 1, c + 1), ?_, ?_, ?_⟩
            · exact ⟨by dsimp only; omega, by dsimp only; rw [hfb, fe_good hxb hgb]⟩
            · dsimp only; omega
            · refine Weaker.fz 1 0 ?_ ?_ ?_
              · simp [go_sem]
              · first | (simp; done) | (simp; omega)
              simp [go_sem]
        · simp at h
          obtain rfl : b = l.length := by omega
          rw [fe_end] at hfb
          have hg : thrErr t i l = 0 := hfb
          refine tr_exit ?_
          refine hK8 _ ?_; try clear hK8 K8
          refine region_e T_ok (by decide) fun K hK => ?_
          simp [go_sem, hw]
          refine hK _ ?_; clear hK K
          refine ⟨(i + 1, c), ?_, ?_, ?_⟩
          · exact ⟨by dsimp only; omega, by dsimp only; rw [hf, fe_good hx hg]⟩
          · dsimp only; omega
          · refine Weaker.fz 1 0 ?_ ?_ ?_
            · simp [go_sem]
            · first | (simp; done) | (simp; omega)
            simp [go_sem]
      · simp at h
        obtain rfl : i = t.ths.length := by omega
        rw [fe_end] at hf
        have ht := hf
        clear hf
        refine tr_exit ?_
        refine hK6 _ ?_; try clear hK6 K6
        refine seq_k fun K11 hK11 => ?_
        refine region_k T_ok (by decide) fun K hK => ?_
        simp [go_sem, Tst.cs]
        refine hK _ ?_; clear hK K
        refine tr_block ?_
        refine loop_p (α := Nat × Nat) (fun a => ⟨111, [(0, .rp t.cs 0), (82, .ro 3 (atms t.asks)), (83, iV (t.asks.length : Nat)), (84, iV (a.1 : Nat))], [], a.2⟩) (fun a => a.1 ≤ t.asks.length ∧ fe (askErr2 t) 0 t.asks = fe (askErr2 t) a.1 (t.asks.drop a.1)) (fun a => t.asks.length - a.1) (0, j) ?_ ?_ ?_
        · exact ⟨by dsimp only; omega, rfl⟩
        · refine Weaker.fz 1 0 ?_ ?_ ?_
          · simp [go_sem, Tst.cs]
          · first | (simp; done) | (simp; omega)
          · simp [go_sem]
        rintro ⟨i, j⟩ ⟨hi, hf⟩
        dsimp only at hi hf ⊢
        refine region_k T_ok (by decide) fun K hK => ?_
        simp [go_sem]
        refine hK _ ?_; clear hK K
        refine seq_k fun K12 hK12 => ?_
        refine cond_k rfl (fun h => ?_) (fun h => ?_)
        · simp at h
          have hI := h
          clear h
          have h' : i < (t.asks).length := by omega
          obtain ⟨a, hx, hx'⟩ := getAt h'
          have hi0 : (0 : Int) ≤ (i : Nat) := by omega
          have hw : IntKind.i64.wrap ((i : Nat) + 1) = (i : Nat) + 1 := wrap_i64 (by omega) (by omega)
          refine tr_skip ?_
          refine hK12 _ ?_; try clear hK12 K12
          refine seq_k fun K13 hK13 => ?_
          refine tr_block ?_
          refine region_k T_ok (by decide) fun K hK => ?_
          simp [go_sem, hI, hx, hx', hi0, h', atmC, Atm.cs]
          refine hK _ ?_; clear hK K
          refine seq_k fun K14 hK14 => ?_
          refine region_k T_ok (by decide) fun K hK => ?_
          simp [go_sem, atmC, Atm.cs]
          refine call_pf (checkAsk_pf t a) ?_
          simp [go_sem]
          refine hK _ ?_; clear hK K
          refine region_k T_ok (by decide) fun K hK => ?_
          simp [go_sem]
          refine hK _ ?_; clear hK K
          refine cond_k rfl (fun h => ?_) (fun h => ?_)
          · simp at h
            have hg : askErr2 t i a = askErr t a := by simp [askErr2, h]
            have ha : fe (askErr2 t) 0 t.asks = askErr t a := by rw [hf, fe_bad hx (by rw [hg]; exact h), hg]
            refine region_k T_ok (by decide) fun K hK => ?_
            simp [go_sem]
            refine hK _ ?_; clear hK K
            refine tr_ret ⟨.inr rfl, ?_⟩
            simp [go_sem, chkErr, hz, hl, ht, ha, h]
          · simp at h
            have hak := h
            refine tr_skip ?_
            refine hK14 _ ?_; try clear hK14 K14
            refine draw_to T_ok (by kernel_rfl) 12 [[], [0], [0, 1], [0, 1, 2], [0, 1, 2, 3], [0, 1, 2, 3, 4], [0, 1, 2, 3, 4, 5], [0, 1, 2], [0, 1, 2, 7], [0, 1, 2, 3, 4, 5, 6, 7, 8], [0, 1, 2, 3, 4, 5, 6, 7, 8, 9], [0, 1, 2], [0, 1, 2, 3, 4, 5, 6, 7, 8, 9, 10, 11], [0, 1, 2, 3, 4, 5, 6, 7, 8, 9, 10, 11, 12], [0, 1, 2, 3, 4, 5, 6, 7, 8, 9, 10, 11, 12, 13]] [] (by decide) (by decide) (by decide) ⟨111, [(0, .rp t.cs 0), (82, .ro 3 (atms t.asks)), (83, iV (t.asks.length : Nat)), (84, iV (i : Nat)), (109, bV (prevAsk t i a))], [], j + 13⟩ ?_ ?_
            · first | dsimp only [List.take, List.drop] | dsimp [List.take, List.drop]
              by_cases c1 : 0 < i
              · obtain ⟨p, hp, hp'⟩ := getAt (show i - 1 < t.asks.length by omega)
                have hw1 : IntKind.i64.wrap ((i : Int) - 1) = ((i - 1 : Nat) : Int) := by rw [wrap_i64 (by omega) (by omega)]; omega
                have hb1 : ((i - 1 : Nat) : Int) < (t.asks.length : Nat) := by omega
                have hb0 : (0 : Int) ≤ ((i - 1 : Nat) : Int) := by omega
                have hb2 : i - 1 < t.asks.length := by omega
                have cI : (0 : Int) < (i : Nat) := by omega
                simp [go_sem, c1, Tst.cs, atmC, Atm.cs, hp, hp', hw1, hb1, hb0, hb2, cI]
                refine call_pf (before_pf p a) ?_
                simp [go_sem, c1, Tst.cs, atmC, Atm.cs, hp, hp', hw1, hb1, hb0, hb2, cI]
                refine Weaker.fz 1 0 ?_ ?_ ?_
                · simp [go_sem, c1, prevAsk, Tst.cs, hp, hp', hw1, hb1, hb0, hb2, cI]
                · first | (simp; done) | (simp; omega)
                · simp [go_sem, c1, prevAsk, Tst.cs, hp, hp', hw1, hb1, hb0, hb2, cI]
              · have cI : ¬ (0 : Int) < (i : Nat) := by omega
                simp [go_sem, c1, Tst.cs, atmC, Atm.cs, cI]
                refine Weaker.fz 1 0 ?_ ?_ ?_
                · simp [go_sem, c1, prevAsk, Tst.cs, cI]
                · first | (simp; done) | (simp; omega)
                · simp [go_sem, c1, prevAsk, Tst.cs, cI]
            · skip
              refine cond_k rfl (fun h => ?_) (fun h => ?_)
              · have hg : askErr2 t i a = 16 := by simp [askErr2, hak, h]
                have ha : fe (askErr2 t) 0 t.asks = 16 := by rw [hf, fe_bad hx (by rw [hg]; decide), hg]
                refine region_k T_ok (by decide) fun K hK => ?_
                simp [go_sem]
                refine hK _ ?_; clear hK K
                refine tr_ret ⟨.inr rfl, ?_⟩
                simp [go_sem, chkErr, hz, hl, ht, ha]
              · have hg : askErr2 t i a = 0 := by simp [askErr2, hak, h]
                refine tr_skip ?_
                refine hK13 _ ?_; try clear hK13 K13
                refine region_e T_ok (by decide) fun K hK => ?_
                simp [go_sem, hw]
                refine hK _ ?_; clear hK K
                refine ⟨(i + 1, j + 13), ?_, ?_, ?_⟩
                · exact ⟨by dsimp only; omega, by dsimp only; rw [hf, fe_good hx hg]⟩
                · dsimp only; omega
                · refine Weaker.fz 1 0 ?_ ?_ ?_
                  · simp [go_sem]
                  · first | (simp; done) | (simp; omega)
                  simp [go_sem]
        · simp at h
          obtain rfl : i = t.asks.length := by omega
          rw [fe_end] at hf
          have ha := hf
          clear hf
          refine tr_exit ?_
          refine hK11 _ ?_; try clear hK11 K11
          refine region_k T_ok (by decide) fun K hK => ?_
          simp [go_sem]
          refine hK _ ?_; clear hK K
          refine tr_ret ⟨.inr rfl, ?_⟩
          simp [go_sem, chkErr, hz, hl, ht, ha]

end Go.Proofs.Ytokdphmnlcmbbaa
/- Calls of functions that change what is handed to them; numbers of 64 bits, whatever they are. -/
namespace Go.Sl

section
variable {F : Nat → Prop} {ι ι' : Names} {O : Nat → Prop} {H H' G : Heap} {P : Program}

theorem View.drop (v : V) : ∀ (G : Heap), View (G ++ H) v H v
  | [] => View.refl _ _
  | p :: r => by
    have h := View.del (H := (p :: r) ++ H) p.1 v
    simp only [List.cons_append, Sl.del, if_true] at h
    exact h.trans (View.drop v r)

theorem perm_keep (hN : (H.map Prod.fst).Nodup) (hn : (G.map Prod.fst).Nodup) (hG : ∀ p ∈ G, look p.1 H = some p.2) : H.Perm (G ++ H.filter fun p => !decide (p.1 ∈ G.map Prod.fst)) := by
  have hnd : H.Nodup := nodup_of_map _ hN
  have hnd' : G.Nodup := nodup_of_map _ hn
  have p1 : (H.filter fun p => decide (p.1 ∈ G.map Prod.fst)).Perm G := by
    rw [List.perm_ext_iff_of_nodup (hnd.filter _) hnd']
    intro p
    simp only [List.mem_filter, decide_eq_true_eq]
    constructor
    · rintro ⟨h1, h2⟩
      obtain ⟨q, hq, he⟩ := List.mem_map.1 h2
      have e1 := hG q hq
      have e2 := look_of_mem (n := p.1) (b := p.2) hN h1
      rw [← he, e1] at e2
      have e3 := Option.some.inj e2
      have : q = p := Prod.ext he e3
      exact this ▸ hq
    · intro h
      exact ⟨look_mem (hG p h), List.mem_map_of_mem h⟩
  exact (List.filter_append_perm (fun p => decide (p.1 ∈ G.map Prod.fst)) H).symm.trans (p1.append_right _)

theorem View.sub {v : V} (hn : (G.map Prod.fst).Nodup) (hG : ∀ p ∈ G, look p.1 H = some p.2) : View H v G v := fun F ι w cv R hv =>
  (((View.perm (perm_keep R.names hn hG) v).trans (View.perm List.perm_append_comm v)).trans (View.drop v _)) F ι w cv R hv

/-- what a function leaves of what it was given -/
theorem Fn.keep {f : FuncId} {args : List V} {k : Nat} {r : V} (hn : (G.map Prod.fst).Nodup) (h : Fn P f args H k fun v H' _ => v = r ∧ ∀ p ∈ G, look p.1 H' = some p.2) : Fn P f args H k fun v H' _ => v = r ∧ H' = G :=
  Fn.view (h.mono fun v H' k' e => ⟨G, v, View.sub hn e.2, e.1, rfl⟩)

/-- the heap with other contents under some names -/
def upds (G H : Heap) : Heap := H.map fun p => (p.1, (look p.1 G).getD p.2)

theorem look_no {G : Heap} {n : Nat} (h : n ∉ G.map Prod.fst) : look n G = none := look_none.2 h

theorem upds_perm {Hf : Heap} (hN : (H.map Prod.fst).Nodup) (he : G.map Prod.fst = Hf.map Prod.fst) (hn : (Hf.map Prod.fst).Nodup) (hl : ∀ p ∈ Hf, look p.1 H = some p.2) : (G ++ H.filter fun p => !decide (p.1 ∈ Hf.map Prod.fst)).Perm (upds G H) := by
  have hnG : (G.map Prod.fst).Nodup := by rw [he]; exact hn
  have hU : ((upds G H).map Prod.fst) = H.map Prod.fst := by simp [upds, Function.comp_def]
  have hUn : (upds G H).Nodup := nodup_of_map Prod.fst (by rw [hU]; exact hN)
  have hL : (G ++ H.filter fun p => !decide (p.1 ∈ Hf.map Prod.fst)).Nodup := by
    rw [List.nodup_append]
    refine ⟨nodup_of_map _ hnG, (nodup_of_map _ hN).filter _, fun a ha b hb e => ?_⟩
    subst e
    simp only [List.mem_filter, Bool.not_eq_true', decide_eq_false_iff_not] at hb
    exact hb.2 (by rw [← he]; exact List.mem_map_of_mem ha)
  rw [List.perm_ext_iff_of_nodup hL hUn]
  intro p
  simp only [List.mem_append, List.mem_filter, Bool.not_eq_true', decide_eq_false_iff_not, upds, List.mem_map]
  constructor
  · rintro (h | ⟨h1, h2⟩)
    · have : p.1 ∈ Hf.map Prod.fst := by rw [← he]; exact List.mem_map_of_mem h
      obtain ⟨q, hq, e⟩ := List.mem_map.1 this
      have h3 := look_mem (hl q hq)
      refine ⟨q, h3, ?_⟩
      rw [e, look_of_mem hnG (n := p.1) (b := p.2) h]
      rfl
    · refine ⟨p, h1, ?_⟩
      rw [look_no (by rw [he]; simpa using h2)]; rfl
  · rintro ⟨q, hq, e⟩
    subst e
    by_cases h : q.1 ∈ Hf.map Prod.fst
    · left
      have h' : q.1 ∈ G.map Prod.fst := by rw [he]; exact h
      obtain ⟨g, hg, e⟩ := List.mem_map.1 h'
      have := look_of_mem hnG (n := g.1) (b := g.2) hg
      rw [e] at this
      rw [this]
      simp only [Option.getD_some]
      have : (q.1, g.2) = g := Prod.ext e.symm rfl
      rw [this]; exact hg
    · right
      rw [look_no (by rw [he]; exact h)]
      exact ⟨hq, by simpa using h⟩

/-- a call of a function that changes what is handed to it -/
theorem call_own {f : FuncId} {args : List V} {k : Nat} {K : V → Heap → Nat → Prop} {Hf : Heap} {r : V} (h : Fn P f args Hf k fun v H' _ => v = r ∧ H' = G) (he : G.map Prod.fst = Hf.map Prod.fst) (hn : (Hf.map Prod.fst).Nodup) (hl : ∀ p ∈ Hf, look p.1 H = some p.2)
    (hK : ∀ k', k ≤ k' → K r (upds G H) k') : @callF P f args H k ⟨K⟩ :=
  show Fn P f args H k K from ⟨h.enters, fun F ι w cargs h1 h2 h3 => by
    have p := perm_keep h2.names hn hl
    have q := upds_perm h2.names he hn hl
    refine Fn.calls (Fn.view ((h.frame p (K := fun v H' k' => k ≤ k' ∧ v = r ∧ H' = G ++ H.filter fun p => !decide (p.1 ∈ Hf.map Prod.fst)) fun v H' k' hk e => ⟨hk, e.1, by rw [e.2]⟩).mono fun v H' k' e => ⟨upds G H, v, ?_, ?_⟩)) F ι w cargs h1 h2 h3
    · rw [e.2.2]; exact View.perm q v
    · rw [e.2.1]; exact hK k' e.1⟩

end

/-- a piece whose ways meet again in one of some states -/
theorem seq_ex {P : Program} {x y : Code} {Q : Exit → St → Prop} {σ : St} {α : Type} (S : α → St) (I : α → Prop) (h : Tr P x (Then (fun σ => ∃ a, I a ∧ Weaker σ (S a)) Q) σ) (hy : ∀ a, I a → Tr P y Q (S a)) : Tr P (.seq x y) Q σ :=
  tr_seq (h.mono fun e σ'' hq => by
    cases e with
    | normal => obtain ⟨a, ha, hw⟩ := hq; exact Tr.weaken hw (hy a ha)
    | _ => exact hq)

section
variable {x y : Int} {K : V → Prop}
def o64 (x y : Int) : Int := IntKind.u64.wrap ((BitVec.ofInt 64 x ||| BitVec.ofInt 64 y).toNat : Nat)
def n64 (x y : Int) : Int := IntKind.u64.wrap ((BitVec.ofInt 64 x &&& BitVec.ofInt 64 y).toNat : Nat)
def x64 (x y : Int) : Int := IntKind.u64.wrap ((BitVec.ofInt 64 x ^^^ BitVec.ofInt 64 y).toNat : Nat)
def sl64 (x y : Int) : Int := IntKind.u64.wrap (x * 2 ^ (min y.toNat 64))
def sr64 (x y : Int) : Int := x.fdiv (2 ^ (min y.toNat 64))
theorem bi_or64g : binIV .or .u64 x y K = K (.val (.int .u64 (o64 x y))) := Eq.trans rfl rfl
theorem bi_and64g : binIV .and .u64 x y K = K (.val (.int .u64 (n64 x y))) := Eq.trans rfl rfl
theorem bi_xor64g : binIV .xor .u64 x y K = K (.val (.int .u64 (x64 x y))) := Eq.trans rfl rfl
theorem sh_l64g : shIV .shl .u64 x y K = (0 ≤ y ∧ K (.val (.int .u64 (sl64 x y)))) := Eq.trans rfl rfl
theorem sh_r64g : shIV .shr .u64 x y K = (0 ≤ y ∧ K (.val (.int .u64 (sr64 x y)))) := Eq.trans rfl rfl
end
attribute [go_sem ↓ high] bi_or64g bi_and64g bi_xor64g sh_l64g sh_r64g
attribute [go_sem] upds
end Go.Sl
/- What threads do, as far as it is known: plainly, and as values. -/
namespace Go.Proofs.Ytokdphmnlcmbbaa
open Go Go.Sl

/-- a number that is known, or isn't -/
structure Vl where
  k : Bool
  v : Int
deriving DecidableEq
def vlC (x : Vl) : V := .agg [bV x.k, uV x.v]
def clean (x : Vl) : Vl := if x.k then x else ⟨false, 0⟩
def vsum (a b : Vl) : Vl := ⟨a.k && b.k, IntKind.u64.wrap (a.v + b.v)⟩

/-- a walker -/
structure Wk where
  regs : Nat → Vl
  hangs : Nat → Int
  path : Int
  left : Int
  lr : Int
  lrLoc : Int
def regsC (g : Nat → Vl) : List V := (List.range 8).flatMap fun r => [bV (g r).k, uV (g r).v]
def hangC (h : Nat → Int) : List V := (List.range 8).map fun r => uV (h r)
def wkC (f : V) (x : Wk) : List V := f :: (regsC x.regs ++ (hangC x.hangs ++ [uV x.path, uV x.left, iV x.lr, iV x.lrLoc]))
theorem lt8 {r : Nat} (h : r < 8) : r = 0 ∨ r = 1 ∨ r = 2 ∨ r = 3 ∨ r = 4 ∨ r = 5 ∨ r = 6 ∨ r = 7 := by omega
section
variable {f : V} {x : Wk} {r : Nat}
@[go_sem high] theorem wk_len : (wkC f x).length = 29 := Eq.trans rfl rfl
@[go_sem high] theorem wk_fits (hf : f.one = true) : (V.agg (wkC f x)).fits 29 = true := by
  rw [fits_iff]
  refine ⟨rfl, fun c hc => ?_⟩
  simp only [V.cells, wkC, List.mem_cons, List.mem_append, regsC, hangC, List.mem_flatMap, List.mem_map, List.not_mem_nil, or_false] at hc
  rcases hc with rfl | ⟨_, _, rfl | rfl⟩ | ⟨_, _, rfl⟩ | rfl | rfl | rfl | rfl <;> first | exact hf | rfl
@[go_sem high] theorem wk_f : partV false 1 (wkC f x) 0 = f := Eq.trans rfl rfl
@[go_sem high] theorem wk_path : partV false 1 (wkC f x) 25 = uV x.path := Eq.trans rfl rfl
@[go_sem high] theorem wk_left : partV false 1 (wkC f x) 26 = uV x.left := Eq.trans rfl rfl
@[go_sem high] theorem wk_lr : partV false 1 (wkC f x) 27 = iV x.lr := Eq.trans rfl rfl
@[go_sem high] theorem wk_lrLoc : partV false 1 (wkC f x) 28 = iV x.lrLoc := Eq.trans rfl rfl
@[go_sem high] theorem wk_regs : partV true 16 (wkC f x) 1 = .agg (regsC x.regs) := Eq.trans rfl rfl
@[go_sem high] theorem wk_reg (h : r < 8) : partV true 2 (wkC f x) (1 + r * 2) = .agg [bV (x.regs r).k, uV (x.regs r).v] := by
  rcases lt8 h with rfl | rfl | rfl | rfl | rfl | rfl | rfl | rfl <;> rfl
@[go_sem high] theorem wk_hang (h : r < 8) : partV false 1 (wkC f x) (17 + r) = uV (x.hangs r) := by
  rcases lt8 h with rfl | rfl | rfl | rfl | rfl | rfl | rfl | rfl <;> rfl
@[go_sem high] theorem put_path {n : Int} : putPart (.agg (wkC f x)) 25 (uV n) = .agg (wkC f { x with path := n }) := Eq.trans rfl rfl
@[go_sem high] theorem put_left {n : Int} : putPart (.agg (wkC f x)) 26 (uV n) = .agg (wkC f { x with left := n }) := Eq.trans rfl rfl
@[go_sem high] theorem put_lr {n : Int} : putPart (.agg (wkC f x)) 27 (iV n) = .agg (wkC f { x with lr := n }) := Eq.trans rfl rfl
@[go_sem high] theorem put_lrLoc {n : Int} : putPart (.agg (wkC f x)) 28 (iV n) = .agg (wkC f { x with lrLoc := n }) := Eq.trans rfl rfl
@[go_sem high] theorem put_reg {a : Bool} {b : Int} (h : r < 8) : putPart (.agg (wkC f x)) (1 + r * 2) (.agg [bV a, uV b]) = .agg (wkC f { x with regs := fun q => if q = r then ⟨a, b⟩ else x.regs q }) := by
  rcases lt8 h with rfl | rfl | rfl | rfl | rfl | rfl | rfl | rfl <;> rfl
@[go_sem high] theorem put_known {a : Bool} (h : r < 8) : putPart (.agg (wkC f x)) (1 + r * 2) (bV a) = .agg (wkC f { x with regs := fun q => if q = r then ⟨a, (x.regs r).v⟩ else x.regs q }) := by
  rcases lt8 h with rfl | rfl | rfl | rfl | rfl | rfl | rfl | rfl <;> rfl
@[go_sem high] theorem put_hang {n : Int} (h : r < 8) : putPart (.agg (wkC f x)) (17 + r) (uV n) = .agg (wkC f { x with hangs := fun q => if q = r then n else x.hangs q }) := by
  rcases lt8 h with rfl | rfl | rfl | rfl | rfl | rfl | rfl | rfl <;> rfl
@[go_sem high] theorem regsC_len {g : Nat → Vl} : (regsC g).length = 16 := Eq.trans rfl rfl
@[go_sem high] theorem regsC_fits {g : Nat → Vl} : (V.agg (regsC g)).fits 16 = true := Eq.trans rfl rfl
@[go_sem high] theorem regsC_all {g : Nat → Vl} : partV true 16 (regsC g) 0 = .agg (regsC g) := Eq.trans rfl rfl
@[go_sem high] theorem regsC_reg {g : Nat → Vl} (h : r < 8) : partV true 2 (regsC g) (r * 2) = .agg [bV (g r).k, uV (g r).v] := by
  rcases lt8 h with rfl | rfl | rfl | rfl | rfl | rfl | rfl | rfl <;> rfl
end
theorem nl_regs (g : Nat → Vl) : NLs (regsC g) := fun v hv => by
  obtain ⟨a, _, h⟩ := List.mem_flatMap.1 hv
  simp at h
  rcases h with rfl | rfl <;> exact .val _

/-! ## rows -/

def iVs (l : List Int) : List V := l.map iV
def uVs (l : List Int) : List V := l.map uV
def bVs (l : List Bool) : List V := l.map bV
def vls (l : List Vl) : List V := l.map vlC
@[go_sem] theorem iVs_len (l : List Int) : (iVs l).length = l.length := List.length_map ..
@[go_sem] theorem uVs_len (l : List Int) : (uVs l).length = l.length := List.length_map ..
@[go_sem] theorem bVs_len (l : List Bool) : (bVs l).length = l.length := List.length_map ..
@[go_sem] theorem vls_len (l : List Vl) : (vls l).length = l.length := List.length_map ..
@[go_sem] theorem iVs_at (l : List Int) (i : Nat) : (iVs l)[i]? = l[i]?.map iV := List.getElem?_map ..
@[go_sem] theorem uVs_at (l : List Int) (i : Nat) : (uVs l)[i]? = l[i]?.map uV := List.getElem?_map ..
@[go_sem] theorem bVs_at (l : List Bool) (i : Nat) : (bVs l)[i]? = l[i]?.map bV := List.getElem?_map ..
@[go_sem] theorem vls_at (l : List Vl) (i : Nat) : (vls l)[i]? = l[i]?.map fun x => V.agg [bV x.k, uV x.v] := List.getElem?_map ..
@[go_sem] theorem iVs_get (l : List Int) (i : Nat) (h : i < (iVs l).length) : (iVs l)[i] = iV (l[i]'(by simpa [iVs] using h)) := by simp [iVs]
@[go_sem] theorem uVs_get (l : List Int) (i : Nat) (h : i < (uVs l).length) : (uVs l)[i] = uV (l[i]'(by simpa [uVs] using h)) := by simp [uVs]
@[go_sem] theorem bVs_get (l : List Bool) (i : Nat) (h : i < (bVs l).length) : (bVs l)[i] = bV (l[i]'(by simpa [bVs] using h)) := by simp [bVs]
@[go_sem] theorem vls_get (l : List Vl) (i : Nat) (h : i < (vls l).length) : (vls l)[i] = .agg [bV (l[i]'(by simpa [vls] using h)).k, uV (l[i]'(by simpa [vls] using h)).v] := by simp [vls, vlC]
@[go_sem] theorem iVs_set (l : List Int) (i : Nat) (n : Int) : (iVs l).set i (iV n) = iVs (l.set i n) := (List.map_set ..).symm
@[go_sem] theorem uVs_set (l : List Int) (i : Nat) (n : Int) : (uVs l).set i (uV n) = uVs (l.set i n) := (List.map_set ..).symm
@[go_sem] theorem bVs_set (l : List Bool) (i : Nat) (n : Bool) : (bVs l).set i (bV n) = bVs (l.set i n) := (List.map_set ..).symm
@[go_sem] theorem vls_set (l : List Vl) (i : Nat) (a : Bool) (b : Int) : (vls l).set i (.agg [bV a, uV b]) = vls (l.set i ⟨a, b⟩) := (List.map_set (f := vlC) (l := l) (i := i) (a := ⟨a, b⟩)).symm
theorem iVs_zeros (n : Nat) : List.replicate n (iV 0) = iVs (List.replicate n 0) := by simp [iVs]
theorem uVs_zeros (n : Nat) : List.replicate n (uV 0) = uVs (List.replicate n 0) := by simp [uVs]
theorem vls_zeros (n : Nat) : List.replicate n (V.agg [bV false, uV 0]) = vls (List.replicate n ⟨false, 0⟩) := by simp [vls, vlC]
theorem nl_iVs (l : List Int) : NL (.ro 1 (iVs l)) := .ro fun v hv => by obtain ⟨a, _, rfl⟩ := List.mem_map.1 hv; exact .cons (.val _) .nil
theorem nl_uVs (l : List Int) : NL (.ro 1 (uVs l)) := .ro fun v hv => by obtain ⟨a, _, rfl⟩ := List.mem_map.1 hv; exact .cons (.val _) .nil
theorem nl_bVs (l : List Bool) : NL (.ro 1 (bVs l)) := .ro fun v hv => by obtain ⟨a, _, rfl⟩ := List.mem_map.1 hv; exact .cons (.val _) .nil
theorem nl_vls (l : List Vl) : NL (.ro 2 (vls l)) := .ro fun v hv => by obtain ⟨a, _, rfl⟩ := List.mem_map.1 hv; exact .cons (.val _) (.cons (.val _) .nil)

/-! ## Ops -/

def memI (x : Ins) : Bool := memB x.op
def memL (l : List Ins) : Nat := l.countP memI
def opC (p : Nat × Nat) : V := .agg [iV (p.1 : Nat), iV (p.2 : Nat)]
def opsC (l : List (Nat × Nat)) : List V := l.map opC
def opsL (th : Nat) : Nat → List Ins → List (Nat × Nat)
  | _, [] => []
  | i, x :: l => if memI x then (th, i) :: opsL th (i + 1) l else opsL th (i + 1) l
def opsT : Nat → List (List Ins) → List (Nat × Nat)
  | _, [] => []
  | i, l :: r => opsL i 0 l ++ opsT (i + 1) r
theorem opsL_len (th : Nat) : ∀ (i : Nat) (l : List Ins), (opsL th i l).length = memL l
  | _, [] => rfl
  | i, x :: l => by
    unfold opsL memL
    have := opsL_len th (i + 1) l
    unfold memL at this
    by_cases h : memI x = true
    · rw [if_pos h, List.countP_cons_of_pos h, List.length_cons, this]
    · rw [if_neg h, List.countP_cons_of_neg h, this]
theorem opsT_len : ∀ (i : Nat) (l : List (List Ins)), (opsT i l).length = (l.map memL).sum
  | _, [] => rfl
  | i, x :: l => by simp [opsT, opsL_len, opsT_len (i + 1) l]
def nOps (t : Tst) : Nat := (t.ths.map memL).sum

/-! ## Reckon -/

def reck (op a b : Int) : Int :=
  if op = 2 then IntKind.u64.wrap (a + b) else if op = 3 then IntKind.u64.wrap (a - b) else if op = 4 then x64 a b else if op = 5 then n64 a b else if op = 6 then o64 a b
  else if op = 7 then sl64 a (n64 b 63) else sr64 a (n64 b 63)

/-! ## a walker's steps -/

/-- what is known of each Op -/
structure Fl where
  state : List Int
  write : List Vl
  pair : List Int
  place : List Int
  value : List Int
  path : List Int
structure FlOk (n : Nat) (f : Fl) : Prop where
  l1 : f.state.length = n
  l2 : f.write.length = n
  l3 : f.pair.length = n
  l4 : f.place.length = n
  l5 : f.value.length = n
  l6 : f.path.length = n

def argW (w : Wk) (r : Bool) (n : Int) : Vl := if r then w.regs n.toNat else ⟨true, n⟩
def argH (w : Wk) (r : Bool) (n : Int) : Int := if r then w.hangs n.toNat else 0
def setW (w : Wk) (rd : Int) (v : Vl) (on : Int) : Wk := { w with regs := fun q => if q = rd.toNat then clean v else w.regs q, hangs := fun q => if q = rd.toNat then on else w.hangs q }

def condF (w : Wk) (f : Fl) (x : Ins) (k : Nat) (a : Vl) (on : Int) (works : Bool) : Fl :=
  let pr := if 0 < w.lr ∧ w.lrLoc = x.loc then f.pair.set k w.lr else f.pair
  if works then { f with pair := pr, write := f.write.set k a, value := f.value.set k on } else { f with pair := pr, state := f.state.set k 2, path := f.path.set k 0, place := f.place.set k 0 }
def condW (w : Wk) (x : Ins) (k : Nat) (works : Bool) : Wk :=
  if works then setW { w with lr := 0 } x.rd ⟨true, 0⟩ (sl64 1 (k : Nat)) else setW { w with lr := 0 } x.rd ⟨true, 1⟩ 0
def memF0 (w : Wk) (f : Fl) (x : Ins) (k : Nat) : Fl :=
  { f with state := f.state.set k 1, path := f.path.set k w.path, place := if 0 < x.dep then f.place.set k (w.hangs (x.dep - 1).toNat) else f.place }
def memF (w : Wk) (f : Fl) (x : Ins) (k : Nat) (read : Vl) (works : Bool) : Fl :=
  let f := memF0 w f x k
  let a := argW w x.aR x.aN
  let on := argH w x.aR x.aN
  if x.op = 10 ∨ x.op = 11 then { f with write := f.write.set k a, value := f.value.set k on }
  else if x.op = 12 then { f with write := f.write.set k (clean (vsum a read)), value := f.value.set k on }
  else if x.op = 14 then condF w f x k a on works else f
def memW (w : Wk) (x : Ins) (k : Nat) (read : Vl) (works : Bool) : Wk :=
  if x.op = 9 then setW w x.rd read (sl64 1 (k : Nat))
  else if x.op = 13 then { setW w x.rd read (sl64 1 (k : Nat)) with lr := (k : Nat) + 1, lrLoc := x.loc }
  else if x.op = 10 then w
  else if x.op = 11 ∨ x.op = 12 then setW w x.rd read (sl64 1 (k : Nat))
  else if x.op = 14 then condW w x k works else w
def brW (w : Wk) (x : Ins) : Wk := { w with path := o64 w.path (o64 (argH w x.aR x.aN) (argH w x.bR x.bN)) }
def brK (w : Wk) (x : Ins) : Bool := (argW w x.aR x.aN).k && (argW w x.bR x.bN).k
def brN (w : Wk) (x : Ins) : Int := if brK w x && (decide ((argW w x.aR x.aN).v = (argW w x.bR x.bN).v) == decide (x.op = 16)) then x.skip else 0
def plainW (w : Wk) (x : Ins) : Wk :=
  if x.op = 15 then w else if x.op = 1 then setW w x.rd (argW w x.aR x.aN) 0
  else setW w x.rd ⟨(argW w x.aR x.aN).k && (argW w x.bR x.bN).k, reck x.op (argW w x.aR x.aN).v (argW w x.bR x.bN).v⟩ (o64 (argH w x.aR x.aN) (argH w x.bR x.bN))

/-- what is asked of an instruction -/
structure InsOk (x : Ins) : Prop where
  rd0 : 0 ≤ x.rd
  rd8 : x.rd < 8
  a : x.aR = true → 0 ≤ x.aN ∧ x.aN < 8
  b : x.bR = true → 0 ≤ x.bN ∧ x.bN < 8
  dep : x.dep ≤ 8
  skip : x.skip ≤ 9223372036854775807
theorem memF0_ok {m : Nat} {f : Fl} (h : FlOk m f) (w : Wk) (x : Ins) (k : Nat) : FlOk m (memF0 w f x k) := by
  obtain ⟨l1, l2, l3, l4, l5, l6⟩ := h
  unfold memF0
  refine ⟨by simpa using l1, l2, l3, ?_, l5, by simpa using l6⟩
  dsimp only; split
  · simpa using l4
  · exact l4
theorem condF_ok {m : Nat} {f : Fl} (h : FlOk m f) (w : Wk) (x : Ins) (k : Nat) (a : Vl) (on : Int) (b : Bool) : FlOk m (condF w f x k a on b) := by
  obtain ⟨l1, l2, l3, l4, l5, l6⟩ := h
  have h3 : (if 0 < w.lr ∧ w.lrLoc = x.loc then f.pair.set k w.lr else f.pair).length = m := by split <;> simpa using l3
  unfold condF
  cases b
  · exact ⟨by simpa using l1, l2, h3, by simpa using l4, l5, by simpa using l6⟩
  · exact ⟨l1, by simpa using l2, h3, l4, by simpa using l5, l6⟩
theorem memF_ok {m : Nat} {f : Fl} (h : FlOk m f) (w : Wk) (x : Ins) (k : Nat) (r : Vl) (b : Bool) : FlOk m (memF w f x k r b) := by
  have h0 := memF0_ok h w x k
  unfold memF
  dsimp only
  split
  · obtain ⟨l1, l2, l3, l4, l5, l6⟩ := h0
    exact ⟨l1, by simpa using l2, l3, l4, by simpa using l5, l6⟩
  · split
    · obtain ⟨l1, l2, l3, l4, l5, l6⟩ := h0
      exact ⟨l1, by simpa using l2, l3, l4, by simpa using l5, l6⟩
    · split
      · exact condF_ok h0 _ _ _ _ _ _
      · exact h0

/-- a thread under way: how many are left out, the next Op's number -/
structure Ts where
  w : Wk
  f : Fl
  out : Int
  k : Nat
def zV : Vl := ⟨false, 0⟩
def stepT (reads : List Vl) (works : List Bool) (i : Nat) (x : Ins) (s : Ts) : Ts :=
  if 0 < s.out then { w := { s.w with left := o64 s.w.left (sl64 1 (i : Nat)) }, f := if memI x then { s.f with state := s.f.state.set s.k 2 } else s.f, out := s.out - 1, k := if memI x then s.k + 1 else s.k }
  else if memI x then { w := memW s.w x s.k (reads.getD s.k zV) (works.getD s.k false), f := memF s.w s.f x s.k (reads.getD s.k zV) (works.getD s.k false), out := s.out, k := s.k + 1 }
  else if isBr x.op then { s with w := brW s.w x, out := brN s.w x }
  else { s with w := plainW s.w x }
def stepB (x : Ins) (s : Ts) : Bool := !(decide (s.out ≤ 0) && !memI x && isBr x.op && !brK s.w x)
def runT (reads : List Vl) (works : List Bool) : Nat → List Ins → Ts → Ts × Bool
  | _, [], s => (s, true)
  | i, x :: l, s => if stepB x s then runT reads works (i + 1) l (stepT reads works i x s) else (stepT reads works i x s, false)

theorem drop_cons {α : Type} {l : List α} {i : Nat} {x : α} (h : l[i]? = some x) : l.drop i = x :: l.drop (i + 1) := by
  obtain ⟨h1, h2⟩ := List.getElem?_eq_some_iff.1 h
  rw [List.drop_eq_getElem_cons h1, h2]
theorem memL_cons (x : Ins) (l : List Ins) : memL (x :: l) = (if memI x then 1 else 0) + memL l := by
  unfold memL
  rw [List.countP_cons]; omega
theorem memL_drop {l : List Ins} {i : Nat} {x : Ins} (h : l[i]? = some x) : memL (l.drop i) = (if memI x then 1 else 0) + memL (l.drop (i + 1)) := by rw [drop_cons h, memL_cons]
theorem runT_step {reads : List Vl} {works : List Bool} {l : List Ins} {i : Nat} {x : Ins} {s : Ts} (h : l[i]? = some x) (hb : stepB x s = true) : runT reads works i (l.drop i) s = runT reads works (i + 1) (l.drop (i + 1)) (stepT reads works i x s) := by
  rw [drop_cons h, runT, if_pos hb]
theorem runT_stop {reads : List Vl} {works : List Bool} {l : List Ins} {i : Nat} {x : Ins} {s : Ts} (h : l[i]? = some x) (hb : stepB x s = false) : runT reads works i (l.drop i) s = (stepT reads works i x s, false) := by
  rw [drop_cons h, runT, if_neg (by simp [hb])]
theorem stepT_ok {m : Nat} {reads : List Vl} {works : List Bool} {i : Nat} {x : Ins} {s : Ts} (h : FlOk m s.f) : FlOk m (stepT reads works i x s).f := by
  unfold stepT
  split
  · dsimp only
    split
    · obtain ⟨l1, l2, l3, l4, l5, l6⟩ := h
      exact ⟨by simpa using l1, l2, l3, l4, l5, l6⟩
    · exact h
  · split
    · exact memF_ok h _ _ _ _ _
    · split
      · exact h
      · exact h
theorem stepT_k {reads : List Vl} {works : List Bool} {l : List Ins} {i : Nat} {x : Ins} {s : Ts} (h : l[i]? = some x) : (stepT reads works i x s).k + memL (l.drop (i + 1)) ≤ s.k + memL (l.drop i) := by
  rw [memL_drop h]
  unfold stepT
  split
  · dsimp only
    split <;> omega
  · split
    · dsimp only; omega
    · split <;> (dsimp only; omega)
theorem stepT_out {reads : List Vl} {works : List Bool} {i : Nat} {x : Ins} {s : Ts} (h : s.out ≤ 9223372036854775807) (hx : InsOk x) : (stepT reads works i x s).out ≤ 9223372036854775807 := by
  have := hx.skip
  unfold stepT
  split
  · dsimp only; omega
  · split
    · exact h
    · split
      · show brN s.w x ≤ _
        unfold brN
        split <;> omega
      · exact h

/-! ## what threads do -/

def w0 : Wk := { regs := fun _ => ⟨true, 0⟩, hangs := fun _ => 0, path := 0, left := 0, lr := 0, lrLoc := 0 }
def f0 (n : Nat) : Fl := { state := List.replicate n 0, write := List.replicate n ⟨false, 0⟩, pair := List.replicate n 0, place := List.replicate n 0, value := List.replicate n 0, path := List.replicate n 0 }
structure Os' where
  f : Fl
  left : List Int
  regs : List (Nat → Vl)
  whole : Bool
  k : Nat
def allK (g : Nat → Vl) : Bool := (List.range 8).all fun r => (g r).k
def stepO (reads : List Vl) (works : List Bool) (l : List Ins) (s : Os') : Os' :=
  let r := runT reads works 0 l { w := w0, f := s.f, out := 0, k := s.k }
  { f := r.1.f, left := s.left ++ [r.1.w.left], regs := s.regs ++ [r.1.w.regs], whole := s.whole && r.2 && allK r.1.w.regs, k := s.k + memL l }
def runO (reads : List Vl) (works : List Bool) : List (List Ins) → Os' → Os'
  | [], s => s
  | l :: r, s => runO reads works r (stepO reads works l s)
def flowOf (t : Tst) (reads : List Vl) (works : List Bool) : Os' := runO reads works t.ths { f := f0 (nOps t), left := [], regs := [], whole := true, k := 0 }
def regsRows (l : List (Nat → Vl)) : List V := l.map fun g => .agg (regsC g)
def Os'.cs (s : Os') : List V := [.ro 1 (iVs s.f.state), .ro 2 (vls s.f.write), .ro 1 (iVs s.f.pair), .ro 1 (uVs s.f.place), .ro 1 (uVs s.f.value), .ro 1 (uVs s.f.path), .ro 1 (uVs s.left), .ro 16 (regsRows s.regs), bV s.whole]
end Go.Proofs.Ytokdphmnlcmbbaa
/- Ops of a test, one by one. -/
namespace Go.Proofs.Ytokdphmnlcmbbaa
open Go Go.Sl

theorem opsL_append (th : Nat) : ∀ (i : Nat) (l l' : List Ins), opsL th i (l ++ l') = opsL th i l ++ opsL th (i + l.length) l'
  | i, [], l' => by simp [opsL]
  | i, x :: l, l' => by
    have := opsL_append th (i + 1) l l'
    have e : i + 1 + l.length = i + (l.length + 1) := by omega
    simp only [List.cons_append, opsL, this, List.length_cons, e]
    split <;> simp
theorem opsT_append : ∀ (i : Nat) (l l' : List (List Ins)), opsT i (l ++ l') = opsT i l ++ opsT (i + l.length) l'
  | i, [], l' => by simp [opsT]
  | i, x :: l, l' => by
    have := opsT_append (i + 1) l l'
    have e : i + 1 + l.length = i + (l.length + 1) := by omega
    simp only [List.cons_append, opsT, this, List.length_cons, e, List.append_assoc]
def opO (t : List (List Ins)) (i : Nat) : List (Nat × Nat) := opsT 0 (t.take i)
def opP (t : List (List Ins)) (i : Nat) (l : List Ins) (b : Nat) : List (Nat × Nat) := opO t i ++ opsL i 0 (l.take b)
theorem opO_zero (t : List (List Ins)) : opO t 0 = [] := rfl
theorem opO_all (t : List (List Ins)) : opO t t.length = opsT 0 t := by unfold opO; rw [List.take_length]
theorem opP_zero (t : List (List Ins)) (i : Nat) (l : List Ins) : opP t i l 0 = opO t i := by simp [opP, opsL]
theorem opP_yes {t : List (List Ins)} {i : Nat} {l : List Ins} {b : Nat} {x : Ins} (h : l[b]? = some x) (hm : memI x = true) : opP t i l (b + 1) = opP t i l b ++ [(i, b)] := by
  have hb : (l.take b).length = b := by rw [List.length_take]; have := (List.getElem?_eq_some_iff.1 h).1; omega
  unfold opP
  rw [takeAt h, opsL_append, hb]
  simp [opsL, hm]
theorem opP_no {t : List (List Ins)} {i : Nat} {l : List Ins} {b : Nat} {x : Ins} (h : l[b]? = some x) (hm : memI x = false) : opP t i l (b + 1) = opP t i l b := by
  unfold opP
  rw [takeAt h, opsL_append]
  simp [opsL, hm]
theorem opP_end {t : List (List Ins)} {i : Nat} {l : List Ins} (h : t[i]? = some l) : opP t i l l.length = opO t (i + 1) := by
  have hb : (t.take i).length = i := by rw [List.length_take]; have := (List.getElem?_eq_some_iff.1 h).1; omega
  unfold opP opO
  rw [takeAt h, opsT_append, hb, List.take_length]
  simp [opsT]
theorem memL_le (l : List Ins) : memL l ≤ l.length := List.countP_le_length
theorem opsT_le {n : Nat} : ∀ (i : Nat) (l : List (List Ins)), (∀ x ∈ l, x.length ≤ n) → (opsT i l).length ≤ n * l.length
  | _, [], _ => by simp [opsT]
  | i, x :: l, h => by
    have := opsT_le (i + 1) l fun y hy => h y (by simp [hy])
    have h1 := h x (by simp)
    have h2 := memL_le x
    simp only [opsT, List.length_append, opsL_len, List.length_cons, Nat.mul_succ]
    omega
theorem opP_len {t : List (List Ins)} {i : Nat} {l : List Ins} {b : Nat} (h : ∀ x ∈ t, x.length ≤ 1000) (ht : t.length ≤ 1000) (hl : l.length ≤ 1000) : (opP t i l b).length ≤ 1001000 := by
  have h1 := opsT_le 0 (t.take i) fun x hx => h x (List.mem_of_mem_take hx)
  have h2 := memL_le (l.take b)
  rw [List.length_take] at h1 h2
  unfold opP opO
  rw [List.length_append, opsL_len]
  have : 1000 * min i t.length ≤ 1000 * 1000 := Nat.mul_le_mul_left _ (by omega)
  omega
@[go_sem] theorem opsC_len (l : List (Nat × Nat)) : (opsC l).length = l.length := List.length_map ..
@[go_sem] theorem opsC_take (l : List (Nat × Nat)) (n : Nat) : (opsC l).take n = opsC (l.take n) := (List.map_take ..).symm
@[go_sem] theorem opsC_drop (l : List (Nat × Nat)) (n : Nat) : (opsC l).drop n = opsC (l.drop n) := (List.map_drop ..).symm
@[go_sem] theorem opsC_at (l : List (Nat × Nat)) (i : Nat) : (opsC l)[i]? = l[i]?.map fun p => V.agg [iV (p.1 : Nat), iV (p.2 : Nat)] := List.getElem?_map ..
theorem opsC_append (l : List (Nat × Nat)) (a b : Nat) : opsC l ++ [V.agg [iV (a : Nat), iV (b : Nat)]] = opsC (l ++ [(a, b)]) := by simp [opsC, opC]
theorem opsC_nil : opsC [] = [] := rfl
theorem nl_opsC (l : List (Nat × Nat)) : NL (.ro 2 (opsC l)) := .ro fun v hv => by obtain ⟨a, _, rfl⟩ := List.mem_map.1 hv; exact .cons (.val _) (.cons (.val _) .nil)
end Go.Proofs.Ytokdphmnlcmbbaa
/- Flow: the Ops of a test. -/
namespace Go.Proofs.Ytokdphmnlcmbbaa
open Go Go.Sl Go.Proofs.Try

set_option maxHeartbeats 4000000 in
theorem ops_pf (t : Tst) (ht : t.ths.length ≤ 1000) (hl : ∀ x ∈ t.ths, x.length ≤ 1000) : Pf Try.prog 14 [.rp t.cs 0] (.ro 2 (opsC (opsT 0 t.ths))) := by
  refine Pf.of_fz 1 (.cons (nl_rp t) .nil) (nl_opsC _) ?_
  refine fn_in T_ok func14 rfl rfl ntmps14 rfl (by simp) ?_
  refine region_k T_ok (by decide) fun K hK => ?_
  simp [go_sem]
  refine hK _ ?_; clear hK K
  refine region_k T_ok (by decide) fun K hK => ?_
  simp [go_sem]
  refine hK _ ?_; clear hK K
  refine seq_k fun K1 hK1 => ?_
  refine region_k T_ok (by decide) fun K hK => ?_
  simp [go_sem, Tst.cs]
  refine hK _ ?_; clear hK K
  refine tr_block ?_
  refine Tr.weaken (Weaker.ghost 3 2 rfl) ?_
  refine loop_p (α := Nat × Nat × Nat) (fun a => ⟨36, [(11, .ro 1 (thrs t.ths)), (12, iV (t.ths.length : Nat)), (13, iV (a.1 : Nat)), (3, .sl a.2.1 0 (opO t.ths a.1).length)], [(a.2.1, .rows 2 (opsC (opO t.ths a.1)))], a.2.1 + a.2.2 + 1⟩) (fun a => a.1 ≤ t.ths.length) (fun a => t.ths.length - a.1) (0, 0, 0) ?_ ?_ ?_
  · dsimp only; omega
  · refine Weaker.fz 1 0 ?_ ?_ ?_
    · simp [go_sem, opO_zero, Tst.cs]
    · first | (simp; done) | (simp; omega)
    · simp [go_sem, opO_zero, opsC_nil]
  rintro ⟨i, r, c⟩ hi
  dsimp only at hi ⊢
  refine region_k T_ok (by decide) fun K hK => ?_
  simp [go_sem]
  refine hK _ ?_; clear hK K
  refine seq_k fun K2 hK2 => ?_
  refine cond_k rfl (fun h => ?_) (fun h => ?_)
  · simp at h
    have hI := h
    clear h
    have h' : i < (t.ths).length := by omega
    obtain ⟨l, hx, hx'⟩ := getAt h'
    have hi0 : (0 : Int) ≤ (i : Nat) := by omega
    have hll := hl l (List.mem_of_getElem? hx)
    have hw : IntKind.i64.wrap ((i : Nat) + 1) = (i : Nat) + 1 := wrap_i64 (by omega) (by omega)
    refine tr_skip ?_
    refine hK2 _ ?_; try clear hK2 K2
    refine seq_k fun K3 hK3 => ?_
    refine tr_block ?_
    refine region_k T_ok (by decide) fun K hK => ?_
    simp [go_sem, hI, hx, hx', hi0, h']
    refine hK _ ?_; clear hK K
    refine region_k T_ok (by decide) fun K hK => ?_
    simp [go_sem]
    refine hK _ ?_; clear hK K
    refine tr_block ?_
    refine loop_p (α := Nat × Nat × Nat) (fun b => ⟨36, [(11, .ro 1 (thrs t.ths)), (12, iV (t.ths.length : Nat)), (13, iV (i : Nat)), (4, iV (i : Nat)), (18, .ro 13 (inss l)), (19, iV (l.length : Nat)), (20, iV (b.1 : Nat)), (3, .sl b.2.1 0 (opP t.ths i l b.1).length)], [(b.2.1, .rows 2 (opsC (opP t.ths i l b.1)))], b.2.1 + b.2.2 + 1⟩) (fun b => b.1 ≤ l.length) (fun b => l.length - b.1) (0, r, c) ?_ ?_ ?_
    · dsimp only; omega
    · refine Weaker.fz 1 0 ?_ ?_ ?_
      · simp [go_sem, opP_zero]
      · first | (simp; done) | (simp; omega)
      · simp [go_sem, opP_zero]
    rintro ⟨b, r, c⟩ hib
    dsimp only at hib ⊢
    refine region_k T_ok (by decide) fun K hK => ?_
    simp [go_sem]
    refine hK _ ?_; clear hK K
    refine seq_k fun K4 hK4 => ?_
    refine cond_k rfl (fun h => ?_) (fun h => ?_)
    · simp at h
      have hI2 := h
      clear h
      have h'2 : b < (l).length := by omega
      obtain ⟨x, hx2, hx'2⟩ := getAt h'2
      have hi02 : (0 : Int) ≤ (b : Nat) := by omega
      have hw2 : IntKind.i64.wrap ((b : Nat) + 1) = (b : Nat) + 1 := wrap_i64 (by omega) (by omega)
      refine tr_skip ?_
      refine hK4 _ ?_; try clear hK4 K4
      refine seq_k fun K5 hK5 => ?_
      refine tr_block ?_
      refine region_k T_ok (by decide) fun K hK => ?_
      simp [go_sem, hI2, hx2, hx'2, hi02, h'2, insC]
      refine hK _ ?_; clear hK K
      refine region_k T_ok (by decide) fun K hK => ?_
      simp [go_sem, insC]
      refine call_pf (ismem_pf x) ?_
      simp [go_sem]
      refine hK _ ?_; clear hK K
      refine cond_k rfl (fun h => ?_) (fun h => ?_)
      · have hm : memI x = true := h
        clear h
        have hpl := opP_len (i := i) (l := l) (b := b) hl ht hll
        refine region_e T_ok (by decide) fun K hK => ?_
        simp [go_sem]
        refine ⟨by omega, ?_⟩
        refine hK _ ?_; clear hK K
        refine hK5 _ ?_; try clear hK5 K5
        refine region_e T_ok (by decide) fun K hK => ?_
        simp [go_sem, hw2]
        refine hK _ ?_; clear hK K
        refine ⟨(b + 1, r + c + 3, 0), ?_, ?_, ?_⟩
        · dsimp only; omega
        · dsimp only; omega
        · refine Weaker.fz 1 0 ?_ ?_ ?_
          · simp [go_sem, opP_yes hx2 hm]
          · first | (simp; done) | (simp; omega)
          simp [go_sem, opP_yes hx2 hm, opsC_append]
      · have hm : memI x = false := by simpa [memI] using h
        clear h
        refine tr_skip ?_
        refine hK5 _ ?_; try clear hK5 K5
        refine region_e T_ok (by decide) fun K hK => ?_
        simp [go_sem, hw2]
        refine hK _ ?_; clear hK K
        refine ⟨(b + 1, r, c + 1), ?_, ?_, ?_⟩
        · dsimp only; omega
        · dsimp only; omega
        · refine Weaker.fz 1 0 ?_ ?_ ?_
          · simp [go_sem, opP_no hx2 hm]
          · first | (simp; done) | (simp; omega)
          simp [go_sem, opP_no hx2 hm]
    · simp at h
      obtain rfl : b = l.length := by omega
      refine tr_exit ?_
      refine hK3 _ ?_; try clear hK3 K3
      refine region_e T_ok (by decide) fun K hK => ?_
      simp [go_sem, hw]
      refine hK _ ?_; clear hK K
      refine ⟨(i + 1, r, c), ?_, ?_, ?_⟩
      · dsimp only; omega
      · dsimp only; omega
      · refine Weaker.fz 1 0 ?_ ?_ ?_
        · simp [go_sem, opP_end hx]
        · first | (simp; done) | (simp; omega)
        simp [go_sem, opP_end hx]
  · simp at h
    obtain rfl : i = t.ths.length := by omega
    refine tr_exit ?_
    refine hK1 _ ?_; try clear hK1 K1
    refine region_k T_ok (by decide) fun K hK => ?_
    simp [go_sem]
    refine hK _ ?_; clear hK K
    refine tr_ret ⟨.inr rfl, ?_⟩
    simp [go_sem, opO_all]

end Go.Proofs.Ytokdphmnlcmbbaa
/- What threads do: the steps of Of. -/
namespace Go.Proofs.Ytokdphmnlcmbbaa
open Go Go.Sl

def wkI (b : Nat) : Wk := { regs := fun r => ⟨decide (r < b), 0⟩, hangs := fun _ => 0, path := 0, left := 0, lr := 0, lrLoc := 0 }
@[go_sem high] theorem wkI_zero (f : V) : V.agg [f, bV false, uV 0, bV false, uV 0, bV false, uV 0, bV false, uV 0, bV false, uV 0, bV false, uV 0, bV false, uV 0, bV false, uV 0, uV 0, uV 0, uV 0, uV 0, uV 0, uV 0, uV 0, uV 0, uV 0, uV 0, iV 0, iV 0] = .agg (wkC f (wkI 0)) := Eq.trans rfl rfl
theorem wkI_step (f : V) (b : Nat) : wkC f { regs := fun q => if q = b then ⟨true, ((wkI b).regs b).v⟩ else (wkI b).regs q, hangs := (wkI b).hangs, path := (wkI b).path, left := (wkI b).left, lr := (wkI b).lr, lrLoc := (wkI b).lrLoc } = wkC f (wkI (b + 1)) := by
  congr 1
  unfold wkI
  simp only [Wk.mk.injEq, and_true]
  funext q
  by_cases h : q = b
  · subst h; simp
  · rw [if_neg h]
    simp only [Vl.mk.injEq, and_true]
    rw [Bool.eq_iff_iff, decide_eq_true_eq, decide_eq_true_eq]; omega
theorem wk_one {f : V} {x : Wk} (hf : f.one = true) : ∀ c ∈ wkC f x, c.one = true := (fits_iff.1 (wk_fits (x := x) hf)).2
theorem regs_one (g : Nat → Vl) : ∀ c ∈ regsC g, c.one = true := (fits_iff.1 (regsC_fits (g := g))).2
theorem wkI_8 (f : V) : wkC f (wkI 8) = wkC f w0 := rfl
def allP (g : Nat → Vl) (b : Nat) : Bool := (List.range b).all fun r => (g r).k
theorem allP_zero (g : Nat → Vl) : allP g 0 = true := rfl
theorem allP_step (g : Nat → Vl) (b : Nat) : allP g (b + 1) = (allP g b && (g b).k) := by unfold allP; rw [List.range_succ, List.all_append]; simp
theorem allP_8 (g : Nat → Vl) : allP g 8 = allK g := rfl
def whP (s r : Bool) (g : Nat → Vl) (b : Nat) : Bool := s && r && allP g b
theorem whP_zero (s r : Bool) (g : Nat → Vl) : whP s r g 0 = (s && r) := by simp [whP, allP_zero]
theorem whP_step (s r : Bool) (g : Nat → Vl) (b : Nat) : whP s r g (b + 1) = (whP s r g b && (g b).k) := by simp [whP, allP_step, Bool.and_assoc]
theorem whP_8 (s r : Bool) (g : Nat → Vl) : whP s r g 8 = (s && r && allK g) := rfl
/-- the number of the next Op -/
def kP (k : Nat) (l : List Ins) (b : Nat) : Nat := k + memL (l.take b)
theorem kP_zero (k : Nat) (l : List Ins) : kP k l 0 = k := by simp [kP, memL]
theorem memL_take {l : List Ins} {b : Nat} {x : Ins} (h : l[b]? = some x) : memL (l.take (b + 1)) = memL (l.take b) + if memI x then 1 else 0 := by
  unfold memL
  rw [takeAt h, List.countP_append, List.countP_cons]
  simp
theorem kP_yes {k : Nat} {l : List Ins} {b : Nat} {x : Ins} (h : l[b]? = some x) (hm : memI x = true) : kP k l (b + 1) = kP k l b + 1 := by unfold kP; rw [memL_take h, if_pos hm]; omega
theorem kP_no {k : Nat} {l : List Ins} {b : Nat} {x : Ins} (h : l[b]? = some x) (hm : memI x = false) : kP k l (b + 1) = kP k l b := by unfold kP; rw [memL_take h, hm]; simp
theorem kP_all (k : Nat) (l : List Ins) : kP k l l.length = k + memL l := by unfold kP; rw [List.take_length]
theorem kP_le (k : Nat) (l : List Ins) (b : Nat) : kP k l b ≤ k + l.length := by
  unfold kP
  have := memL_le (l.take b)
  rw [List.length_take] at this; omega

theorem runT_ok {m : Nat} {reads : List Vl} {works : List Bool} : ∀ (i : Nat) (l : List Ins) (s : Ts), FlOk m s.f → FlOk m (runT reads works i l s).1.f
  | _, [], _, h => h
  | i, x :: l, s, h => by
    unfold runT
    split
    · exact runT_ok (i + 1) l _ (stepT_ok h)
    · exact stepT_ok h
theorem stepO_ok {m : Nat} {reads : List Vl} {works : List Bool} {l : List Ins} {s : Os'} (h : FlOk m s.f) : FlOk m (stepO reads works l s).f := runT_ok _ _ _ h
theorem f0_ok (n : Nat) : FlOk n (f0 n) := ⟨by simp [f0], by simp [f0], by simp [f0], by simp [f0], by simp [f0], by simp [f0]⟩
def leftOps (t : Tst) (i : Nat) : Nat := ((t.ths.drop i).map memL).sum
theorem leftOps_step {t : Tst} {i : Nat} {l : List Ins} (h : t.ths[i]? = some l) : leftOps t i = memL l + leftOps t (i + 1) := by unfold leftOps; rw [drop_cons h]; simp
theorem runO_step {t : Tst} {reads : List Vl} {works : List Bool} {i : Nat} {l : List Ins} {s : Os'} (h : t.ths[i]? = some l) : runO reads works (t.ths.drop i) s = runO reads works (t.ths.drop (i + 1)) (stepO reads works l s) := by rw [drop_cons h, runO]
@[go_sem] theorem regsRows_len (l : List (Nat → Vl)) : (regsRows l).length = l.length := List.length_map ..
@[go_sem] theorem regsRows_take (l : List (Nat → Vl)) (n : Nat) : (regsRows l).take n = regsRows (l.take n) := (List.map_take ..).symm
theorem regsRows_append (l : List (Nat → Vl)) (g : Nat → Vl) : regsRows l ++ [V.agg (regsC g)] = regsRows (l ++ [g]) := by simp [regsRows]
theorem regsRows_nil : regsRows [] = [] := rfl
@[go_sem] theorem uVs_take (l : List Int) (n : Nat) : (uVs l).take n = uVs (l.take n) := (List.map_take ..).symm
@[go_sem] theorem iVs_take (l : List Int) (n : Nat) : (iVs l).take n = iVs (l.take n) := (List.map_take ..).symm
@[go_sem] theorem vls_take (l : List Vl) (n : Nat) : (vls l).take n = vls (l.take n) := (List.map_take ..).symm
theorem uVs_append (l : List Int) (n : Int) : uVs l ++ [uV n] = uVs (l ++ [n]) := by simp [uVs]
theorem uVs_nil : uVs [] = [] := rfl
theorem nl_rows (l : List (Nat → Vl)) : NL (.ro 16 (regsRows l)) := .ro fun v hv => by obtain ⟨g, _, rfl⟩ := List.mem_map.1 hv; exact nl_regs g
theorem nl_flow (s : Os') : NL (.rp s.cs 0) := .rp (.cons (nl_iVs _) (.cons (nl_vls _) (.cons (nl_iVs _) (.cons (nl_uVs _) (.cons (nl_uVs _) (.cons (nl_uVs _) (.cons (nl_uVs _) (.cons (nl_rows _) (.cons (.val _) .nil)))))))))
end Go.Proofs.Ytokdphmnlcmbbaa
/- What is given to flow: numbers and truths, as many as there are Ops. -/
namespace Go.Proofs.Ytokdphmnlcmbbaa
open Go Go.Sl

/-- a row by place -/
def tab {α : Type} (n : Nat) (f : Nat → α) : List α := (List.range n).map f
section
variable {α : Type} {n : Nat} {f g : Nat → α}
@[go_sem] theorem tab_len : (tab n f).length = n := by simp [tab]
theorem tab_at {i : Nat} (h : i < n) : (tab n f)[i]? = some (f i) := by simp [tab, List.getElem?_map, List.getElem?_range h]
@[go_sem] theorem tab_get {i : Nat} (h : i < (tab n f).length) : (tab n f)[i] = f i := by simp [tab]
theorem tab_set (k : Nat) (x : α) : (tab n f).set k x = tab n fun q => if q = k then x else f q := by
  apply List.ext_getElem?
  intro i
  by_cases h : i < n
  · rw [tab_at h, List.getElem?_set]
    by_cases e : k = i
    · subst e
      rw [if_pos rfl, if_pos (by rw [tab_len]; exact h), if_pos rfl]
    · rw [if_neg e, tab_at h, if_neg (Ne.symm e)]
  · rw [List.getElem?_eq_none (by rw [List.length_set, tab_len]; omega), List.getElem?_eq_none (by rw [tab_len]; omega)]
theorem tab_ext (h : ∀ q, q < n → f q = g q) : tab n f = tab n g := List.map_congr_left fun q hq => h q (List.mem_range.1 hq)
theorem tab_const (x : α) : tab n (fun _ => x) = List.replicate n x := by simp [tab, List.map_const']
@[go_sem] theorem tab_take : (tab n f).take n = tab n f := List.take_of_length_le (by rw [tab_len]; omega)
theorem tab_getD {i : Nat} {d : α} (h : i < n) : (tab n f).getD i d = f i := by simp [List.getD, tab_at h]
end

def giv (reads : List Vl) (q : Nat) : Vl := if (reads.getD q zV).k then reads.getD q zV else zV
def gaN (reads : List Vl) (i q : Nat) : Vl := if q < i then giv reads q else zV
def gbN (works : List Bool) (i q : Nat) : Bool := if q < i then works.getD q false else false
def givA (reads : List Vl) (n : Nat) : List Vl := tab n (gaN reads n)
def givB (works : List Bool) (n : Nat) : List Bool := tab n (gbN works n)
theorem gaN_zero (reads : List Vl) : gaN reads 0 = fun _ => zV := by funext q; simp [gaN]
theorem gbN_zero (works : List Bool) : gbN works 0 = fun _ => false := by funext q; simp [gbN]
theorem gaN_yes {reads : List Vl} {i : Nat} {x : Vl} (h : giv reads i = x) : (fun q => if q = i then x else gaN reads i q) = gaN reads (i + 1) := by
  funext q
  unfold gaN
  by_cases e : q = i
  · subst e; simp [h]
  · rw [if_neg e]
    by_cases h2 : q < i
    · rw [if_pos h2, if_pos (by omega)]
    · rw [if_neg h2, if_neg (by omega)]
theorem gaN_no {reads : List Vl} {i : Nat} (h : giv reads i = zV) : gaN reads (i + 1) = gaN reads i := by
  rw [← gaN_yes h]
  funext q
  by_cases e : q = i
  · subst e; simp [gaN]
  · rw [if_neg e]
theorem gbN_yes {works : List Bool} {i : Nat} {x : Bool} (h : works.getD i false = x) : (fun q => if q = i then x else gbN works i q) = gbN works (i + 1) := by
  funext q
  unfold gbN
  by_cases e : q = i
  · subst e; simp only [if_pos, Nat.lt_succ_self]; exact h.symm
  · rw [if_neg e]
    by_cases h2 : q < i
    · rw [if_pos h2, if_pos (by omega)]
    · rw [if_neg h2, if_neg (by omega)]
theorem gbN_no {works : List Bool} {i : Nat} (h : works.length ≤ i) : gbN works (i + 1) = gbN works i := by
  rw [← gbN_yes (show works.getD i false = false by simp [List.getD, List.getElem?_eq_none h])]
  funext q
  by_cases e : q = i
  · subst e; simp [gbN]
  · rw [if_neg e]
theorem gaN_self (reads : List Vl) (i : Nat) : gaN reads (i + 1) i = giv reads i := by simp [gaN]

/-- the document's numbers, on nothing -/
def rvs (l : List Vl) : List V := l.map fun x => .agg [bV x.k, uV x.v, .val (.slice none 0 0)]
@[go_sem] theorem rvs_len (l : List Vl) : (rvs l).length = l.length := List.length_map ..
@[go_sem] theorem rvs_take (l : List Vl) (n : Nat) : (rvs l).take n = rvs (l.take n) := (List.map_take ..).symm
@[go_sem] theorem rvs_at (l : List Vl) (i : Nat) : (rvs l)[i]? = l[i]?.map fun x => V.agg [bV x.k, uV x.v, .val (.slice none 0 0)] := List.getElem?_map ..
@[go_sem] theorem rvs_get (l : List Vl) (i : Nat) (h : i < (rvs l).length) : (rvs l)[i] = .agg [bV (l[i]'(by simpa [rvs] using h)).k, uV (l[i]'(by simpa [rvs] using h)).v, .val (.slice none 0 0)] := by simp [rvs]
@[go_sem] theorem rvs_set (l : List Vl) (i : Nat) (a : Bool) (b : Int) : (rvs l).set i (.agg [bV a, uV b, .val (.slice none 0 0)]) = rvs (l.set i ⟨a, b⟩) := (List.map_set (f := fun x : Vl => V.agg [bV x.k, uV x.v, .val (.slice none 0 0)]) (l := l) (i := i) (a := ⟨a, b⟩)).symm
@[go_sem] theorem bVs_take (l : List Bool) (n : Nat) : (bVs l).take n = bVs (l.take n) := (List.map_take ..).symm
theorem rvs_zeros (n : Nat) : List.replicate n (V.agg [bV false, uV 0, .val (.slice none 0 0)]) = rvs (List.replicate n zV) := by simp [rvs, zV]
theorem bVs_zeros (n : Nat) : List.replicate n (bV false) = bVs (List.replicate n false) := by simp [bVs]
theorem vls_zeros2 (n : Nat) : List.replicate n (V.agg [bV false, uV 0]) = vls (List.replicate n zV) := vls_zeros n
theorem nl_rvs (l : List Vl) : NL (.ro 3 (rvs l)) := .ro fun v hv => by obtain ⟨a, _, rfl⟩ := List.mem_map.1 hv; exact .cons (.val _) (.cons (.val _) (.cons (.val _) .nil))
end Go.Proofs.Ytokdphmnlcmbbaa
/- Calls that are handed what is owned, and keep it; the same state, seen otherwise. -/
namespace Go.Sl

section
variable {F : Nat → Prop} {ι ι' : Names} {H H' : Heap} {P : Program}

/-- what a function is handed, seen otherwise -/
theorem Fn.pre {f : FuncId} {args args' : List V} {k : Nat} {K : V → Heap → Nat → Prop}
    (hw : ∀ F ι w cargs, VRels ι (Own F ι H) w args cargs → Rep F ι H w → VRels ι (Own F ι H') w args' cargs ∧ Rep F ι H' w ∧ Kept ι H w ι H' w ∧ ∀ n, n ∈ H'.map Prod.fst → n ∈ H.map Prod.fst)
    (h : Fn P f args' H' k K) : Fn P f args H k K :=
  ⟨h.enters, fun F ι w cargs h1 h2 h3 => by
    obtain ⟨a1, a2, a3, a4⟩ := hw F ι w cargs h1 h2
    refine (h.calls F ι w cargs a1 a2 h3).mono ?_
    rintro e w' ⟨ι', v, cv, H2, k', he, hr, hO⟩
    exact ⟨ι', v, cv, H2, k', he, hr, ⟨⟨a3.trans hO.ext.kept, hO.ext.le, hO.ext.same, fun n hn => (hO.ext.dom n hn).imp (a4 n) id⟩, hO.rep, hO.fresh, hO.val⟩⟩⟩

theorem frz_pre (d dh : Nat) {args args' : List V} (ha : args.map (frz (H'.map Prod.fst) H d) = args') (hn : (H'.map Prod.fst).Nodup) (hH : ∀ p ∈ H', ∃ B, look p.1 H = some B ∧ frzB (H'.map Prod.fst) H dh B = p.2)
    (F : Nat → Prop) (ι : Names) (w : World) (cargs : List Value) (hv : VRels ι (Own F ι H) w args cargs) (R : Rep F ι H w) : VRels ι (Own F ι H') w args' cargs ∧ Rep F ι H' w ∧ Kept ι H w ι H' w ∧ ∀ n, n ∈ H'.map Prod.fst → n ∈ H.map Prod.fst := by
  have L : Less ι (H'.map Prod.fst) H H' := ⟨fun n B hm => ⟨List.mem_map_of_mem (f := Prod.fst) hm, by
    obtain ⟨C, hC, _⟩ := hH _ hm
    exact ⟨C, look_mem hC⟩⟩⟩
  have hno : ∀ b, ¬ OwnH ι H b → ¬ OwnH ι H' b := fun b hb ⟨n, B, l, hm, hl, hg, he⟩ => by
    obtain ⟨C, hC, _⟩ := hH _ hm
    exact hb ⟨n, C, l, look_mem hC, hl, hg, he⟩
  have K : Kept ι H w ι H' w := ⟨fun _ _ h => h, rfl, rfl, rfl, Nat.le_refl _, fun _ _ _ => rfl, fun b _ h => Classical.byContradiction fun hc => hno b hc h⟩
  refine ⟨?_, ⟨R.frame, hn, fun n B hm => ?_, fun n B m C l l' h1 h2 => ?_⟩, K, fun n h => ?_⟩
  · rw [← ha]; exact hv.mapF fun v x h => frz_ok L R d v x h
  · obtain ⟨C, hC, hB⟩ := hH _ hm
    obtain ⟨l, hl, hr, hg⟩ := R.own n C (look_mem hC)
    refine ⟨l, hl, ?_, hg⟩
    have := frzB_ok L R dh hr
    rw [hB] at this; exact this
  · obtain ⟨B', hB', _⟩ := hH _ h1
    obtain ⟨C', hC', _⟩ := hH _ h2
    exact R.apart n B' m C' l l' (look_mem hB') (look_mem hC')
  · obtain ⟨p, hp, rfl⟩ := List.mem_map.1 h
    obtain ⟨C, hC, _⟩ := hH _ hp
    exact List.mem_map.2 ⟨(p.1, C), look_mem hC, rfl⟩

/-- a call of a function that changes nothing, with what is owned; it is immutable from then on -/
theorem call_fz {f : FuncId} {args : List V} {k : Nat} {K : V → Heap → Nat → Prop} {r : V} (H' : Heap) (args' : List V) (d dh : Nat) (h : Pf P f args' r) (ha : args.map (frz (H'.map Prod.fst) H d) = args') (hn : (H'.map Prod.fst).Nodup) (hH : ∀ p ∈ H', ∃ B, look p.1 H = some B ∧ frzB (H'.map Prod.fst) H dh B = p.2)
    (hK : K r H' k) : @callF P f args H k ⟨K⟩ := Fn.pre (frz_pre d dh ha hn hH) (h.fn hK)

theorem Weaker.seen {N k : Nat} {t t' : List (Nat × V)} {H : Heap} (h : ∀ p ∈ t', SeenAs (Sl.get t p.1) p.2) : Weaker ⟨N, t, H, k⟩ ⟨N, t', H, k⟩ :=
  ⟨fun F ι a w hh => ⟨ι, ⟨hh.defers, hh.size, fun i => by
    rcases get_mem t' i with e | hm
    · simp only []; rw [e]; exact .any _
    · exact h _ hm _ _ _ _ (hh.tmps i), hh.rep, hh.fresh⟩, Ext.refl _ _ _ _ _⟩⟩
/-- one by one -/
theorem seen_all {t : List (Nat × V)} : ∀ {t' : List (Nat × V)}, SeenAll (t'.map fun p => Sl.get t p.1) (t'.map Prod.snd) → ∀ p ∈ t', SeenAs (Sl.get t p.1) p.2
  | [], _, p, hp => absurd hp (List.not_mem_nil)
  | q :: r, .cons h hs, p, hp => by
    rcases List.mem_cons.1 hp with rfl | hp
    · exact h
    · exact seen_all hs p hp
end
section
variable {F : Nat → Prop} {ι ι' : Names} {O : Nat → Prop} {H H' : Heap} {σ σ' : St} {a a' : Act} {w w' : World} {P : Program} {T : Tab} {Q : Exit → St → Prop}
/-- a list of operations, then another one, from a state that is given -/
theorem vcL_cut (hT : TabOk P T) (ops : List Oper) (l l2 : List Oper) (σm : St) (K : St → Prop) (h2 : TrL P ops.toArray l2 K σm) : ∀ (σ : St), vcL T P ops σ.N l (fun σ => Weaker σ σm) σ.t σ.H σ.k → (∀ o ∈ ops, dstLt o.dst σ.N) → TrL P ops.toArray (l ++ l2) K σ := by
  induction l with
  | nil =>
    intro σ h _ F ι a w hh Q hQ
    obtain ⟨ι', hh', hx⟩ := h.h F ι a w hh
    exact h2 F ι' a w hh' Q fun ι2 σ2 a2 w2 hK2 hh2 hx2 => hQ ι2 σ2 a2 w2 hK2 hh2 (hx.trans hx2)
  | cons o rest ih =>
    intro σ h hops F ι a w hh Q hQ
    simp only [vcL] at h
    obtain ⟨hd, hg⟩ := h
    have yes : opV T P σ.t σ.H σ.k o.op (fun v H' k' => vcL T P ops σ.N rest (fun σ => Weaker σ σm) (setT σ.t o.dst v) H' k') → o.wp P a w (wpList P ops.toArray Q (rest ++ l2)) Q := fun h => by
      refine opV_sound hT trivial (fun _ => rfl) h F ι a w hh _ Q ?_
      intro ι' v cv H' k' w' hk hO
      have hh' := hh.step hO (dst := o.dst) (fun d hd' => by rw [hd'] at hd; exact hd)
      exact ih ⟨σ.N, setT σ.t o.dst v, H', k'⟩ hk hops F ι' _ w' hh' Q fun ι'' σ'' a'' w'' hK hh'' hx => hQ ι'' σ'' a'' w'' hK hh'' (hO.ext.trans hx)
    have no : vcL T P ops σ.N rest (fun σ => Weaker σ σm) (setT σ.t o.dst (.tup [])) σ.H σ.k → wpList P ops.toArray Q (rest ++ l2) (a.put o.dst undef) w := fun h =>
      ih ⟨σ.N, setT σ.t o.dst (.tup []), σ.H, σ.k⟩ h hops F ι _ w (hh.skipped hd) Q hQ
    have hg := guardO_of hg
    unfold guardO at hg
    cases hgd : o.guard with
    | none =>
      rw [hgd] at hg
      simp only [List.cons_append, wpList]
      rw [if_pos (by simp [Region.wanted, hgd])]
      exact .inl (yes hg)
    | some g =>
      obtain ⟨j, want⟩ := g
      rw [hgd] at hg
      simp only at hg
      cases hj : (ops[j]?).bind (·.dst) with
      | none => rw [hj] at hg; exact hg.elim
      | some d =>
        rw [hj] at hg
        simp only at hg
        have hdN : d < σ.N := by
          obtain ⟨oj, hoj, hdj⟩ := Option.bind_eq_some_iff.1 hj
          have := hops oj (List.mem_of_getElem? hoj)
          rw [hdj] at this; exact this
        obtain ⟨hy1, hy2⟩ := hh.yields hdN
        have hyl : ∀ b, a.tmps[d]? = some (.bool b) → yielded ops.toArray a.tmps j = some b := by
          intro b hb
          unfold yielded
          have : ((ops.toArray[j]?).bind (·.dst)) = some d := by simpa using hj
          rw [this]; simp [hb]
        simp only [List.cons_append, wpList]
        split at hg
        · rename_i b hb
          have hyb := hyl b (hy1 b hb)
          cases want <;> cases b <;> simp only [Region.wanted, hgd, hyb, if_true, if_false, Bool.false_eq_true] at hg ⊢
          · rw [if_pos (by simp)]; exact .inl (yes (hg.1 trivial))
          · rw [if_neg (by simp)]; exact no (hg.2 trivial)
          · rw [if_neg (by simp)]; exact no (hg.2 trivial)
          · rw [if_pos (by simp)]; exact .inl (yes (hg.1 trivial))
        · rename_i hb
          have ht := hy2 hb
          have hyn : yielded ops.toArray a.tmps j = none := by
            unfold yielded
            have : ((ops.toArray[j]?).bind (·.dst)) = some d := by simpa using hj
            rw [this]; simp [ht]
          rw [if_neg (by simp [Region.wanted, hgd, hyn])]
          exact no hg
        · exact hg.elim


/-- a region in parts: what stands between them is given -/
theorem reg_start {id : Nat} {l : List Oper} {y : Code} (h : TrL P l.toArray l (fun σ' => Tr P y Q σ') σ) : Tr P (.seq (.region id l.toArray false) y) Q σ :=
  tr_seq fun F ι a w hh => wp_region_lit (h F ι a w hh _ fun ι' σ' _ _ hK hh' hx => ⟨ι', σ', hK, hh', hx⟩)
theorem reg_cut (hT : TabOk P T) {l l2 : List Oper} {N k : Nat} {t : List (Nat × V)} {H : Heap} {K : St → Prop} (n : Nat) (t' : List (Nat × V)) (H' : Heap) (k' : Nat) (hN : dstsLt l N = true)
    (h1 : vcL T P l N (l2.take n) (fun σ => Weaker σ ⟨N, t', H', k'⟩) t H k) (h2 : TrL P l.toArray (l2.drop n) K ⟨N, t', H', k'⟩) : TrL P l.toArray l2 K ⟨N, t, H, k⟩ := by
  have e := vcL_cut hT l (l2.take n) (l2.drop n) ⟨N, t', H', k'⟩ K h2 ⟨N, t, H, k⟩ h1 (dstsLt_spec hN)
  rwa [List.take_append_drop] at e
theorem reg_end (hT : TabOk P T) {l l2 : List Oper} {y : Code} {N k : Nat} {t : List (Nat × V)} {H : Heap} (hN : dstsLt l N = true) (h : ∀ K : St → Prop, (∀ σ', Tr P y Q σ' → K σ') → vcL T P l N l2 K t H k) : TrL P l.toArray l2 (fun σ' => Tr P y Q σ') ⟨N, t, H, k⟩ :=
  vcL_sound hT l l2 _ ⟨N, t, H, k⟩ (h _ fun _ h => h) (dstsLt_spec hN)
end
end Go.Sl
/- Flow: the walk of the law's Given. -/
namespace Go.Proofs.Ytokdphmnlcmbbaa
open Go Go.Sl Go.Proofs.Try

set_option maxRecDepth 20000 in
set_option maxHeartbeats 4000000 in
theorem given_pf (t : Tst) (ht : t.ths.length ≤ 1000) (hl : ∀ x ∈ t.ths, x.length ≤ 1000) (reads : List Vl) (works : List Bool) : Pf Try.prog 16 [.agg t.cs, .ro 2 (vls reads), .ro 1 (bVs works)] (.tup [.ro 2 (vls (givA reads (nOps t))), .ro 1 (bVs (givB works (nOps t))), .ro 3 (rvs (givA reads (nOps t)))]) := by
  refine Pf.of_fz 2 (.cons (.agg (nl_tst t)) (.cons (nl_vls _) (.cons (nl_bVs _) .nil))) (.tup (.cons (nl_vls _) (.cons (nl_bVs _) (.cons (nl_rvs _) .nil)))) ?_
  have hmle : nOps t ≤ 1000 * t.ths.length := by unfold nOps; rw [← opsT_len 0]; exact opsT_le 0 _ hl
  have hopl : (opsT 0 t.ths).length = nOps t := opsT_len 0 _
  generalize nOps t = n at *
  have hm6 : n ≤ 1000000 := by omega
  have hm0 : (0 : Int) ≤ (n : Nat) := by omega
  have hm8 : (8 : Int) * (n : Nat) ≤ 281474976710656 := by omega
  have hm16 : (16 : Int) * (n : Nat) ≤ 281474976710656 := by omega
  have hm40 : (40 : Int) * (n : Nat) ≤ 281474976710656 := by omega
  have hm1 : (n : Int) ≤ 281474976710656 := by omega
  have hmx : (n : Int) ≤ 9223372036854775807 := by omega
  refine fn_in T_ok func16 rfl rfl ntmps16 rfl (by simp) ?_
  refine region_k T_ok (by decide) fun K hK => ?_
  simp [go_sem, Tst.cs]
  refine hK _ ?_; clear hK K
  refine region_k T_ok (by decide) fun K hK => ?_
  simp [go_sem]
  refine call_fz [] [.rp t.cs 0] 1 0 (ops_pf t ht hl) (by simp [go_sem, Tst.cs]) (by simp) (by simp) ?_
  simp [go_sem, hopl]
  refine hK _ ?_; clear hK K
  refine region_k T_ok (by decide) fun K hK => ?_
  simp [go_sem, hm0, hm16, hmx]
  refine hK _ ?_; clear hK K
  refine region_k T_ok (by decide) fun K hK => ?_
  simp [go_sem, hm0, hm1, hmx]
  refine hK _ ?_; clear hK K
  refine region_k T_ok (by decide) fun K hK => ?_
  simp [go_sem, hm0, hm40, hmx]
  refine hK _ ?_; clear hK K
  refine seq_k fun K1 hK1 => ?_
  refine region_k T_ok (by decide) fun K hK => ?_
  simp [go_sem]
  refine hK _ ?_; clear hK K
  refine tr_block ?_
  refine loop_p (α := Nat × Nat) (fun a => ⟨73, [(1, .ro 2 (vls reads)), (2, .ro 1 (bVs works)), (9, iV (n : Nat)), (10, .sl 1 0 n), (11, .sl 2 0 n), (12, .sl 3 0 n), (13, iV (a.1 : Nat))], [(1, .rows 2 (vls (tab n (gaN reads a.1)))), (2, .rows 1 (bVs (tab n (gbN works a.1)))), (3, .rows 3 (rvs (tab n (gaN reads a.1))))], a.2⟩) (fun a => a.1 ≤ n ∧ 4 ≤ a.2) (fun a => n - a.1) (0, 4) ?_ ?_ ?_
  · dsimp only; omega
  · refine Weaker.fz 1 0 ?_ ?_ ?_
    · simp [go_sem]
    · first | (simp; done) | (simp; omega)
    · simp [go_sem, gaN_zero, gbN_zero, tab_const, vls_zeros2, bVs_zeros, rvs_zeros]
  rintro ⟨i, j⟩ ⟨hi, hj⟩
  dsimp only at hi hj ⊢
  refine seq_k fun K2 hK2 => ?_
  refine region_k T_ok (by decide) fun K hK => ?_
  simp [go_sem]
  refine hK _ ?_; clear hK K
  refine cond_k rfl (fun h => ?_) (fun h => ?_)
  · simp at h
    have hiI := h
    clear h
    have h' : i < n := by omega
    have hi0 : (0 : Int) ≤ (i : Nat) := by omega
    have hw : IntKind.i64.wrap ((i : Nat) + 1) = (i : Nat) + 1 := wrap_i64 (by omega) (by omega)
    have han := tab_at (f := gaN reads i) h'
    have nI : True := trivial
    have hat : True := trivial
    have hgi : giv reads i = ⟨(giv reads i).k, (giv reads i).v⟩ := rfl
    have han2 := tab_at (f := gaN reads (i + 1)) h'
    refine tr_skip ?_
    refine hK2 _ ?_; try clear hK2 K2
    refine seq_k fun K3 hK3 => ?_
    refine tr_block ?_
    refine seq_to ⟨73, [(1, .ro 2 (vls reads)), (2, .ro 1 (bVs works)), (9, iV (n : Nat)), (10, .sl 1 0 n), (11, .sl 2 0 n), (12, .sl 3 0 n), (13, iV (i : Nat))], [(1, .rows 2 (vls (tab n (gaN reads (i + 1))))), (2, .rows 1 (bVs (tab n (gbN works i)))), (3, .rows 3 (rvs (tab n (gaN reads i))))], j⟩ ?_ ?_
    · skip
      refine region_to T_ok (by decide) ⟨73, [(1, .ro 2 (vls reads)), (2, .ro 1 (bVs works)), (9, iV (n : Nat)), (10, .sl 1 0 n), (11, .sl 2 0 n), (12, .sl 3 0 n), (13, iV (i : Nat)), (37, bV (reads.getD i zV).k)], [(1, .rows 2 (vls (tab n (gaN reads i)))), (2, .rows 1 (bVs (tab n (gbN works i)))), (3, .rows 3 (rvs (tab n (gaN reads i))))], j⟩ ?_ ?_
      · by_cases c1 : i < reads.length
        · have c1I : (i : Int) < (reads.length : Nat) := by omega
          obtain ⟨r, hr, hr'⟩ := getAt c1
          simp [go_sem, c1, c1I, hr, hr', hi0]
          refine Weaker.fz 1 0 ?_ ?_ ?_
          · simp [go_sem, c1, c1I, hr, hr', hi0]
          · first | (simp; done) | (simp; omega)
          · simp [go_sem, c1, c1I, hr, hr', hi0]
        · have c1I : ¬ (i : Int) < (reads.length : Nat) := by omega
          have c1n : reads[i]? = none := List.getElem?_eq_none (by omega)
          simp [go_sem, c1, c1I, c1n, zV]
          refine Weaker.fz 1 0 ?_ ?_ ?_
          · simp [go_sem, c1, c1I, c1n, zV]
          · first | (simp; done) | (simp; omega)
          · simp [go_sem, c1, c1I, c1n, zV]
      · skip
        refine cond_k rfl (fun h => ?_) (fun h => ?_)
        · have hk : (reads.getD i zV).k = true := h
          clear h
          have hil : i < reads.length := Classical.byContradiction fun hc => by simp [List.getD, List.getElem?_eq_none (by omega : reads.length ≤ i), zV] at hk
          obtain ⟨r, hr, hr'⟩ := getAt hil
          have hilI : (i : Int) < (reads.length : Nat) := by omega
          have hgr : giv reads i = ⟨r.k, r.v⟩ := by unfold giv; rw [if_pos hk]; simp [List.getD, hr]
          refine region_e T_ok (by decide) fun K hK => ?_
          simp [go_sem, hr, hr', hil, hilI, hi0, hiI, h', hm0]
          refine hK _ ?_; clear hK K
          refine Weaker.fzk 1 0 (by omega) ?_ ?_ ?_
          · simp [go_sem, tab_set, gaN_yes hgr]
          · first | (simp; done) | (simp; omega)
          · simp [go_sem, tab_set, gaN_yes hgr]
        · have hk : (reads.getD i zV).k = false := by simpa using h
          have hgz : giv reads i = zV := by unfold giv; rw [if_neg (by simp only [hk]; decide)]
          refine tr_skip ?_
          refine Weaker.fzk 1 0 (by omega) ?_ ?_ ?_
          · simp [go_sem, tab_set, gaN_no hgz]
          · first | (simp; done) | (simp; omega)
          · simp [go_sem, tab_set, gaN_no hgz]
    · skip
      refine seq_to ⟨73, [(1, .ro 2 (vls reads)), (2, .ro 1 (bVs works)), (9, iV (n : Nat)), (10, .sl 1 0 n), (11, .sl 2 0 n), (12, .sl 3 0 n), (13, iV (i : Nat))], [(1, .rows 2 (vls (tab n (gaN reads (i + 1))))), (2, .rows 1 (bVs (tab n (gbN works (i + 1))))), (3, .rows 3 (rvs (tab n (gaN reads i))))], j⟩ ?_ ?_
      · skip
        refine region_k T_ok (by decide) fun K hK => ?_
        simp [go_sem]
        refine hK _ ?_; clear hK K
        refine cond_k rfl (fun h => ?_) (fun h => ?_)
        · have hilI2 := h
          simp at hilI2
          clear h
          have hil2 : i < works.length := by omega
          obtain ⟨b, hb, hb'⟩ := getAt hil2
          have hgb : works.getD i false = b := by simp [List.getD, hb]
          refine region_e T_ok (by decide) fun K hK => ?_
          simp [go_sem, hb, hb', hil2, hilI2, hi0, hiI, h']
          refine hK _ ?_; clear hK K
          refine Weaker.fzk 1 0 (by omega) ?_ ?_ ?_
          · simp [go_sem, tab_set, gbN_yes hgb]
          · first | (simp; done) | (simp; omega)
          · simp [go_sem, tab_set, gbN_yes hgb]
        · simp at h
          have hnb : works.length ≤ i := by omega
          refine tr_skip ?_
          refine Weaker.fzk 1 0 (by omega) ?_ ?_ ?_
          · simp [go_sem, tab_set, gbN_no hnb]
          · first | (simp; done) | (simp; omega)
          · simp [go_sem, tab_set, gbN_no hnb]
      · skip
        refine draw_e T_ok (by kernel_rfl) 13 [[], [], [], [], [2, 3], [2, 3, 4], [2, 3, 4, 5], [], [], [7, 8], [7, 8, 9], [7, 8, 9, 10], [2, 3, 4, 5, 6, 7, 8, 9, 10, 11], [0, 1, 2, 3, 4, 5, 6, 7, 8, 9, 10, 11, 12], [0, 1, 2, 3, 4, 5, 6, 7, 8, 9, 10, 11, 12, 13]] [] (by decide) (by decide) (by decide) fun K hK => ?_
        first | dsimp only [List.take, List.drop] | dsimp [List.take, List.drop]
        simp [go_sem, hi0, hiI, h', han2]
        refine hK _ ?_; clear hK K
        refine hK3 _ ?_; try clear hK3 K3
        refine region_e T_ok (by decide) fun K hK => ?_
        simp [go_sem, hw]
        refine hK _ ?_; clear hK K
        refine ⟨(i + 1, j + 13), ?_, ?_, ?_⟩
        · dsimp only; omega
        · dsimp only; omega
        · refine Weaker.fz 1 0 ?_ ?_ ?_
          · simp [go_sem]
          · first | (simp; done) | (simp; omega)
          simp [go_sem, tab_set, gaN_self, gaN_yes hgi]
  · simp at h
    obtain rfl : i = n := by omega
    refine tr_exit ?_
    refine hK1 _ ?_; try clear hK1 K1
    refine region_k T_ok (by decide) fun K hK => ?_
    simp [go_sem]
    refine hK _ ?_; clear hK K
    refine tr_ret ⟨.inr rfl, ?_⟩
    simp [go_sem, givA, givB]

end Go.Proofs.Ytokdphmnlcmbbaa
/- Flow: numbers, and what a walker knows of an argument. -/
namespace Go.Proofs.Ytokdphmnlcmbbaa
open Go Go.Sl Go.Proofs.Try

theorem n64_nonneg (a b : Int) : 0 ≤ n64 a b := by
  unfold n64
  rw [IntWalk.u64_in _ ⟨Int.natCast_nonneg _, by have := (BitVec.ofInt 64 a &&& BitVec.ofInt 64 b).isLt; omega⟩]
  exact Int.natCast_nonneg _

theorem left_pf (a b : Int) : Pf Try.prog 19 [uV a, uV b] (uV (sl64 a (n64 b 63))) := by
  refine Pf.of_fn (.cons (.val _) (.cons (.val _) .nil)) (.val _) ?_
  refine fn_in T_ok func19 rfl rfl ntmps19 rfl (by simp) ?_
  refine region_k T_ok (by decide) fun K hK => ?_
  simp [go_sem]
  refine hK _ ?_; clear hK K
  refine region_k T_ok (by decide) fun K hK => ?_
  simp [go_sem, n64_nonneg]
  refine hK _ ?_; clear hK K
  refine tr_ret ⟨.inr rfl, ?_⟩
  simp [go_sem]

theorem right_pf (a b : Int) : Pf Try.prog 20 [uV a, uV b] (uV (sr64 a (n64 b 63))) := by
  refine Pf.of_fn (.cons (.val _) (.cons (.val _) .nil)) (.val _) ?_
  refine fn_in T_ok func20 rfl rfl ntmps20 rfl (by simp) ?_
  refine region_k T_ok (by decide) fun K hK => ?_
  simp [go_sem]
  refine hK _ ?_; clear hK K
  refine region_k T_ok (by decide) fun K hK => ?_
  simp [go_sem, n64_nonneg]
  refine hK _ ?_; clear hK K
  refine tr_ret ⟨.inr rfl, ?_⟩
  simp [go_sem]

theorem reckon_pf (op a b : Int) : Pf Try.prog 8 [iV op, uV a, uV b] (uV (reck op a b)) := by
  refine Pf.of_fn (.cons (.val _) (.cons (.val _) (.cons (.val _) .nil))) (.val _) ?_
  refine fn_in T_ok func8 rfl rfl ntmps8 rfl (by simp) ?_
  refine region_k T_ok (by decide) fun K hK => ?_
  simp [go_sem]
  refine hK _ ?_; clear hK K
  refine seq_k fun K1 hK1 => ?_
  refine region_k T_ok (by decide) fun K hK => ?_
  simp [go_sem]
  refine hK _ ?_; clear hK K
  refine tr_block ?_
  refine region_k T_ok (by decide) fun K hK => ?_
  simp [go_sem]
  refine hK _ ?_; clear hK K
  refine cond_k rfl (fun h => ?_) (fun h => ?_)
  · have h2 : op = 2 := by simpa using h
    clear h
    refine region_k T_ok (by decide) fun K hK => ?_
    simp [go_sem]
    refine hK _ ?_; clear hK K
    refine tr_ret ⟨.inr rfl, ?_⟩
    simp [go_sem, reck, h2]
  · have h2 : ¬ op = 2 := by simpa using h
    clear h
    refine region_k T_ok (by decide) fun K hK => ?_
    simp [go_sem]
    refine hK _ ?_; clear hK K
    refine cond_k rfl (fun h => ?_) (fun h => ?_)
    · have h3 : op = 3 := by simpa using h
      clear h
      refine region_k T_ok (by decide) fun K hK => ?_
      simp [go_sem]
      refine hK _ ?_; clear hK K
      refine tr_ret ⟨.inr rfl, ?_⟩
      simp [go_sem, reck, h2, h3]
    · have h3 : ¬ op = 3 := by simpa using h
      clear h
      refine region_k T_ok (by decide) fun K hK => ?_
      simp [go_sem]
      refine hK _ ?_; clear hK K
      refine cond_k rfl (fun h => ?_) (fun h => ?_)
      · have h4 : op = 4 := by simpa using h
        clear h
        refine region_k T_ok (by decide) fun K hK => ?_
        simp [go_sem]
        refine hK _ ?_; clear hK K
        refine tr_ret ⟨.inr rfl, ?_⟩
        simp [go_sem, reck, h2, h3, h4]
      · have h4 : ¬ op = 4 := by simpa using h
        clear h
        refine region_k T_ok (by decide) fun K hK => ?_
        simp [go_sem]
        refine hK _ ?_; clear hK K
        refine cond_k rfl (fun h => ?_) (fun h => ?_)
        · have h5 : op = 5 := by simpa using h
          clear h
          refine region_k T_ok (by decide) fun K hK => ?_
          simp [go_sem]
          refine hK _ ?_; clear hK K
          refine tr_ret ⟨.inr rfl, ?_⟩
          simp [go_sem, reck, h2, h3, h4, h5]
        · have h5 : ¬ op = 5 := by simpa using h
          clear h
          refine region_k T_ok (by decide) fun K hK => ?_
          simp [go_sem]
          refine hK _ ?_; clear hK K
          refine cond_k rfl (fun h => ?_) (fun h => ?_)
          · have h6 : op = 6 := by simpa using h
            clear h
            refine region_k T_ok (by decide) fun K hK => ?_
            simp [go_sem]
            refine hK _ ?_; clear hK K
            refine tr_ret ⟨.inr rfl, ?_⟩
            simp [go_sem, reck, h2, h3, h4, h5, h6]
          · have h6 : ¬ op = 6 := by simpa using h
            clear h
            refine region_k T_ok (by decide) fun K hK => ?_
            simp [go_sem]
            refine hK _ ?_; clear hK K
            refine cond_k rfl (fun h => ?_) (fun h => ?_)
            · have h7 : op = 7 := by simpa using h
              clear h
              refine region_k T_ok (by decide) fun K hK => ?_
              simp [go_sem]
              refine call_pf (left_pf a b) ?_
              simp [go_sem]
              refine hK _ ?_; clear hK K
              refine tr_ret ⟨.inr rfl, ?_⟩
              simp [go_sem, reck, h2, h3, h4, h5, h6, h7]
            · have h7 : ¬ op = 7 := by simpa using h
              clear h
              refine tr_skip ?_
              refine hK1 _ ?_; try clear hK1 K1
              refine region_k T_ok (by decide) fun K hK => ?_
              simp [go_sem]
              refine call_pf (right_pf a b) ?_
              simp [go_sem]
              refine hK _ ?_; clear hK K
              refine tr_ret ⟨.inr rfl, ?_⟩
              simp [go_sem, reck, h2, h3, h4, h5, h6, h7]

theorem clean_pf (x : Vl) : Pf Try.prog 49 [.agg [bV x.k, uV x.v]] (.agg [bV (clean x).k, uV (clean x).v]) := by
  refine Pf.of_fn (.cons (.agg (.cons (.val _) (.cons (.val _) .nil))) .nil) (.agg (.cons (.val _) (.cons (.val _) .nil))) ?_
  refine fn_in T_ok func49 rfl rfl ntmps49 rfl (by simp) ?_
  refine region_k T_ok (by decide) fun K hK => ?_
  simp [go_sem]
  refine hK _ ?_; clear hK K
  refine seq_k fun K1 hK1 => ?_
  refine region_k T_ok (by decide) fun K hK => ?_
  simp [go_sem]
  refine hK _ ?_; clear hK K
  refine cond_k rfl (fun h => ?_) (fun h => ?_)
  · have hk : x.k = false := by simpa using h
    clear h
    refine region_k T_ok (by decide) fun K hK => ?_
    simp [go_sem]
    refine hK _ ?_; clear hK K
    refine tr_ret ⟨.inr rfl, ?_⟩
    simp [go_sem, clean, hk]
  · have hk : x.k = true := by simpa using h
    clear h
    refine tr_skip ?_
    refine hK1 _ ?_; try clear hK1 K1
    refine region_k T_ok (by decide) fun K hK => ?_
    simp [go_sem]
    refine hK _ ?_; clear hK K
    refine tr_ret ⟨.inr rfl, ?_⟩
    simp [go_sem, clean, hk]

theorem sum_pf (x y : Vl) : Pf Try.prog 50 [.agg [bV x.k, uV x.v], .agg [bV y.k, uV y.v]] (.agg [bV (vsum x y).k, uV (vsum x y).v]) := by
  refine Pf.of_fn (.cons (.agg (.cons (.val _) (.cons (.val _) .nil))) (.cons (.agg (.cons (.val _) (.cons (.val _) .nil))) .nil)) (.agg (.cons (.val _) (.cons (.val _) .nil))) ?_
  refine fn_in T_ok func50 rfl rfl ntmps50 rfl (by simp) ?_
  refine region_k T_ok (by decide) fun K hK => ?_
  simp [go_sem]
  refine hK _ ?_; clear hK K
  refine region_k T_ok (by decide) fun K hK => ?_
  cases hx : x.k
  · simp [go_sem, hx]
    refine hK _ ?_; clear hK K
    refine tr_ret ⟨.inr rfl, ?_⟩
    simp [go_sem, vsum, hx]
  · simp [go_sem, hx]
    refine hK _ ?_; clear hK K
    refine tr_ret ⟨.inr rfl, ?_⟩
    simp [go_sem, vsum, hx]

theorem arg_fn (w k : Nat) (hw : w < k) (f : V) (x : Wk) (r : Bool) (n : Int) (hr : r = true → 0 ≤ n ∧ n < 8) : Sl.Fn Try.prog 47 [.ptr w 0 0, .agg [bV r, uV n]] [(w, .rows 29 [.agg (wkC f x)])] k fun v H _ => v = .tup [.agg [bV (argW x r n).k, uV (argW x r n).v], uV (argH x r n)] ∧ H = [(w, .rows 29 [.agg (wkC f x)])] := by
  refine Sl.Fn.keep (by simp) ?_
  have e0 : ¬ w = k := by omega
  have q0 : ¬ k = w := by omega
  have e2 : ¬ w = k + 1 := by omega
  have q2 : ¬ k + 1 = w := by omega
  refine fn_in T_ok func47 rfl rfl ntmps47 rfl (by simp) ?_
  refine region_k T_ok (by decide) fun K hK => ?_
  simp [go_sem]
  refine hK _ ?_; clear hK K
  refine seq_k fun K1 hK1 => ?_
  refine region_k T_ok (by decide) fun K hK => ?_
  simp [go_sem]
  refine hK _ ?_; clear hK K
  refine cond_k rfl (fun h => ?_) (fun h => ?_)
  · obtain ⟨n0, n8⟩ := hr h
    have n8' : n.toNat < 8 := by omega
    have n17 : 17 + n.toNat + 1 ≤ 29 := by omega
    have n16 : 1 + n.toNat * 2 + 2 ≤ 29 := by omega
    refine draw_k T_ok (by kernel_rfl) 15 [[], [], [1], [0], [0, 3], [0, 1, 2, 3, 4], [0, 1, 2, 3, 4, 5], [], [], [8], [7], [7, 10], [7, 8, 9, 10, 11], [7, 8, 9, 10, 11, 12], [0, 1, 2, 3, 4, 5, 6], [0, 1, 2, 3, 4, 5, 6, 7, 8, 9, 10, 11, 12, 13, 14]] [(7, 14), (8, 14), (9, 14), (10, 14), (11, 14), (12, 14), (13, 14)] (by decide) (by decide) (by decide) fun K hK => ?_
    first | dsimp only [List.take, List.drop] | dsimp [List.take, List.drop]
    simp [go_sem, n0, n8, n8', n17, n16, e0, q0, e2, q2]
    refine ⟨by omega, ?_⟩
    refine hK _ ?_; clear hK K
    refine tr_ret ⟨.inr rfl, ?_⟩
    simp [go_sem, argW, argH, h, e0, q0, e2, q2]
  · have hr0 := h
    refine tr_skip ?_
    refine hK1 _ ?_; try clear hK1 K1
    refine region_k T_ok (by decide) fun K hK => ?_
    simp [go_sem]
    refine hK _ ?_; clear hK K
    refine tr_ret ⟨.inr rfl, ?_⟩
    simp [go_sem, argW, argH, h, e0, q0, e2, q2]

theorem set_fn (w k : Nat) (hw : w < k) (f : V) (hf : f.one = true) (x : Wk) (rd : Int) (h0 : 0 ≤ rd) (h8 : rd < 8) (v : Vl) (on : Int) : Sl.Fn Try.prog 48 [.ptr w 0 0, iV rd, .agg [bV v.k, uV v.v], uV on] [(w, .rows 29 [.agg (wkC f x)])] k fun r H _ => r = .tup [] ∧ H = [(w, .rows 29 [.agg (wkC f (setW x rd v on))])] := by
  refine Sl.Fn.keep (by simp) ?_
  have h8' : rd.toNat < 8 := by omega
  have h17 : 17 + rd.toNat + 1 ≤ 29 := by omega
  have h16 : 1 + rd.toNat * 2 + 2 ≤ 29 := by omega
  have e0 : ¬ w = k := by omega
  have q0 : ¬ k = w := by omega
  have e2 : ¬ w = k + 1 := by omega
  have q2 : ¬ k + 1 = w := by omega
  refine fn_in T_ok func48 rfl rfl ntmps48 rfl (by simp) ?_
  refine region_k T_ok (by decide) fun K hK => ?_
  simp [go_sem]
  refine hK _ ?_; clear hK K
  refine draw_e T_ok (by kernel_rfl) 13 [[], [], [], [], [], [4], [], [0], [0, 7], [0, 1, 4, 5, 7, 8], [0, 1, 4, 5, 7, 8, 9], [2], [2, 11], [0, 1, 2, 3, 4, 5, 6, 7, 8, 9, 10, 11, 12], [0, 1, 2, 3, 4, 5, 6, 7, 8, 9, 10, 11, 12, 13]] [(2, 10), (3, 10), (6, 10), (10, 11), (10, 12)] (by decide) (by decide) (by decide) fun K hK => ?_
  first | dsimp only [List.take, List.drop] | dsimp [List.take, List.drop]
  simp [go_sem, h0, h8, h8', h17, h16, hf, e0, q0, e2, q2]
  refine callD_of (clean_pf v) ?_
  simp [go_sem, h0, h8, h8', h17, h16, hf, e0, q0, e2, q2]
  refine hK _ ?_; clear hK K
  refine ⟨.inl rfl, ?_⟩
  simp [go_sem, setW, e0, q0, e2, q2]

end Go.Proofs.Ytokdphmnlcmbbaa
/- Flow: a Sc, and an instruction that has to do with memory. -/
namespace Go.Proofs.Ytokdphmnlcmbbaa
open Go Go.Sl Go.Proofs.Try

set_option maxHeartbeats 4000000 in
theorem cond_fn (w k : Nat) (h12 : 12 < w) (hw : w < k) (m : Nat) (L R Wh : V) (y : Wk) (f : Fl) (hfl : FlOk m f) (x : Ins) (n : Nat) (hn : n < m) (a : Vl) (on : Int) (works : Bool) (h0 : 0 ≤ x.rd) (h8 : x.rd < 8) : Sl.Fn Try.prog 51 [.ptr w 0 0, insC x, iV (n : Nat), .agg [bV a.k, uV a.v], uV on, bV works] [(w, .rows 29 [.agg (wkC (.ptr 12 0 0) y)]), (12, .rows 9 [.agg [.sl 1 0 m, .sl 3 0 m, .sl 5 0 m, .sl 7 0 m, .sl 9 0 m, .sl 11 0 m, L, R, Wh]]), (1, .rows 1 (iVs f.state)), (3, .rows 2 (vls f.write)), (5, .rows 1 (iVs f.pair)), (7, .rows 1 (uVs f.place)), (9, .rows 1 (uVs f.value)), (11, .rows 1 (uVs f.path))] k fun r H _ => r = .tup [] ∧ H = [(w, .rows 29 [.agg (wkC (.ptr 12 0 0) (condW y x n works))]), (12, .rows 9 [.agg [.sl 1 0 m, .sl 3 0 m, .sl 5 0 m, .sl 7 0 m, .sl 9 0 m, .sl 11 0 m, L, R, Wh]]), (1, .rows 1 (iVs (condF y f x n a on works).state)), (3, .rows 2 (vls (condF y f x n a on works).write)), (5, .rows 1 (iVs (condF y f x n a on works).pair)), (7, .rows 1 (uVs (condF y f x n a on works).place)), (9, .rows 1 (uVs (condF y f x n a on works).value)), (11, .rows 1 (uVs (condF y f x n a on works).path))] := by
  have e0 : ¬ w = 1 := by omega
  have q0 : ¬ 1 = w := by omega
  have e2 : ¬ w = 3 := by omega
  have q2 : ¬ 3 = w := by omega
  have e4 : ¬ w = 5 := by omega
  have q4 : ¬ 5 = w := by omega
  have e6 : ¬ w = 7 := by omega
  have q6 : ¬ 7 = w := by omega
  have e8 : ¬ w = 9 := by omega
  have q8 : ¬ 9 = w := by omega
  have e10 : ¬ w = 11 := by omega
  have q10 : ¬ 11 = w := by omega
  have e12 : ¬ w = 12 := by omega
  have q12 : ¬ 12 = w := by omega
  have e14 : ¬ w = k := by omega
  have q14 : ¬ k = w := by omega
  have e16 : ¬ w = k + 1 := by omega
  have q16 : ¬ k + 1 = w := by omega
  have e18 : ¬ w = k + 2 := by omega
  have q18 : ¬ k + 2 = w := by omega
  have e20 : ¬ k = 0 := by omega
  have q20 : ¬ 0 = k := by omega
  have e22 : ¬ k = 1 := by omega
  have q22 : ¬ 1 = k := by omega
  have e24 : ¬ k = 2 := by omega
  have q24 : ¬ 2 = k := by omega
  have e26 : ¬ k = 3 := by omega
  have q26 : ¬ 3 = k := by omega
  have e28 : ¬ k = 4 := by omega
  have q28 : ¬ 4 = k := by omega
  have e30 : ¬ k = 5 := by omega
  have q30 : ¬ 5 = k := by omega
  have e32 : ¬ k = 6 := by omega
  have q32 : ¬ 6 = k := by omega
  have e34 : ¬ k = 7 := by omega
  have q34 : ¬ 7 = k := by omega
  have e36 : ¬ k = 8 := by omega
  have q36 : ¬ 8 = k := by omega
  have e38 : ¬ k = 9 := by omega
  have q38 : ¬ 9 = k := by omega
  have e40 : ¬ k = 10 := by omega
  have q40 : ¬ 10 = k := by omega
  have e42 : ¬ k = 11 := by omega
  have q42 : ¬ 11 = k := by omega
  have e44 : ¬ k = 12 := by omega
  have q44 : ¬ 12 = k := by omega
  refine Sl.Fn.keep (by simp [e0, q0, e2, q2, e4, q4, e6, q6, e8, q8, e10, q10, e12, q12, e14, q14, e16, q16, e18, q18, e20, q20, e22, q22, e24, q24, e26, q26, e28, q28, e30, q30, e32, q32, e34, q34, e36, q36, e38, q38, e40, q40, e42, q42, e44, q44]) ?_
  obtain ⟨l1, l2, l3, l4, l5, l6⟩ := hfl
  have m1 : n < f.state.length := by omega
  have m2 : n < f.write.length := by omega
  have m3 : n < f.pair.length := by omega
  have m4 : n < f.place.length := by omega
  have m5 : n < f.value.length := by omega
  have m6 : n < f.path.length := by omega
  have nI : (n : Int) < (m : Nat) := by omega
  have n0 : (0 : Int) ≤ (n : Nat) := by omega
  refine fn_in T_ok func51 rfl rfl ntmps51 rfl (by simp) ?_
  refine region_k T_ok (by decide) fun K hK => ?_
  simp [go_sem, insC, Ins.cs, e0, q0, e2, q2, e4, q4, e6, q6, e8, q8, e10, q10, e12, q12, e14, q14, e16, q16, e18, q18, e20, q20, e22, q22, e24, q24, e26, q26, e28, q28, e30, q30, e32, q32, e34, q34, e36, q36, e38, q38, e40, q40, e42, q42, e44, q44]
  refine hK _ ?_; clear hK K
  refine region_k T_ok (by decide) fun K hK => ?_
  simp [go_sem, insC, Ins.cs, e0, q0, e2, q2, e4, q4, e6, q6, e8, q8, e10, q10, e12, q12, e14, q14, e16, q16, e18, q18, e20, q20, e22, q22, e24, q24, e26, q26, e28, q28, e30, q30, e32, q32, e34, q34, e36, q36, e38, q38, e40, q40, e42, q42, e44, q44]
  refine hK _ ?_; clear hK K
  refine seq_to ⟨90, [(12, .ptr 12 0 0), (7, .ptr k 0 0), (9, .ptr (k + 1) 0 0), (0, .ptr w 0 0), (2, iV (n : Nat)), (4, uV on), (5, bV works)], [(k + 1, .rows 2 [.agg [bV a.k, uV a.v]]), (k, .rows 13 [insC x]), (w, .rows 29 [.agg (wkC (.ptr 12 0 0) y)]), (12, .rows 9 [.agg [.sl 1 0 m, .sl 3 0 m, .sl 5 0 m, .sl 7 0 m, .sl 9 0 m, .sl 11 0 m, L, R, Wh]]), (1, .rows 1 (iVs f.state)), (3, .rows 2 (vls f.write)), (5, .rows 1 (iVs (if 0 < y.lr ∧ y.lrLoc = x.loc then f.pair.set n y.lr else f.pair))), (7, .rows 1 (uVs f.place)), (9, .rows 1 (uVs f.value)), (11, .rows 1 (uVs f.path))], k + 30⟩ ?_ ?_
  · skip
    refine draw_to T_ok (by kernel_rfl) 12 [[], [0], [0, 1], [0, 1, 2], [0, 1, 2, 3], [0, 1, 2, 3, 4], [0, 1, 2, 3, 4, 5], [0, 1, 2, 3, 4, 5, 6], [0, 1, 2, 3, 4, 5, 6, 7], [0, 1, 2, 3, 4, 5, 6, 7, 8], [0, 1, 2, 3, 4, 5], [0, 1, 2, 3, 4, 5, 10], [0, 1, 2, 3, 4, 5, 6, 7, 8, 9, 10, 11], [0, 1, 2, 3, 4, 5, 6, 7, 8, 9, 10, 11, 12]] [] (by decide) (by decide) (by decide) ⟨90, [(12, .ptr 12 0 0), (7, .ptr k 0 0), (9, .ptr (k + 1) 0 0), (0, .ptr w 0 0), (2, iV (n : Nat)), (4, uV on), (5, bV works), (30, bV (decide (0 < y.lr ∧ y.lrLoc = x.loc)))], [(k + 1, .rows 2 [.agg [bV a.k, uV a.v]]), (k, .rows 13 [insC x]), (w, .rows 29 [.agg (wkC (.ptr 12 0 0) y)]), (12, .rows 9 [.agg [.sl 1 0 m, .sl 3 0 m, .sl 5 0 m, .sl 7 0 m, .sl 9 0 m, .sl 11 0 m, L, R, Wh]]), (1, .rows 1 (iVs f.state)), (3, .rows 2 (vls f.write)), (5, .rows 1 (iVs f.pair)), (7, .rows 1 (uVs f.place)), (9, .rows 1 (uVs f.value)), (11, .rows 1 (uVs f.path))], k + 14⟩ ?_ ?_
    · first | dsimp only [List.take, List.drop] | dsimp [List.take, List.drop]
      by_cases c1 : 0 < y.lr
      · simp [go_sem, c1, insC, Ins.cs, e0, q0, e2, q2, e4, q4, e6, q6, e8, q8, e10, q10, e12, q12, e14, q14, e16, q16, e18, q18, e20, q20, e22, q22, e24, q24, e26, q26, e28, q28, e30, q30, e32, q32, e34, q34, e36, q36, e38, q38, e40, q40, e42, q42, e44, q44]
        refine Weaker.fz 1 0 ?_ ?_ ?_
        · simp [go_sem, c1, insC, Ins.cs, e0, q0, e2, q2, e4, q4, e6, q6, e8, q8, e10, q10, e12, q12, e14, q14, e16, q16, e18, q18, e20, q20, e22, q22, e24, q24, e26, q26, e28, q28, e30, q30, e32, q32, e34, q34, e36, q36, e38, q38, e40, q40, e42, q42, e44, q44, int_beq]
        · first | (simp; done) | (simp; omega)
        · simp [go_sem, c1, insC, Ins.cs, e0, q0, e2, q2, e4, q4, e6, q6, e8, q8, e10, q10, e12, q12, e14, q14, e16, q16, e18, q18, e20, q20, e22, q22, e24, q24, e26, q26, e28, q28, e30, q30, e32, q32, e34, q34, e36, q36, e38, q38, e40, q40, e42, q42, e44, q44, int_beq]
      · simp [go_sem, c1, insC, Ins.cs, e0, q0, e2, q2, e4, q4, e6, q6, e8, q8, e10, q10, e12, q12, e14, q14, e16, q16, e18, q18, e20, q20, e22, q22, e24, q24, e26, q26, e28, q28, e30, q30, e32, q32, e34, q34, e36, q36, e38, q38, e40, q40, e42, q42, e44, q44]
        refine Weaker.fz 1 0 ?_ ?_ ?_
        · simp [go_sem, c1, insC, Ins.cs, e0, q0, e2, q2, e4, q4, e6, q6, e8, q8, e10, q10, e12, q12, e14, q14, e16, q16, e18, q18, e20, q20, e22, q22, e24, q24, e26, q26, e28, q28, e30, q30, e32, q32, e34, q34, e36, q36, e38, q38, e40, q40, e42, q42, e44, q44, int_beq]
        · first | (simp; done) | (simp; omega)
        · simp [go_sem, c1, insC, Ins.cs, e0, q0, e2, q2, e4, q4, e6, q6, e8, q8, e10, q10, e12, q12, e14, q14, e16, q16, e18, q18, e20, q20, e22, q22, e24, q24, e26, q26, e28, q28, e30, q30, e32, q32, e34, q34, e36, q36, e38, q38, e40, q40, e42, q42, e44, q44, int_beq]
    · skip
      refine cond_k rfl (fun h => ?_) (fun h => ?_)
      · simp at h
        obtain ⟨hA, hB⟩ := h
        refine draw_e T_ok (by kernel_rfl) 9 [[], [0], [0, 1], [0, 1, 2], [], [], [5], [5, 6], [5, 6, 7], [0, 1, 2, 3, 4, 5, 6, 7, 8], [0, 1, 2, 3, 4, 5, 6, 7, 8, 9]] [] (by decide) (by decide) (by decide) fun K hK => ?_
        first | dsimp only [List.take, List.drop] | dsimp [List.take, List.drop]
        simp [go_sem, insC, Ins.cs, e0, q0, e2, q2, e4, q4, e6, q6, e8, q8, e10, q10, e12, q12, e14, q14, e16, q16, e18, q18, e20, q20, e22, q22, e24, q24, e26, q26, e28, q28, e30, q30, e32, q32, e34, q34, e36, q36, e38, q38, e40, q40, e42, q42, e44, q44, m1, m2, m3, m4, m5, m6, nI, n0]
        refine hK _ ?_; clear hK K
        refine Weaker.fzk 1 0 (by omega) ?_ ?_ ?_
        · simp [go_sem, insC, Ins.cs, e0, q0, e2, q2, e4, q4, e6, q6, e8, q8, e10, q10, e12, q12, e14, q14, e16, q16, e18, q18, e20, q20, e22, q22, e24, q24, e26, q26, e28, q28, e30, q30, e32, q32, e34, q34, e36, q36, e38, q38, e40, q40, e42, q42, e44, q44, hA, hB]
        · first | (simp; done) | (simp; omega)
        · simp [go_sem, insC, Ins.cs, e0, q0, e2, q2, e4, q4, e6, q6, e8, q8, e10, q10, e12, q12, e14, q14, e16, q16, e18, q18, e20, q20, e22, q22, e24, q24, e26, q26, e28, q28, e30, q30, e32, q32, e34, q34, e36, q36, e38, q38, e40, q40, e42, q42, e44, q44, hA, hB]
      · have hN : ¬ (0 < y.lr ∧ y.lrLoc = x.loc) := by simpa using h
        clear h
        refine tr_skip ?_
        refine Weaker.fzk 1 0 (by omega) ?_ ?_ ?_
        · simp [go_sem, insC, Ins.cs, e0, q0, e2, q2, e4, q4, e6, q6, e8, q8, e10, q10, e12, q12, e14, q14, e16, q16, e18, q18, e20, q20, e22, q22, e24, q24, e26, q26, e28, q28, e30, q30, e32, q32, e34, q34, e36, q36, e38, q38, e40, q40, e42, q42, e44, q44, hN]
        · first | (simp; done) | (simp; omega)
        · simp [go_sem, insC, Ins.cs, e0, q0, e2, q2, e4, q4, e6, q6, e8, q8, e10, q10, e12, q12, e14, q14, e16, q16, e18, q18, e20, q20, e22, q22, e24, q24, e26, q26, e28, q28, e30, q30, e32, q32, e34, q34, e36, q36, e38, q38, e40, q40, e42, q42, e44, q44, hN]
  · skip
    refine region_k T_ok (by decide) fun K hK => ?_
    simp [go_sem, insC, Ins.cs, e0, q0, e2, q2, e4, q4, e6, q6, e8, q8, e10, q10, e12, q12, e14, q14, e16, q16, e18, q18, e20, q20, e22, q22, e24, q24, e26, q26, e28, q28, e30, q30, e32, q32, e34, q34, e36, q36, e38, q38, e40, q40, e42, q42, e44, q44]
    refine hK _ ?_; clear hK K
    refine seq_k fun K1 hK1 => ?_
    refine region_k T_ok (by decide) fun K hK => ?_
    simp [go_sem]
    refine hK _ ?_; clear hK K
    refine cond_k rfl (fun h => ?_) (fun h => ?_)
    · have hwk : works = false := by simpa using h
      refine draw_k T_ok (by kernel_rfl) 19 [[], [0], [0, 1], [0, 1, 2], [], [], [5], [5, 6], [5, 6, 7], [], [], [10], [10, 11], [10, 11, 12], [], [0, 1, 2, 3, 4, 5, 6, 7, 8, 10, 11, 12, 13], [0, 1, 2, 3, 4, 5, 6, 7, 8, 10, 11, 12, 13, 15], [0, 1, 2, 3, 4, 5, 6, 7, 8, 9, 10, 11, 12, 13, 15, 16], [0, 1, 2, 3, 4, 5, 6, 7, 8, 9, 10, 11, 12, 13, 15, 16, 17], [0, 1, 2, 3, 4, 5, 6, 7, 8, 9, 10, 11, 12, 13, 14, 15, 16, 17, 18], [0, 1, 2, 3, 4, 5, 6, 7, 8, 9, 10, 11, 12, 13, 14, 15, 16, 17, 18, 19]] [(9, 16), (14, 16), (14, 18)] (by decide) (by decide) (by decide) fun K hK => ?_
      first | dsimp only [List.take, List.drop] | dsimp [List.take, List.drop]
      simp [go_sem, insC, Ins.cs, e0, q0, e2, q2, e4, q4, e6, q6, e8, q8, e10, q10, e12, q12, e14, q14, e16, q16, e18, q18, e20, q20, e22, q22, e24, q24, e26, q26, e28, q28, e30, q30, e32, q32, e34, q34, e36, q36, e38, q38, e40, q40, e42, q42, e44, q44, m1, m2, m3, m4, m5, m6, nI, n0]
      refine hK _ ?_; clear hK K
      refine region_k T_ok (by decide) fun K hK => ?_
      simp [go_sem, insC, Ins.cs, e0, q0, e2, q2, e4, q4, e6, q6, e8, q8, e10, q10, e12, q12, e14, q14, e16, q16, e18, q18, e20, q20, e22, q22, e24, q24, e26, q26, e28, q28, e30, q30, e32, q32, e34, q34, e36, q36, e38, q38, e40, q40, e42, q42, e44, q44]
      refine call_own (set_fn w _ (by omega) (.ptr 12 0 0) rfl { y with lr := 0 } x.rd h0 h8 ⟨true, 1⟩ 0) rfl (by simp) (by simp [go_sem, e0, q0, e2, q2, e4, q4, e6, q6, e8, q8, e10, q10, e12, q12, e14, q14, e16, q16, e18, q18, e20, q20, e22, q22, e24, q24, e26, q26, e28, q28, e30, q30, e32, q32, e34, q34, e36, q36, e38, q38, e40, q40, e42, q42, e44, q44]) fun k' hk' => ?_
      simp [go_sem, e0, q0, e2, q2, e4, q4, e6, q6, e8, q8, e10, q10, e12, q12, e14, q14, e16, q16, e18, q18, e20, q20, e22, q22, e24, q24, e26, q26, e28, q28, e30, q30, e32, q32, e34, q34, e36, q36, e38, q38, e40, q40, e42, q42, e44, q44]
      refine hK _ ?_; clear hK K
      refine tr_ret ⟨.inr rfl, ?_⟩
      simp [go_sem, condW, condF, hwk, e0, q0, e2, q2, e4, q4, e6, q6, e8, q8, e10, q10, e12, q12, e14, q14, e16, q16, e18, q18, e20, q20, e22, q22, e24, q24, e26, q26, e28, q28, e30, q30, e32, q32, e34, q34, e36, q36, e38, q38, e40, q40, e42, q42, e44, q44]
    · have hwk : works = true := by simpa using h
      refine tr_skip ?_
      refine hK1 _ ?_; try clear hK1 K1
      refine draw_k T_ok (by kernel_rfl) 14 [[], [0], [0, 1], [0, 1, 2], [], [], [5], [5, 6], [5, 6, 7], [], [], [], [0, 1, 2, 3, 4, 5, 6, 7, 8, 10], [0, 1, 2, 3, 4, 5, 6, 7, 8, 10, 12], [0, 1, 2, 3, 4, 5, 6, 7, 8, 9, 10, 11, 12, 13], [0, 1, 2, 3, 4, 5, 6, 7, 8, 9, 10, 11, 12, 13, 14]] [(9, 13), (11, 13)] (by decide) (by decide) (by decide) fun K hK => ?_
      first | dsimp only [List.take, List.drop] | dsimp [List.take, List.drop]
      simp [go_sem, insC, Ins.cs, e0, q0, e2, q2, e4, q4, e6, q6, e8, q8, e10, q10, e12, q12, e14, q14, e16, q16, e18, q18, e20, q20, e22, q22, e24, q24, e26, q26, e28, q28, e30, q30, e32, q32, e34, q34, e36, q36, e38, q38, e40, q40, e42, q42, e44, q44, m1, m2, m3, m4, m5, m6, nI, n0]
      refine hK _ ?_; clear hK K
      refine draw_e T_ok (by kernel_rfl) 6 [[], [], [1], [], [], [4], [0, 1, 2, 3, 4, 5]] [] (by decide) (by decide) (by decide) fun K hK => ?_
      first | dsimp only [List.take, List.drop] | dsimp [List.take, List.drop]
      simp [go_sem, insC, Ins.cs, e0, q0, e2, q2, e4, q4, e6, q6, e8, q8, e10, q10, e12, q12, e14, q14, e16, q16, e18, q18, e20, q20, e22, q22, e24, q24, e26, q26, e28, q28, e30, q30, e32, q32, e34, q34, e36, q36, e38, q38, e40, q40, e42, q42, e44, q44, m1, m2, m3, m4, m5, m6, nI, n0]
      refine call_own (set_fn w _ (by omega) (.ptr 12 0 0) rfl { y with lr := 0 } x.rd h0 h8 ⟨true, 0⟩ (sl64 1 (n : Nat))) rfl (by simp) (by simp [go_sem, e0, q0, e2, q2, e4, q4, e6, q6, e8, q8, e10, q10, e12, q12, e14, q14, e16, q16, e18, q18, e20, q20, e22, q22, e24, q24, e26, q26, e28, q28, e30, q30, e32, q32, e34, q34, e36, q36, e38, q38, e40, q40, e42, q42, e44, q44]) fun k' hk' => ?_
      simp [go_sem, e0, q0, e2, q2, e4, q4, e6, q6, e8, q8, e10, q10, e12, q12, e14, q14, e16, q16, e18, q18, e20, q20, e22, q22, e24, q24, e26, q26, e28, q28, e30, q30, e32, q32, e34, q34, e36, q36, e38, q38, e40, q40, e42, q42, e44, q44]
      refine hK _ ?_; clear hK K
      refine ⟨.inl rfl, ?_⟩
      simp [go_sem, condW, condF, hwk, e0, q0, e2, q2, e4, q4, e6, q6, e8, q8, e10, q10, e12, q12, e14, q14, e16, q16, e18, q18, e20, q20, e22, q22, e24, q24, e26, q26, e28, q28, e30, q30, e32, q32, e34, q34, e36, q36, e38, q38, e40, q40, e42, q42, e44, q44]

end Go.Proofs.Ytokdphmnlcmbbaa
