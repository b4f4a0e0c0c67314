/- Texts put together, in order: W23, Gflot, W24, Gflou, W18, W19, W25, W26, W27, Gflov, W28, Gflow, Gfloq, W29, Gflox, Gclitr. -/
import Derived.Test.YtokdphmnlcmbbaaRows
import Derived.Test.YtokdphmnlcmbbaaChecked
import Derived.KernelRfl
import Derived.Test.YtokdphmnlcmbbaaM4
set_option linter.unusedVariables false
set_option linter.unusedSimpArgs false
/- The document's walk through a thread: as values. -/
namespace Go.Proofs.Ytokdphmnlcmbbaa
open Go Go.Sl

/-- a list of numbers, nil or not -/
def onV : Option (List Nat) → V
  | none => .val (.slice none 0 0)
  | some l => .ro 1 (natV l)
theorem nl_on (o : Option (List Nat)) : NL (onV o) := by cases o with | none => exact .val _ | some l => exact nl_nat l
@[go_sem] theorem on_cells (o : Option (List Nat)) : (onV o).cells = [onV o] := by cases o <;> rfl
@[go_sem] theorem on_one (o : Option (List Nat)) : (onV o).one = true := by cases o <;> rfl
@[go_sem] theorem on_fits (o : Option (List Nat)) : (onV o).fits 1 = true := by cases o <;> rfl
@[go_sem] theorem on_none : V.val (.slice none 0 0) = onV none := Eq.trans rfl rfl
@[go_sem] theorem frz_on (S : List Nat) (H : Heap) (d : Nat) (o : Option (List Nat)) : frz S H d (onV o) = onV o := by cases o; exact frz_val; exact frz_ro
/-- a number that is known, or isn't; and on what it hangs -/
structure RV where
  k : Bool
  v : Int
  on : Option (List Nat)
def RV.cs (x : RV) : List V := [bV x.k, uV x.v, onV x.on]
structure RF where
  state : Int
  pair : Int
  wk : Bool
  wv : Int
  place : Option (List Nat)
  value : Option (List Nat)
  path : Option (List Nat)
def RF.cs (x : RF) : List V := [iV x.state, iV x.pair, bV x.wk, uV x.wv, onV none, onV x.place, onV x.value, onV x.path]
structure RW where
  regs : Nat → RV
  path : Option (List Nat)
  last : Int
  left : Option (List Nat)
  facts : List RF
  known : Bool
def rregs (g : Nat → RV) : List V := (List.range 8).map fun r => .agg (g r).cs
def rfs (l : List RF) : List V := l.map fun x => .agg x.cs
def RW.cs (w : RW) : List V := [.ro 3 (rregs w.regs), onV w.path, iV w.last, onV w.left, .ro 8 (rfs w.facts), bV w.known]
theorem nl_rv (x : RV) : NLs x.cs := .cons (.val _) (.cons (.val _) (.cons (nl_on _) .nil))
theorem nl_rf (x : RF) : NLs x.cs := .cons (.val _) (.cons (.val _) (.cons (.val _) (.cons (.val _) (.cons (nl_on _) (.cons (nl_on _) (.cons (nl_on _) (.cons (nl_on _) .nil)))))))
theorem nl_rregs (g : Nat → RV) : NL (.ro 3 (rregs g)) := .ro fun v hv => by obtain ⟨r, _, rfl⟩ := List.mem_map.1 hv; exact nl_rv _
theorem nl_rfs (l : List RF) : NL (.ro 8 (rfs l)) := .ro fun v hv => by obtain ⟨x, _, rfl⟩ := List.mem_map.1 hv; exact nl_rf _
theorem nl_rw (w : RW) : NLs w.cs := .cons (nl_rregs _) (.cons (nl_on _) (.cons (.val _) (.cons (nl_on _) (.cons (nl_rfs _) (.cons (.val _) .nil)))))
@[go_sem] theorem rregs_len (g : Nat → RV) : (rregs g).length = 8 := by simp [rregs]
theorem rregs_at (g : Nat → RV) {r : Nat} (h : r < 8) : (rregs g)[r]? = some (.agg [bV (g r).k, uV (g r).v, onV (g r).on]) := by simp [rregs, List.getElem?_map, List.getElem?_range h, RV.cs]
@[go_sem] theorem rregs_get (g : Nat → RV) (r : Nat) (h : r < (rregs g).length) : (rregs g)[r] = .agg [bV (g r).k, uV (g r).v, onV (g r).on] := by simp [rregs, RV.cs]
theorem rregs_set (g : Nat → RV) (r : Nat) (x : RV) : (rregs g).set r (.agg [bV x.k, uV x.v, onV x.on]) = rregs fun q => if q = r then x else g q := by
  have := tab_set (n := 8) (f := g) r x
  show ((List.range 8).map fun r => V.agg (g r).cs).set r (.agg x.cs) = _
  rw [show ((List.range 8).map fun r => V.agg (g r).cs) = (tab 8 g).map fun y => V.agg y.cs by simp [tab], ← List.map_set, this]
  simp [tab, rregs]
@[go_sem] theorem rregs_set3 (g : Nat → RV) (r : Nat) (a : Bool) (b : Int) (o : Option (List Nat)) : (rregs g).set r (.agg [bV a, uV b, onV o]) = rregs fun q => if q = r then ⟨a, b, o⟩ else g q := rregs_set g r ⟨a, b, o⟩
@[go_sem] theorem rregs_take (g : Nat → RV) : (rregs g).take 8 = rregs g := List.take_of_length_le (by simp [rregs])
theorem seen_on (o : Option (List Nat)) : SeenAs (onV o) (.ro 1 (natV (o.getD []))) := by cases o; exact seen_nil 1; exact SeenAs.refl _
theorem natV_appd (l l' : List Nat) : natV l ++ natV l' = natV (l ++ l') := by simp [natV]
def joinO (a b : Option (List Nat)) : Option (List Nat) := some (a.getD [] ++ b.getD [])
def argR (w : RW) (r : Bool) (n : Int) : RV := if r then w.regs n.toNat else ⟨true, n, none⟩
def setRW (w : RW) (rd : Int) (v : RV) : RW := { w with regs := fun q => if q = rd.toNat then ⟨v.k, if v.k then v.v else 0, v.on⟩ else w.regs q }
end Go.Proofs.Ytokdphmnlcmbbaa
/- The document's walk: an argument, lists joined, a register set. -/
namespace Go.Proofs.Ytokdphmnlcmbbaa
open Go Go.Sl Go.Proofs.Try

theorem refArg_pf (w : RW) (r : Bool) (n : Int) (hr : r = true → 0 ≤ n ∧ n < 8) : Pf Try.prog 44 [.agg w.cs, .agg [bV r, uV n]] (.agg (argR w r n).cs) := by
  refine Pf.of_fz 1 (.cons (.agg (nl_rw w)) (.cons (.agg (.cons (.val _) (.cons (.val _) .nil))) .nil)) (.agg (nl_rv _)) ?_
  refine fn_in T_ok func44 rfl rfl ntmps44 rfl (by simp) ?_
  refine region_k T_ok (by decide) fun K hK => ?_
  simp [go_sem, RW.cs]
  refine hK _ ?_; clear hK K
  refine seq_k fun K1 hK1 => ?_
  refine region_k T_ok (by decide) fun K hK => ?_
  simp [go_sem, RW.cs]
  refine hK _ ?_; clear hK K
  refine cond_k rfl (fun h => ?_) (fun h => ?_)
  · obtain ⟨n0, n8⟩ := hr h
    have n8' : n.toNat < 8 := by omega
    refine region_k T_ok (by decide) fun K hK => ?_
    simp [go_sem, RW.cs, n0, n8, n8', rregs_at _ n8']
    refine hK _ ?_; clear hK K
    refine tr_ret ⟨.inr rfl, ?_⟩
    simp [go_sem, argR, h, RV.cs]
  · have hr0 := h
    refine tr_skip ?_
    refine hK1 _ ?_; try clear hK1 K1
    refine region_k T_ok (by decide) fun K hK => ?_
    simp [go_sem, RW.cs]
    refine hK _ ?_; clear hK K
    refine tr_ret ⟨.inr rfl, ?_⟩
    simp [go_sem, argR, h, RV.cs]

theorem refJoin_pf (a b : Option (List Nat)) (ha : (a.getD []).length ≤ 1000000) (hb : (b.getD []).length ≤ 1000000) : Pf Try.prog 45 [onV a, onV b] (onV (joinO a b)) := by
  refine Pf.seen (args' := [.ro 1 (natV (a.getD [])), .ro 1 (natV (b.getD []))]) (.cons (seen_on a) (.cons (seen_on b) .nil)) ?_
  refine Pf.of_fz 1 (.cons (nl_nat _) (.cons (nl_nat _) .nil)) (nl_on _) ?_
  refine fn_in T_ok func45 rfl rfl ntmps45 rfl (by simp) ?_
  refine region_k T_ok (by decide) fun K hK => ?_
  simp [go_sem]
  refine hK _ ?_; clear hK K
  refine region_k T_ok (by decide) fun K hK => ?_
  simp [go_sem]
  refine ⟨by omega, ?_⟩
  try refine ⟨by omega, ?_⟩
  refine hK _ ?_; clear hK K
  refine tr_ret ⟨.inr rfl, ?_⟩
  simp [go_sem, joinO, onV, natV_appd, List.take_of_length_le]

theorem refSet_pf (w : RW) (rd : Int) (h0 : 0 ≤ rd) (h8 : rd < 8) (v : RV) : Pf Try.prog 46 [.agg w.cs, iV rd, .agg v.cs] (.agg (setRW w rd v).cs) := by
  refine Pf.of_fz 2 (.cons (.agg (nl_rw w)) (.cons (.val _) (.cons (.agg (nl_rv v)) .nil))) (.agg (nl_rw _)) ?_
  have h8' : rd.toNat < 8 := by omega
  refine fn_in T_ok func46 rfl rfl ntmps46 rfl (by simp) ?_
  refine region_k T_ok (by decide) fun K hK => ?_
  simp [go_sem, RW.cs, RV.cs]
  refine hK _ ?_; clear hK K
  refine seq_to ⟨22, [(1, iV rd), (3, .ptr 0 0 0), (5, .ptr 1 0 0), (6, .ptr 2 0 0)], [(2, .rows 6 [.agg [onV none, onV none, iV 0, onV none, onV none, bV false]]), (1, .rows 3 [.agg [bV v.k, uV (if v.k then v.v else 0), onV v.on]]), (0, .rows 6 [.agg [.ro 3 (rregs w.regs), onV w.path, iV w.last, onV w.left, .ro 8 (rfs w.facts), bV w.known]])], 3⟩ ?_ ?_
  · skip
    refine region_k T_ok (by decide) fun K hK => ?_
    simp [go_sem, RW.cs, RV.cs]
    refine hK _ ?_; clear hK K
    refine cond_k rfl (fun h => ?_) (fun h => ?_)
    · have hk : v.k = false := by simpa using h
      clear h
      refine region_e T_ok (by decide) fun K hK => ?_
      simp [go_sem, RW.cs, RV.cs]
      refine hK _ ?_; clear hK K
      refine Weaker.fzk 1 0 (by omega) ?_ ?_ ?_
      · simp [go_sem, RW.cs, RV.cs, hk]
      · first | (simp; done) | (simp; omega)
      · simp [go_sem, RW.cs, RV.cs, hk]
    · have hk : v.k = true := by simpa using h
      clear h
      refine tr_skip ?_
      refine Weaker.fzk 1 0 (by omega) ?_ ?_ ?_
      · simp [go_sem, RW.cs, RV.cs, hk]
      · first | (simp; done) | (simp; omega)
      · simp [go_sem, RW.cs, RV.cs, hk]
  · skip
    refine region_k T_ok (by decide) fun K hK => ?_
    simp [go_sem]
    refine hK _ ?_; clear hK K
    refine region_k T_ok (by decide) fun K hK => ?_
    simp [go_sem, h0, h8, h8']
    refine hK _ ?_; clear hK K
    refine region_k T_ok (by decide) fun K hK => ?_
    simp [go_sem]
    refine hK _ ?_; clear hK K
    refine tr_ret ⟨.inr rfl, ?_⟩
    simp [go_sem, setRW, RW.cs]

end Go.Proofs.Ytokdphmnlcmbbaa
/- The document's walk through a thread: what it does, plainly; its values, part by part. -/
namespace Go.Proofs.Ytokdphmnlcmbbaa
open Go Go.Sl

@[go_sem ↓ high] theorem on_cells2 (o : Option (List Nat)) : (onV o).cells = [onV o] := on_cells o
@[go_sem ↓ high] theorem on_one2 (o : Option (List Nat)) : (onV o).one = true := on_one o
@[go_sem ↓ high] theorem on_fits2 (o : Option (List Nat)) : (onV o).fits 1 = true := on_fits o
@[go_sem ↓ high] theorem on_any2 (o : Option (List Nat)) : (onV o).isAny = false := by cases o <;> rfl
@[go_sem ↓ high] theorem on_put2 (o : Option (List Nat)) (n : Nat) (u : V) : putPart (onV o) n u = u := by cases o <;> rfl
section
variable {w : RW} {f : RF} {x : RV}
@[go_sem high] theorem rw_len : w.cs.length = 6 := Eq.trans rfl rfl
@[go_sem high] theorem rw_fits : (V.agg w.cs).fits 6 = true := by
  rw [fits_iff]
  refine ⟨rfl, fun c hc => ?_⟩
  simp only [V.cells, RW.cs, List.mem_cons, List.not_mem_nil, or_false] at hc
  rcases hc with rfl | rfl | rfl | rfl | rfl | rfl <;> first | rfl | exact on_one _
@[go_sem high] theorem rw_0 : partV false 1 w.cs 0 = .ro 3 (rregs w.regs) := Eq.trans rfl rfl
@[go_sem high] theorem rw_1 : partV false 1 w.cs 1 = onV w.path := Eq.trans rfl rfl
@[go_sem high] theorem rw_2 : partV false 1 w.cs 2 = iV w.last := Eq.trans rfl rfl
@[go_sem high] theorem rw_3 : partV false 1 w.cs 3 = onV w.left := Eq.trans rfl rfl
@[go_sem high] theorem rw_4 : partV false 1 w.cs 4 = .ro 8 (rfs w.facts) := Eq.trans rfl rfl
@[go_sem high] theorem rw_5 : partV false 1 w.cs 5 = bV w.known := Eq.trans rfl rfl
@[go_sem high] theorem rw_all : partV true 6 w.cs 0 = .agg w.cs := Eq.trans rfl rfl
@[go_sem high] theorem put_rw1 {o : Option (List Nat)} : putPart (.agg w.cs) 1 (onV o) = .agg { w with path := o }.cs := by cases o <;> rfl
@[go_sem high] theorem put_rw2 {n : Int} : putPart (.agg w.cs) 2 (iV n) = .agg { w with last := n }.cs := Eq.trans rfl rfl
@[go_sem high] theorem put_rw3 {o : Option (List Nat)} : putPart (.agg w.cs) 3 (onV o) = .agg { w with left := o }.cs := by cases o <;> rfl
@[go_sem high] theorem put_rw5 {b : Bool} : putPart (.agg w.cs) 5 (bV b) = .agg { w with known := b }.cs := Eq.trans rfl rfl
@[go_sem high] theorem rf_len : f.cs.length = 8 := Eq.trans rfl rfl
@[go_sem high] theorem rf_fits : (V.agg f.cs).fits 8 = true := by
  rw [fits_iff]
  refine ⟨rfl, fun c hc => ?_⟩
  simp only [V.cells, RF.cs, List.mem_cons, List.not_mem_nil, or_false] at hc
  rcases hc with rfl | rfl | rfl | rfl | rfl | rfl | rfl | rfl <;> first | rfl | exact on_one _
@[go_sem high] theorem rf_0 : partV false 1 f.cs 0 = iV f.state := Eq.trans rfl rfl
@[go_sem high] theorem rf_1 : partV false 1 f.cs 1 = iV f.pair := Eq.trans rfl rfl
@[go_sem high] theorem rf_2 : partV false 1 f.cs 2 = bV f.wk := Eq.trans rfl rfl
@[go_sem high] theorem rf_3 : partV false 1 f.cs 3 = uV f.wv := Eq.trans rfl rfl
@[go_sem high] theorem rf_5 : partV false 1 f.cs 5 = onV f.place := Eq.trans rfl rfl
@[go_sem high] theorem rf_6 : partV false 1 f.cs 6 = onV f.value := Eq.trans rfl rfl
@[go_sem high] theorem rf_7 : partV false 1 f.cs 7 = onV f.path := Eq.trans rfl rfl
@[go_sem high] theorem rf_all : partV true 8 f.cs 0 = .agg f.cs := Eq.trans rfl rfl
@[go_sem high] theorem put_rf1 {n : Int} : putPart (.agg f.cs) 1 (iV n) = .agg { f with pair := n }.cs := Eq.trans rfl rfl
@[go_sem high] theorem put_rf2 {b : Bool} {n : Int} : putPart (.agg f.cs) 2 (.agg [bV b, uV n, onV none]) = .agg { f with wk := b, wv := n }.cs := Eq.trans rfl rfl
@[go_sem high] theorem put_rf3 {n : Int} : putPart (.agg f.cs) 3 (uV n) = .agg { f with wv := n }.cs := Eq.trans rfl rfl
@[go_sem high] theorem put_rf5 {o : Option (List Nat)} : putPart (.agg f.cs) 5 (onV o) = .agg { f with place := o }.cs := by cases o <;> rfl
@[go_sem high] theorem put_rf6 {o : Option (List Nat)} : putPart (.agg f.cs) 6 (onV o) = .agg { f with value := o }.cs := by cases o <;> rfl
@[go_sem high] theorem put_rfAll {g : RF} : putPart (.agg f.cs) 0 (.agg g.cs) = .agg g.cs := Eq.trans rfl rfl
@[go_sem high] theorem put_rwAll {g : RW} : putPart (.agg w.cs) 0 (.agg g.cs) = .agg g.cs := Eq.trans rfl rfl
@[go_sem high] theorem rw_map (S : List Nat) (H : Heap) (d : Nat) : w.cs.map (frz S H d) = w.cs := by simp [RW.cs, frz_ro, frz_val, frz_on]
theorem rf_build {a b : Int} {c : Bool} {d : Int} {p q r : Option (List Nat)} : V.agg [iV a, iV b, bV c, uV d, onV none, onV p, onV q, onV r] = .agg (RF.mk a b c d p q r).cs := Eq.trans rfl rfl
end

@[go_sem] theorem xopsC_get (l : List XOp) (i : Nat) (h : i < (xopsC l).length) : (xopsC l)[i] = V.agg (iV ((l[i]'(by simpa [xopsC] using h)).1 : Nat) :: iV ((l[i]'(by simpa [xopsC] using h)).2.1 : Nat) :: (l[i]'(by simpa [xopsC] using h)).2.2.cs) := by simp [xopsC, xopC]
@[go_sem high] theorem xop_part (a b : V) (x : Ins) : partV true 13 (a :: b :: x.cs) 2 = .agg x.cs := Eq.trans rfl rfl
@[go_sem high] theorem xop_op (a b : V) (x : Ins) : partV false 1 (a :: b :: x.cs) 2 = iV x.op := Eq.trans rfl rfl
@[go_sem high] theorem xop_loc (a b : V) (x : Ins) : partV false 1 (a :: b :: x.cs) 4 = iV x.loc := Eq.trans rfl rfl
@[go_sem] theorem rfs_len (l : List RF) : (rfs l).length = l.length := List.length_map ..
@[go_sem] theorem rfs_take (l : List RF) (n : Nat) : (rfs l).take n = rfs (l.take n) := (List.map_take ..).symm
@[go_sem] theorem rfs_get (l : List RF) (i : Nat) (h : i < (rfs l).length) : (rfs l)[i] = .agg (l[i]'(by simpa [rfs] using h)).cs := by simp [rfs]
@[go_sem] theorem rfs_set (l : List RF) (i : Nat) (f : RF) : (rfs l).set i (.agg f.cs) = rfs (l.set i f) := (List.map_set ..).symm

/-! ## what it does -/

/-- a Sc's Lr -/
def refPair (w : RW) (ops : List XOp) (x : Ins) : Int :=
  if 0 < w.last ∧ (match ops[(w.last - 1).toNat]? with | some p => decide (p.2.2.op = 13) && decide (p.2.2.loc = x.loc) | none => false) = true then w.last else 0
def refW1 (w : RW) (x : Ins) (k : Nat) (read : RV) : RW := if rdB x.op then setRW w x.rd ⟨read.k, read.v, some [k]⟩ else w
def refWk (w : RW) (x : Ins) (read : RV) : Bool := if x.op = 12 then (argR w x.aR x.aN).k && read.k else if wrB x.op then (argR w x.aR x.aN).k else false
def refWv (w : RW) (x : Ins) (read : RV) : Int :=
  if refWk w x read then (if x.op = 12 then IntKind.u64.wrap ((argR w x.aR x.aN).v + read.v) else if wrB x.op then (argR w x.aR x.aN).v else 0) else 0
def refF1 (w : RW) (x : Ins) (read : RV) : RF :=
  { state := 1, pair := 0, wk := refWk w x read, wv := refWv w x read, place := if 0 < x.dep then (w.regs (x.dep - 1).toNat).on else none, value := if wrB x.op then (argR w x.aR x.aN).on else none, path := w.path }
def refMemW (w : RW) (ops : List XOp) (x : Ins) (k : Nat) (read : RV) (works : Bool) : RW :=
  let w1 := refW1 w x k read
  let w2 := if x.op = 14 then setRW w1 x.rd (if works then ⟨true, 0, some [k]⟩ else ⟨true, 1, none⟩) else w1
  if x.op = 13 ∨ x.op = 14 then { w2 with last := (k : Nat) + 1 } else w2
def refMemF (w : RW) (ops : List XOp) (x : Ins) (k : Nat) (read : RV) (works : Bool) : RF :=
  if x.op = 14 then (if works then { refF1 w x read with pair := refPair w ops x } else { state := 2, pair := refPair w ops x, wk := false, wv := 0, place := none, value := none, path := none }) else refF1 w x read
def refMem (w : RW) (ops : List XOp) (x : Ins) (k : Nat) (read : RV) (works : Bool) : RW :=
  { refMemW w ops x k read works with facts := w.facts.set k (refMemF w ops x k read works) }
theorem refMemW_facts (w : RW) (ops : List XOp) (x : Ins) (k : Nat) (read : RV) (works : Bool) : (refMemW w ops x k read works).facts = w.facts := by
  unfold refMemW refW1
  dsimp only
  (repeat' split) <;> rfl
theorem refPair_yes {w : RW} {ops : List XOp} {x : Ins} {q : Nat} {p : XOp} (hl : w.last = (q : Int) + 1) (hq : ops[q]? = some p) (h1 : p.2.2.op = 13) (h2 : p.2.2.loc = x.loc) : refPair w ops x = w.last := by
  unfold refPair
  rw [hl, show ((q : Int) + 1 - 1).toNat = q by omega, hq]
  simp [h1, h2]
theorem refPair_no {w : RW} {ops : List XOp} {x : Ins} {q : Nat} {p : XOp} (hl : w.last = (q : Int) + 1) (hq : ops[q]? = some p) (h1 : ¬ (p.2.2.op = 13 ∧ p.2.2.loc = x.loc)) : refPair w ops x = 0 := by
  unfold refPair
  rw [hl, show ((q : Int) + 1 - 1).toNat = q by omega, hq, if_neg]
  simp only [Bool.and_eq_true, decide_eq_true_eq]
  exact fun h => h1 h.2
theorem refPair_z {w : RW} {ops : List XOp} {x : Ins} (h : ¬ 0 < w.last) : refPair w ops x = 0 := by unfold refPair; rw [if_neg (fun hc => h hc.1)]
/-- a thread under way -/
structure RT where
  w : RW
  skip : Int
  k : Nat
def refPlain (w : RW) (x : Ins) : RW :=
  if x.op = 15 then w else if x.op = 1 then setRW w x.rd (argR w x.aR x.aN)
  else setRW w x.rd ⟨(argR w x.aR x.aN).k && (argR w x.bR x.bN).k, reck x.op (argR w x.aR x.aN).v (argR w x.bR x.bN).v, joinO (argR w x.aR x.aN).on (argR w x.bR x.bN).on⟩
def refKnown (w : RW) (x : Ins) : Bool := (argR w x.aR x.aN).k && (argR w x.bR x.bN).k
def rf2 : RF := { state := 2, pair := 0, wk := false, wv := 0, place := none, value := none, path := none }
def refStep (ops : List XOp) (reads : List RV) (works : List Bool) (i : Nat) (x : Ins) (s : RT) : RT :=
  if 0 < s.skip then { w := { s.w with left := joinO s.w.left (some [i]), facts := if memI x then s.w.facts.set s.k rf2 else s.w.facts }, skip := s.skip - 1, k := if memI x then s.k + 1 else s.k }
  else if memI x then { w := refMem s.w ops x s.k (reads.getD s.k ⟨false, 0, none⟩) (works.getD s.k false), skip := s.skip, k := s.k + 1 }
  else if isBr x.op then
    { w := { s.w with path := joinO s.w.path (joinO (argR s.w x.aR x.aN).on (argR s.w x.bR x.bN).on), known := s.w.known && refKnown s.w x },
      skip := if refKnown s.w x && (decide ((argR s.w x.aR x.aN).v = (argR s.w x.bR x.bN).v) == decide (x.op = 16)) then x.skip else s.skip, k := s.k }
  else { s with w := refPlain s.w x }
def refGoes (x : Ins) (s : RT) : Bool := !(decide (s.skip ≤ 0) && !memI x && isBr x.op && !refKnown s.w x)
def refRun (ops : List XOp) (reads : List RV) (works : List Bool) : Nat → List Ins → RT → RW
  | _, [], s => s.w
  | i, x :: l, s => if refGoes x s then refRun ops reads works (i + 1) l (refStep ops reads works i x s) else (refStep ops reads works i x s).w
end Go.Proofs.Ytokdphmnlcmbbaa
/- The document's walk: an instruction that has to do with memory. -/
namespace Go.Proofs.Ytokdphmnlcmbbaa
open Go Go.Sl Go.Proofs.Try

set_option maxRecDepth 20000 in
set_option maxHeartbeats 16000000 in
theorem refMem_pf (w : RW) (ops : List XOp) (k : Nat) (th at_ : Nat) (x : Ins) (hk : ops[k]? = some (th, at_, x)) (hkf : k < w.facts.length) (hfl : w.facts.length ≤ 1000000) (hol : ops.length ≤ 1000000) (hl0 : 0 ≤ w.last) (hlo : w.last ≤ ops.length) (hx : InsOk x) (read : RV) (works : Bool) : Pf Try.prog 43 [.agg w.cs, .ro 15 (xopsC ops), iV (k : Nat), .agg read.cs, bV works] (.agg (refMem w ops x k read works).cs) := by
  refine Pf.of_fz 2 (.cons (.agg (nl_rw w)) (.cons (nl_xopsC _) (.cons (.val _) (.cons (.agg (nl_rv read)) (.cons (.val _) .nil))))) (.agg (nl_rw _)) ?_
  obtain ⟨kN, hk'⟩ := List.getElem?_eq_some_iff.1 hk
  have kI : (k : Int) < (ops.length : Nat) := by omega
  have k0 : (0 : Int) ≤ (k : Nat) := by omega
  obtain ⟨h0, h8, ha, hb, hdep, hskip⟩ := hx
  refine fn_in T_ok func43 rfl rfl ntmps43 rfl (by simp) ?_
  refine region_k T_ok (by decide) fun K hK => ?_
  simp [go_sem, RV.cs]
  refine hK _ ?_; clear hK K
  refine region_k T_ok (by decide) fun K hK => ?_
  simp [go_sem, kI, k0, kN, hk, hk']
  refine hK _ ?_; clear hK K
  refine region_k T_ok (by decide) fun K hK => ?_
  simp [go_sem, rf_build]
  refine hK _ ?_; clear hK K
  refine seq_to ⟨157, [(1, .ro 15 (xopsC ops)), (2, iV (k : Nat)), (4, bV works), (5, .ptr 0 0 0), (8, .ptr 1 0 0), (10, .ptr 2 0 0), (11, .ptr 3 0 0), (12, .ptr 4 0 0)], [(4, .rows 8 [.agg (RF.mk 1 0 false 0 (if 0 < x.dep then (w.regs (x.dep - 1).toNat).on else none) none w.path).cs]), (3, .rows 13 [.agg x.cs]), (2, .rows 6 [.agg [onV none, onV none, iV 0, onV none, onV none, bV false]]), (1, .rows 3 [.agg [bV read.k, uV read.v, onV read.on]]), (0, .rows 6 [.agg (w).cs])], 5⟩ ?_ ?_
  · skip
    refine region_k T_ok (by decide) fun K hK => ?_
    simp [go_sem]
    refine hK _ ?_; clear hK K
    refine cond_k rfl (fun h => ?_) (fun h => ?_)
    · have hd1 : 0 < x.dep := by simpa using h
      clear h
      obtain ⟨d, hd⟩ : ∃ d : Nat, x.dep = (d : Int) + 1 := ⟨(x.dep - 1).toNat, by omega⟩
      have hd8 : d < 8 := by omega
      have hd0 : (0 : Int) ≤ (d : Nat) := by omega
      have hdI : (d : Int) < 8 := by omega
      have hdp : (0 : Int) < (d : Int) + 1 := by omega
      have hwd : IntKind.i64.wrap (d : Int) = d := wrap_i64 (by omega) (by omega)
      have hdr := rregs_at w.regs hd8
      refine region_e T_ok (by decide) fun K hK => ?_
      simp [go_sem, hd, hdp, hd8, hd0, hdI, hwd, hdr]
      refine hK _ ?_; clear hK K
      refine Weaker.fzk 1 0 (by omega) ?_ ?_ ?_
      · simp [go_sem, hd, hdp]
      · first | (simp; done) | (simp; omega)
      · simp [go_sem, hd, hdp]
    · have hnd : ¬ 0 < x.dep := by simpa using h
      clear h
      refine tr_skip ?_
      refine Weaker.fzk 1 0 (by omega) ?_ ?_ ?_
      · simp [go_sem, hnd]
      · first | (simp; done) | (simp; omega)
      · simp [go_sem, hnd]
  · skip
    refine region_k T_ok (by decide) fun K hK => ?_
    simp [go_sem]
    refine call_pf (refArg_pf w x.aR x.aN ha) ?_
    simp [go_sem, RV.cs]
    refine hK _ ?_; clear hK K
    refine seq_to ⟨157, [(1, .ro 15 (xopsC ops)), (2, iV (k : Nat)), (4, bV works), (5, .ptr 0 0 0), (8, .ptr 1 0 0), (10, .ptr 2 0 0), (11, .ptr 3 0 0), (12, .ptr 4 0 0), (13, .ptr 5 0 0)], [(5, .rows 3 [.agg [bV (argR w x.aR x.aN).k, uV (argR w x.aR x.aN).v, onV (argR w x.aR x.aN).on]]), (4, .rows 8 [.agg (RF.mk 1 0 (if wrB x.op then (argR w x.aR x.aN).k else false) (if wrB x.op then (argR w x.aR x.aN).v else 0) (if 0 < x.dep then (w.regs (x.dep - 1).toNat).on else none) (if wrB x.op then (argR w x.aR x.aN).on else none) w.path).cs]), (3, .rows 13 [.agg x.cs]), (2, .rows 6 [.agg [onV none, onV none, iV 0, onV none, onV none, bV false]]), (1, .rows 3 [.agg [bV read.k, uV read.v, onV read.on]]), (0, .rows 6 [.agg (w).cs])], 6⟩ ?_ ?_
    · skip
      refine region_k T_ok (by decide) fun K hK => ?_
      simp [go_sem]
      refine call_pf (refWrites_pf x.op) ?_
      simp [go_sem]
      refine hK _ ?_; clear hK K
      refine cond_k rfl (fun h => ?_) (fun h => ?_)
      · have hwr := h
        clear h
        refine region_k T_ok (by decide) fun K hK => ?_
        simp [go_sem]
        refine hK _ ?_; clear hK K
        refine region_e T_ok (by decide) fun K hK => ?_
        simp [go_sem]
        refine hK _ ?_; clear hK K
        refine Weaker.fzk 1 0 (by omega) ?_ ?_ ?_
        · simp [go_sem, hwr]
        · first | (simp; done) | (simp; omega)
        · simp [go_sem, hwr]
      · have hwr : wrB x.op = false := by simpa using h
        clear h
        refine tr_skip ?_
        refine Weaker.fzk 1 0 (by omega) ?_ ?_ ?_
        · simp [go_sem, hwr]
        · first | (simp; done) | (simp; omega)
        · simp [go_sem, hwr]
    · skip
      refine seq_to ⟨157, [(1, .ro 15 (xopsC ops)), (2, iV (k : Nat)), (4, bV works), (5, .ptr 0 0 0), (8, .ptr 1 0 0), (10, .ptr 2 0 0), (11, .ptr 3 0 0), (12, .ptr 4 0 0), (13, .ptr 5 0 0)], [(5, .rows 3 [.agg [bV (argR w x.aR x.aN).k, uV (argR w x.aR x.aN).v, onV (argR w x.aR x.aN).on]]), (4, .rows 8 [.agg (RF.mk 1 0 (refWk w x read) (if x.op = 12 then IntKind.u64.wrap ((argR w x.aR x.aN).v + read.v) else if wrB x.op then (argR w x.aR x.aN).v else 0) (if 0 < x.dep then (w.regs (x.dep - 1).toNat).on else none) (if wrB x.op then (argR w x.aR x.aN).on else none) w.path).cs]), (3, .rows 13 [.agg x.cs]), (2, .rows 6 [.agg [onV none, onV none, iV 0, onV none, onV none, bV false]]), (1, .rows 3 [.agg [bV read.k, uV read.v, onV read.on]]), (0, .rows 6 [.agg (w).cs])], 6⟩ ?_ ?_
      · skip
        refine region_k T_ok (by decide) fun K hK => ?_
        simp [go_sem]
        refine hK _ ?_; clear hK K
        refine cond_k rfl (fun h => ?_) (fun h => ?_)
        · have h12 : x.op = 12 := by simpa using h
          clear h
          refine region_e T_ok (by decide) fun K hK => ?_
          cases hak : (argR w x.aR x.aN).k
          · simp [go_sem, hak]
            refine hK _ ?_; clear hK K
            refine Weaker.fzk 1 0 (by omega) ?_ ?_ ?_
            · simp [go_sem, refWk, h12, hak]
            · first | (simp; done) | (simp; omega)
            · simp [go_sem, refWk, h12, hak]
          · simp [go_sem, hak]
            refine hK _ ?_; clear hK K
            refine Weaker.fzk 1 0 (by omega) ?_ ?_ ?_
            · simp [go_sem, refWk, h12, hak]
            · first | (simp; done) | (simp; omega)
            · simp [go_sem, refWk, h12, hak]
        · have h12 : ¬ x.op = 12 := by simpa using h
          clear h
          refine tr_skip ?_
          refine Weaker.fzk 1 0 (by omega) ?_ ?_ ?_
          · simp [go_sem, refWk, h12]
          · first | (simp; done) | (simp; omega)
          · simp [go_sem, refWk, h12]
      · skip
        refine seq_to ⟨157, [(1, .ro 15 (xopsC ops)), (2, iV (k : Nat)), (4, bV works), (5, .ptr 0 0 0), (8, .ptr 1 0 0), (10, .ptr 2 0 0), (11, .ptr 3 0 0), (12, .ptr 4 0 0)], [(4, .rows 8 [.agg (refF1 w x read).cs]), (3, .rows 13 [.agg x.cs]), (2, .rows 6 [.agg [onV none, onV none, iV 0, onV none, onV none, bV false]]), (1, .rows 3 [.agg [bV read.k, uV read.v, onV read.on]]), (0, .rows 6 [.agg (w).cs])], 6⟩ ?_ ?_
        · skip
          refine region_k T_ok (by decide) fun K hK => ?_
          simp [go_sem]
          refine hK _ ?_; clear hK K
          refine cond_k rfl (fun h => ?_) (fun h => ?_)
          · have hw0 : refWk w x read = false := by simpa using h
            clear h
            refine region_e T_ok (by decide) fun K hK => ?_
            simp [go_sem]
            refine hK _ ?_; clear hK K
            refine Weaker.fzk 1 0 (by omega) ?_ ?_ ?_
            · simp [go_sem, refF1, refWv, hw0]
            · first | (simp; done) | (simp; omega)
            · simp [go_sem, refF1, refWv, hw0]
          · have hw0 : refWk w x read = true := by simpa using h
            clear h
            refine tr_skip ?_
            refine Weaker.fzk 1 0 (by omega) ?_ ?_ ?_
            · simp [go_sem, refF1, refWv, hw0]
            · first | (simp; done) | (simp; omega)
            · simp [go_sem, refF1, refWv, hw0]
        · skip
          refine seq_to ⟨157, [(1, .ro 15 (xopsC ops)), (2, iV (k : Nat)), (4, bV works), (5, .ptr 0 0 0), (8, .ptr 1 0 0), (10, .ptr 2 0 0), (11, .ptr 3 0 0), (12, .ptr 4 0 0)], [(4, .rows 8 [.agg (refF1 w x read).cs]), (3, .rows 13 [.agg x.cs]), (2, .rows 6 [.agg [onV none, onV none, iV 0, onV none, onV none, bV false]]), (1, .rows 3 [.agg [bV read.k, uV read.v, onV read.on]]), (0, .rows 6 [.agg (refW1 w x k read).cs])], 7⟩ ?_ ?_
          · skip
            refine region_k T_ok (by decide) fun K hK => ?_
            simp [go_sem]
            refine call_pf (refReads_pf x.op) ?_
            simp [go_sem]
            refine hK _ ?_; clear hK K
            refine cond_k rfl (fun h => ?_) (fun h => ?_)
            · have hrd := h
              clear h
              refine region_e T_ok (by decide) fun K hK => ?_
              simp [go_sem]
              refine call_fz [(4, .rows 8 [.agg (refF1 w x read).cs]), (3, .rows 13 [.agg x.cs]), (2, .rows 6 [.agg [onV none, onV none, iV 0, onV none, onV none, bV false]]), (1, .rows 3 [.agg [bV read.k, uV read.v, onV read.on]]), (0, .rows 6 [.agg (w).cs])] [.agg w.cs, iV x.rd, .agg (RV.mk read.k read.v (some [k])).cs] 2 0 (refSet_pf w x.rd h0 h8 ⟨read.k, read.v, some [k]⟩) (by simp [go_sem, RV.cs]; rfl) (by simp) (by simp [go_sem]) ?_
              simp [go_sem]
              refine hK _ ?_; clear hK K
              refine Weaker.fzk 1 0 (by omega) ?_ ?_ ?_
              · simp [go_sem, refW1, hrd]
              · first | (simp; done) | (simp; omega)
              · simp [go_sem, refW1, hrd]
            · have hrd : rdB x.op = false := by simpa using h
              clear h
              refine tr_skip ?_
              refine Weaker.fzk 1 0 (by omega) ?_ ?_ ?_
              · simp [go_sem, refW1, hrd]
              · first | (simp; done) | (simp; omega)
              · simp [go_sem, refW1, hrd]
          · skip
            refine seq_to ⟨157, [(1, .ro 15 (xopsC ops)), (2, iV (k : Nat)), (4, bV works), (5, .ptr 0 0 0), (8, .ptr 1 0 0), (10, .ptr 2 0 0), (11, .ptr 3 0 0), (12, .ptr 4 0 0)], [(4, .rows 8 [.agg (refMemF w ops x k read works).cs]), (3, .rows 13 [.agg x.cs]), (2, .rows 6 [.agg [onV none, onV none, iV 0, onV none, onV none, bV false]]), (1, .rows 3 [.agg [bV read.k, uV read.v, onV read.on]]), (0, .rows 6 [.agg ((if x.op = 14 then setRW (refW1 w x k read) x.rd (if works then ⟨true, 0, some [k]⟩ else ⟨true, 1, none⟩) else refW1 w x k read)).cs])], 60⟩ ?_ ?_
            · skip
              refine region_k T_ok (by decide) fun K hK => ?_
              simp [go_sem]
              refine hK _ ?_; clear hK K
              refine cond_k rfl (fun h => ?_) (fun h => ?_)
              · have hop : x.op = 14 := by simpa using h
                clear h
                have hW : refW1 w x k read = w := by simp [refW1, rdB, hop]
                rw [hW]
                obtain ⟨q, p, hqp⟩ : ∃ (q : Nat) (p : XOp), 0 < w.last → w.last = (q : Int) + 1 ∧ ops[q]? = some p := by
                  by_cases c : 0 < w.last
                  · obtain ⟨p, hp, _⟩ := getAt (show (w.last - 1).toNat < ops.length by omega)
                    exact ⟨_, p, fun _ => ⟨by omega, hp⟩⟩
                  · exact ⟨0, (th, at_, x), fun h => absurd h c⟩
                refine seq_to ⟨157, [(1, .ro 15 (xopsC ops)), (2, iV (k : Nat)), (4, bV works), (5, .ptr 0 0 0), (8, .ptr 1 0 0), (10, .ptr 2 0 0), (11, .ptr 3 0 0), (12, .ptr 4 0 0)], [(4, .rows 8 [.agg ({ refF1 w x read with pair := refPair w ops x }).cs]), (3, .rows 13 [.agg x.cs]), (2, .rows 6 [.agg [onV none, onV none, iV 0, onV none, onV none, bV false]]), (1, .rows 3 [.agg [bV read.k, uV read.v, onV read.on]]), (0, .rows 6 [.agg (w).cs])], 40⟩ ?_ ?_
                · skip
                  refine draw_to T_ok (by kernel_rfl) 25 [[], [0], [0, 1], [0, 1, 2], [0, 1, 2, 3], [0, 1, 2, 3], [0, 1, 2, 3, 5], [0, 1, 2, 3, 5, 6], [0, 1, 2, 3, 4, 5, 6, 7], [0, 1, 2, 3, 4, 5, 6, 7, 8], [0, 1, 2, 3, 4, 5, 6, 7, 8, 9], [0, 1, 2, 3, 4, 5, 6, 7, 8, 9, 10], [0, 1, 2, 3, 4, 5, 6, 7, 8, 9, 10, 11], [0, 1, 2, 3, 4, 5, 6, 7, 8, 9, 10, 11, 12], [0, 1, 2, 3, 4, 5, 6, 7, 8, 9, 10, 11, 12, 13], [0, 1, 2, 3, 4, 5, 6, 7, 8, 9, 10, 11, 12, 13, 14], [0, 1, 2, 3, 4, 5, 6, 7, 8, 9, 10, 11, 12, 13, 14], [0, 1, 2, 3, 4, 5, 6, 7, 8, 9, 10, 11, 12, 13, 14, 16], [0, 1, 2, 3, 4, 5, 6, 7, 8, 9, 10, 11, 12, 13, 14, 16, 17], [0, 1, 2, 3, 4, 5, 6, 7, 8, 9, 10, 11, 12, 13, 14, 15, 16, 17, 18], [0, 1, 2, 3, 4, 5, 6, 7, 8, 9, 10, 11, 12, 13, 14, 15, 16, 17, 18, 19], [0, 1, 2, 3, 4, 5, 6, 7, 8, 9, 10, 11, 12, 13, 14, 15, 16, 17, 18, 19, 20], [0, 1, 2, 3, 4, 5, 6, 7, 8, 9, 10, 11, 12, 13, 14, 15, 16, 17, 18, 19, 20, 21], [0, 1, 2, 3, 4, 5, 6, 7, 8, 9, 10, 11, 12, 13, 14], [0, 1, 2, 3, 4, 5, 6, 7, 8, 9, 10, 11, 12, 13, 14, 23], [0, 1, 2, 3, 4, 5, 6, 7, 8, 9, 10, 11, 12, 13, 14, 15, 16, 17, 18, 19, 20, 21, 22, 23, 24], [0, 1, 2, 3, 4, 5, 6, 7, 8, 9, 10, 11, 12, 13, 14, 15, 16, 17, 18, 19, 20, 21, 22, 23, 24, 25]] [] (by decide) (by decide) (by decide) ⟨157, [(1, .ro 15 (xopsC ops)), (2, iV (k : Nat)), (4, bV works), (5, .ptr 0 0 0), (8, .ptr 1 0 0), (10, .ptr 2 0 0), (11, .ptr 3 0 0), (12, .ptr 4 0 0), (115, bV (decide (0 < w.last) && (decide (p.2.2.op = 13) && decide (p.2.2.loc = x.loc))))], [(4, .rows 8 [.agg (refF1 w x read).cs]), (3, .rows 13 [.agg x.cs]), (2, .rows 6 [.agg [onV none, onV none, iV 0, onV none, onV none, bV false]]), (1, .rows 3 [.agg [bV read.k, uV read.v, onV read.on]]), (0, .rows 6 [.agg (w).cs])], 32⟩ ?_ ?_
                  · first | dsimp only [List.take, List.drop] | dsimp [List.take, List.drop]
                    by_cases c1 : 0 < w.last
                    · by_cases c2 : p.2.2.op = 13
                      · by_cases c3 : p.2.2.loc = x.loc
                        · obtain ⟨hq, hp⟩ := hqp c1
                          obtain ⟨qN, hp'⟩ := List.getElem?_eq_some_iff.1 hp
                          have qI : (q : Int) < (ops.length : Nat) := by omega
                          have q0 : (0 : Int) ≤ (q : Nat) := by omega
                          have qw : IntKind.i64.wrap (q : Int) = q := wrap_i64 (by omega) (by omega)
                          have qp : (0 : Int) < (q : Int) + 1 := by omega
                          simp [go_sem, c1, c2, c3, int_beq, hq, hp, hp', qI, q0, qN, qw, qp]
                          refine Weaker.fz 1 0 ?_ ?_ ?_
                          · simp [go_sem, c1, c2, c3, hq, hp, hp', qI, q0, qN, qw, qp]
                          · first | (simp; done) | (simp; omega)
                          · simp [go_sem, c1, c2, c3, hq, hp, hp', qI, q0, qN, qw, qp]
                        · obtain ⟨hq, hp⟩ := hqp c1
                          obtain ⟨qN, hp'⟩ := List.getElem?_eq_some_iff.1 hp
                          have qI : (q : Int) < (ops.length : Nat) := by omega
                          have q0 : (0 : Int) ≤ (q : Nat) := by omega
                          have qw : IntKind.i64.wrap (q : Int) = q := wrap_i64 (by omega) (by omega)
                          have qp : (0 : Int) < (q : Int) + 1 := by omega
                          simp [go_sem, c1, c2, c3, int_beq, hq, hp, hp', qI, q0, qN, qw, qp]
                          refine Weaker.fz 1 0 ?_ ?_ ?_
                          · simp [go_sem, c1, c2, c3, hq, hp, hp', qI, q0, qN, qw, qp]
                          · first | (simp; done) | (simp; omega)
                          · simp [go_sem, c1, c2, c3, hq, hp, hp', qI, q0, qN, qw, qp]
                      · obtain ⟨hq, hp⟩ := hqp c1
                        obtain ⟨qN, hp'⟩ := List.getElem?_eq_some_iff.1 hp
                        have qI : (q : Int) < (ops.length : Nat) := by omega
                        have q0 : (0 : Int) ≤ (q : Nat) := by omega
                        have qw : IntKind.i64.wrap (q : Int) = q := wrap_i64 (by omega) (by omega)
                        have qp : (0 : Int) < (q : Int) + 1 := by omega
                        simp [go_sem, c1, c2, int_beq, hq, hp, hp', qI, q0, qN, qw, qp]
                        refine Weaker.fz 1 0 ?_ ?_ ?_
                        · simp [go_sem, c1, c2, hq, hp, hp', qI, q0, qN, qw, qp]
                        · first | (simp; done) | (simp; omega)
                        · simp [go_sem, c1, c2, hq, hp, hp', qI, q0, qN, qw, qp]
                    · simp [go_sem, c1, int_beq]
                      refine Weaker.fz 1 0 ?_ ?_ ?_
                      · simp [go_sem, c1]
                      · first | (simp; done) | (simp; omega)
                      · simp [go_sem, c1]
                  · skip
                    refine cond_k rfl (fun h => ?_) (fun h => ?_)
                    · simp at h
                      obtain ⟨u1, u2, u3⟩ := h
                      obtain ⟨v1, v2⟩ := hqp u1
                      have hpr : refPair w ops x = w.last := refPair_yes v1 v2 u2 u3
                      refine region_e T_ok (by decide) fun K hK => ?_
                      simp [go_sem]
                      refine hK _ ?_; clear hK K
                      refine Weaker.fzk 1 0 (by omega) ?_ ?_ ?_
                      · simp [go_sem, refF1, hpr]
                      · first | (simp; done) | (simp; omega)
                      · simp [go_sem, refF1, hpr]
                    · have hpz : refPair w ops x = 0 := by
                        by_cases u1 : 0 < w.last
                        · obtain ⟨v1, v2⟩ := hqp u1
                          exact refPair_no v1 v2 fun hc => by simp [u1, hc.1, hc.2] at h
                        · exact refPair_z u1
                      refine tr_skip ?_
                      refine Weaker.fzk 1 0 (by omega) ?_ ?_ ?_
                      · simp [go_sem, refF1, hpz]
                      · first | (simp; done) | (simp; omega)
                      · simp [go_sem, refF1, hpz]
                · skip
                  refine region_k T_ok (by decide) fun K hK => ?_
                  simp [go_sem]
                  refine hK _ ?_; clear hK K
                  refine cond_k rfl (fun h => ?_) (fun h => ?_)
                  · have hwk : works = true := by simpa using h
                    refine region_e T_ok (by decide) fun K hK => ?_
                    simp [go_sem]
                    refine call_fz [(4, .rows 8 [.agg ({ refF1 w x read with pair := refPair w ops x }).cs]), (3, .rows 13 [.agg x.cs]), (2, .rows 6 [.agg [onV none, onV none, iV 0, onV none, onV none, bV false]]), (1, .rows 3 [.agg [bV read.k, uV read.v, onV read.on]]), (0, .rows 6 [.agg (w).cs])] [.agg w.cs, iV x.rd, .agg (RV.mk true 0 (some [k])).cs] 2 0 (refSet_pf w x.rd h0 h8 ⟨true, 0, some [k]⟩) (by simp [go_sem, RV.cs]; rfl) (by simp) (by simp [go_sem]) ?_
                    simp [go_sem]
                    refine hK _ ?_; clear hK K
                    refine Weaker.fzk 1 0 (by omega) ?_ ?_ ?_
                    · simp [go_sem, refMemF, hop, hwk, hW]
                    · first | (simp; done) | (simp; omega)
                    · simp [go_sem, refMemF, hop, hwk, hW]
                  · have hwk : works = false := by simpa using h
                    refine region_k T_ok (by decide) fun K hK => ?_
                    simp [go_sem]
                    refine call_pf (refSet_pf w x.rd h0 h8 ⟨true, 1, none⟩) ?_
                    simp [go_sem]
                    refine hK _ ?_; clear hK K
                    refine region_e T_ok (by decide) fun K hK => ?_
                    simp [go_sem, rf_build]
                    refine hK _ ?_; clear hK K
                    refine Weaker.fzk 1 0 (by omega) ?_ ?_ ?_
                    · simp [go_sem, refMemF, hop, hwk, hW, rf_build]
                    · first | (simp; done) | (simp; omega)
                    · simp [go_sem, refMemF, hop, hwk, hW, rf_build]
              · have hop : ¬ x.op = 14 := by simpa using h
                clear h
                refine tr_skip ?_
                refine Weaker.fzk 1 0 (by omega) ?_ ?_ ?_
                · simp [go_sem, refMemF, hop]
                · first | (simp; done) | (simp; omega)
                · simp [go_sem, refMemF, hop]
            · skip
              refine seq_to ⟨157, [(1, .ro 15 (xopsC ops)), (2, iV (k : Nat)), (4, bV works), (5, .ptr 0 0 0), (8, .ptr 1 0 0), (10, .ptr 2 0 0), (11, .ptr 3 0 0), (12, .ptr 4 0 0)], [(4, .rows 8 [.agg (refMemF w ops x k read works).cs]), (3, .rows 13 [.agg x.cs]), (2, .rows 6 [.agg [onV none, onV none, iV 0, onV none, onV none, bV false]]), (1, .rows 3 [.agg [bV read.k, uV read.v, onV read.on]]), (0, .rows 6 [.agg (refMemW w ops x k read works).cs])], 60⟩ ?_ ?_
              · skip
                refine region_to T_ok (by decide) ⟨157, [(1, .ro 15 (xopsC ops)), (2, iV (k : Nat)), (4, bV works), (5, .ptr 0 0 0), (8, .ptr 1 0 0), (10, .ptr 2 0 0), (11, .ptr 3 0 0), (12, .ptr 4 0 0), (142, bV (decide (x.op = 13 ∨ x.op = 14)))], [(4, .rows 8 [.agg (refMemF w ops x k read works).cs]), (3, .rows 13 [.agg x.cs]), (2, .rows 6 [.agg [onV none, onV none, iV 0, onV none, onV none, bV false]]), (1, .rows 3 [.agg [bV read.k, uV read.v, onV read.on]]), (0, .rows 6 [.agg ((if x.op = 14 then setRW (refW1 w x k read) x.rd (if works then ⟨true, 0, some [k]⟩ else ⟨true, 1, none⟩) else refW1 w x k read)).cs])], 60⟩ ?_ ?_
                · by_cases c1 : x.op = 13
                  · simp [go_sem, c1, int_beq]
                    refine Weaker.fz 1 0 ?_ ?_ ?_
                    · simp [go_sem, c1]
                    · first | (simp; done) | (simp; omega)
                    · simp [go_sem, c1]
                  · simp [go_sem, c1, int_beq]
                    refine Weaker.fz 1 0 ?_ ?_ ?_
                    · simp [go_sem, c1]
                    · first | (simp; done) | (simp; omega)
                    · simp [go_sem, c1]
                · skip
                  refine cond_k rfl (fun h => ?_) (fun h => ?_)
                  · have hl13 : x.op = 13 ∨ x.op = 14 := by simpa using h
                    refine region_e T_ok (by decide) fun K hK => ?_
                    have hwk1 : IntKind.i64.wrap ((k : Nat) + 1) = (k : Nat) + 1 := wrap_i64 (by omega) (by omega)
                    simp [go_sem, hwk1]
                    refine hK _ ?_; clear hK K
                    refine Weaker.fzk 1 0 (by omega) ?_ ?_ ?_
                    · simp [go_sem, refMemW, hl13]
                    · first | (simp; done) | (simp; omega)
                    · simp [go_sem, refMemW, hl13]
                  · have hl13 : ¬ (x.op = 13 ∨ x.op = 14) := by simpa using h
                    refine tr_skip ?_
                    refine Weaker.fzk 1 0 (by omega) ?_ ?_ ?_
                    · simp [go_sem, refMemW, hl13]
                    · first | (simp; done) | (simp; omega)
                    · simp [go_sem, refMemW, hl13]
              · skip
                refine region_k T_ok (by decide) fun K hK => ?_
                simp [go_sem, RW.cs, refMemW_facts]
                try refine ⟨by omega, ?_⟩
                refine hK _ ?_; clear hK K
                refine region_k T_ok (by decide) fun K hK => ?_
                simp [go_sem, k0, hkf]
                refine hK _ ?_; clear hK K
                refine region_k T_ok (by decide) fun K hK => ?_
                simp [go_sem]
                refine hK _ ?_; clear hK K
                refine tr_ret ⟨.inr rfl, ?_⟩
                simp [go_sem, refMem, RW.cs, List.take_of_length_le]

end Go.Proofs.Ytokdphmnlcmbbaa
/- What is known stays, when more is known of what is read. -/
namespace Go.Proofs.Ytokdphmnlcmbbaa
open Go Go.Sl

def le (u v : Vl) : Prop := u.k = true → u = v
theorem le_refl (u : Vl) : le u u := fun _ => rfl
theorem le_clean {u v : Vl} (h : le u v) : le (clean u) (clean v) := fun hk => by
  unfold clean at hk ⊢
  by_cases hu : u.k = true
  · rw [h hu]
  · rw [if_neg hu] at hk; cases hk
theorem le_sum {a b c d : Vl} (h : le a c) (h' : le b d) : le (vsum a b) (vsum c d) := fun hk => by
  simp only [vsum, Bool.and_eq_true] at hk ⊢
  rw [h hk.1, h' hk.2]
theorem clean_k {u : Vl} (h : u.k = true) : (clean u).k = true := by unfold clean; rw [if_pos h]; exact h

theorem getD_set {α : Type} (l : List α) (k i : Nat) (x d : α) : (l.set k x).getD i d = if i = k ∧ k < l.length then x else l.getD i d := by
  simp only [List.getD, List.getElem?_set]
  by_cases h : k = i
  · subst h
    by_cases h2 : k < l.length
    · simp [h2]
    · simp [h2, List.getElem?_eq_none (by omega : l.length ≤ k)]
  · simp [h, Ne.symm h]

/-! ## what an Op does to what is known -/

def memS (x : Ins) (works : Bool) : Int := if x.op = 14 ∧ works = false then 2 else 1
theorem memS_ne (x : Ins) (works : Bool) : memS x works ≠ 0 := by unfold memS; split <;> decide
def memU (w : Wk) (x : Ins) (read : Vl) (works : Bool) : Option Vl :=
  if x.op = 10 ∨ x.op = 11 then some (argW w x.aR x.aN) else if x.op = 12 then some (clean (vsum (argW w x.aR x.aN) read)) else if x.op = 14 ∧ works = true then some (argW w x.aR x.aN) else none
def setO (l : List Vl) (k : Nat) : Option Vl → List Vl
  | some u => l.set k u
  | none => l
theorem memF_state (w : Wk) (f : Fl) (x : Ins) (k : Nat) (read : Vl) (works : Bool) : (memF w f x k read works).state = f.state.set k (memS x works) := by
  unfold memF memS
  dsimp only
  by_cases h1 : x.op = 10 ∨ x.op = 11
  · rw [if_pos h1, if_neg (by omega)]; rfl
  · rw [if_neg h1]
    by_cases h2 : x.op = 12
    · rw [if_pos h2, if_neg (by omega)]; rfl
    · rw [if_neg h2]
      by_cases h3 : x.op = 14
      · rw [if_pos h3]
        unfold condF
        cases works
        · simp [memF0, h3, List.set_set]
        · simp [memF0, h3]
      · rw [if_neg h3, if_neg (by omega)]; rfl
theorem memF_write (w : Wk) (f : Fl) (x : Ins) (k : Nat) (read : Vl) (works : Bool) : (memF w f x k read works).write = setO f.write k (memU w x read works) := by
  unfold memF memU
  dsimp only
  by_cases h1 : x.op = 10 ∨ x.op = 11
  · rw [if_pos h1, if_pos h1]; rfl
  · rw [if_neg h1, if_neg h1]
    by_cases h2 : x.op = 12
    · rw [if_pos h2, if_pos h2]; rfl
    · rw [if_neg h2, if_neg h2]
      by_cases h3 : x.op = 14
      · rw [if_pos h3]
        unfold condF
        cases works
        · simp [memF0, h3, setO]
        · simp [memF0, h3, setO]
      · rw [if_neg h3, if_neg (by omega)]; rfl

/-- less and more is known; from i on nothing is known of the first, up to j all of the second -/
structure FRel (n i j : Nat) (f g : Fl) : Prop where
  of : FlOk n f
  og : FlOk n g
  ij : i ≤ j
  s : ∀ q, f.state.getD q 0 ≠ 0 → f.state.getD q 0 = g.state.getD q 0
  w : ∀ q, (f.write.getD q zV).k = true → f.write.getD q zV = g.write.getD q zV
  s0 : ∀ q, i ≤ q → f.state.getD q 0 = 0
  w0 : ∀ q, i ≤ q → (f.write.getD q zV).k = false
  g0 : ∀ q, q < j → g.state.getD q 0 ≠ 0

def stS (s : Ts) (x : Ins) (works : List Bool) : Int := if 0 < s.out then 2 else memS x (works.getD s.k false)
def stU (reads : List Vl) (works : List Bool) (s : Ts) (x : Ins) : Option Vl := if 0 < s.out then none else memU s.w x (reads.getD s.k zV) (works.getD s.k false)
section
variable {reads reads' : List Vl} {works : List Bool} {i : Nat} {x : Ins} {s t : Ts}
theorem stS_ne : stS s x works ≠ 0 := by unfold stS; split; decide; exact memS_ne _ _
theorem stepT_state (h : memI x = true) : (stepT reads works i x s).f.state = s.f.state.set s.k (stS s x works) := by
  unfold stepT stS
  by_cases ho : 0 < s.out
  · rw [if_pos ho, if_pos ho]; dsimp only; rw [if_pos h]
  · rw [if_neg ho, if_neg ho, if_pos h]; exact memF_state _ _ _ _ _ _
theorem stepT_write (h : memI x = true) : (stepT reads works i x s).f.write = setO s.f.write s.k (stU reads works s x) := by
  unfold stepT stU
  by_cases ho : 0 < s.out
  · rw [if_pos ho, if_pos ho]; dsimp only; rw [if_pos h]; rfl
  · rw [if_neg ho, if_neg ho, if_pos h]; exact memF_write _ _ _ _ _ _
theorem stepT_same (h : memI x = false) : (stepT reads works i x s).f = s.f := by
  unfold stepT
  by_cases ho : 0 < s.out
  · rw [if_pos ho]; dsimp only; rw [if_neg (by simp [h])]
  · rw [if_neg ho, if_neg (by simp [h])]
    split <;> rfl
theorem stepT_kk : (stepT reads works i x s).k = s.k + if memI x then 1 else 0 := by
  unfold stepT
  by_cases ho : 0 < s.out
  · rw [if_pos ho]; dsimp only; split <;> rfl
  · rw [if_neg ho]
    by_cases h : memI x = true
    · rw [if_pos h, if_pos h]
    · rw [if_neg h, if_neg h]; split <;> rfl
end

/-! ## the one that knows all -/

def Kn (w : Wk) : Prop := ∀ r, (w.regs r).k = true
section
variable {w : Wk} {x : Ins}
theorem Kn.arg (h : Kn w) (b : Bool) (n : Int) : (argW w b n).k = true := by unfold argW; split; exact h _; rfl
theorem Kn.set (h : Kn w) {v : Vl} (hv : v.k = true) (rd on : Int) : Kn (setW w rd v on) := fun r => by
  unfold setW; dsimp only; split; exact clean_k hv; exact h r
theorem Kn.mem (h : Kn w) {read : Vl} (hr : read.k = true) (k : Nat) (works : Bool) : Kn (memW w x k read works) := by
  unfold memW
  split
  · exact h.set hr _ _
  split
  · exact fun r => (h.set hr x.rd (sl64 1 (k : Nat))) r
  split
  · exact h
  split
  · exact h.set hr _ _
  split
  · unfold condW
    split
    · exact Kn.set (w := { w with lr := 0 }) h rfl _ _
    · exact Kn.set (w := { w with lr := 0 }) h rfl _ _
  · exact h
theorem Kn.plain (h : Kn w) : Kn (plainW w x) := by
  unfold plainW
  split
  · exact h
  split
  · exact h.set (h.arg _ _) _ _
  · exact h.set (by simp [h.arg]) _ _
theorem Kn.br (h : Kn w) : brK w x = true := by simp [brK, h.arg]
end
theorem Kn.step {reads : List Vl} {works : List Bool} {i : Nat} {x : Ins} {s : Ts} (h : Kn s.w) (hr : memI x = true → (reads.getD s.k zV).k = true) : Kn (stepT reads works i x s).w ∧ stepB x s = true := by
  constructor
  · unfold stepT
    split
    · exact h
    split
    · rename_i hm; exact h.mem (hr hm) _ _
    split
    · exact h
    · exact h.plain
  · simp [stepB, h.br]

theorem FRel.g_step {n i0 i : Nat} {reads : List Vl} {works : List Bool} {x : Ins} {f : Fl} {s : Ts} (h : FRel n i0 s.k f s.f) (hm : memI x = true → s.k < n) : FRel n i0 (stepT reads works i x s).k f (stepT reads works i x s).f := by
  have hk := stepT_kk (reads := reads) (works := works) (i := i) (x := x) (s := s)
  by_cases hx : memI x = true
  · rw [if_pos hx] at hk
    have hl := hm hx
    have e1 := stepT_state (reads := reads) (works := works) (i := i) (s := s) hx
    have e2 := stepT_write (reads := reads) (works := works) (i := i) (s := s) hx
    have hij := h.ij
    refine ⟨h.of, stepT_ok h.og, by omega, fun q hq => ?_, fun q hq => ?_, h.s0, h.w0, fun q hq => ?_⟩
    · have hqi : q < i0 := Classical.byContradiction fun hc => hq (h.s0 q (by omega))
      rw [e1, getD_set, if_neg (by omega)]; exact h.s q hq
    · have hqi : q < i0 := Classical.byContradiction fun hc => by rw [h.w0 q (by omega)] at hq; cases hq
      rw [e2]
      cases stU reads works s x with
      | none => exact h.w q hq
      | some u => simp only [setO]; rw [getD_set, if_neg (by omega)]; exact h.w q hq
    · rw [e1, getD_set, h.og.l1]
      split
      · exact stS_ne
      · rename_i hc
        exact h.g0 q (by omega)
  · rw [if_neg hx] at hk
    have e := stepT_same (reads := reads) (works := works) (i := i) (s := s) (by simpa using hx)
    rw [e, hk]; exact h

theorem FRel.g_run {n i0 : Nat} {reads : List Vl} {works : List Bool} {f : Fl} (hr : ∀ q, q < n → (reads.getD q zV).k = true) : ∀ (l : List Ins) (i : Nat) (s : Ts), Kn s.w → FRel n i0 s.k f s.f → s.k + memL l ≤ n →
    (runT reads works i l s).2 = true ∧ Kn (runT reads works i l s).1.w ∧ FRel n i0 (s.k + memL l) f (runT reads works i l s).1.f
  | [], i, s, hk, h, _ => ⟨rfl, hk, h⟩
  | x :: l, i, s, hk, h, hl => by
    rw [memL_cons] at hl ⊢
    have hm : memI x = true → s.k < n := fun hx => by rw [if_pos hx] at hl; omega
    obtain ⟨k1, k2⟩ := hk.step (reads := reads) (works := works) (i := i) (x := x) fun hx => hr _ (hm hx)
    have h2 := h.g_step (reads := reads) (works := works) (i := i) hm
    have hkk := stepT_kk (reads := reads) (works := works) (i := i) (x := x) (s := s)
    have := FRel.g_run (works := works) hr l (i + 1) (stepT reads works i x s) k1 h2 (by omega)
    rw [hkk] at this
    rw [runT, if_pos k2, ← Nat.add_assoc]
    exact this

/-! ## both -/

structure WRel (w v : Wk) : Prop where
  regs : ∀ r, le (w.regs r) (v.regs r)
  kn : Kn v
  lr : w.lr = v.lr
  loc : w.lrLoc = v.lrLoc
section
variable {w v : Wk} {x : Ins}
theorem WRel.arg (h : WRel w v) (b : Bool) (n : Int) : le (argW w b n) (argW v b n) := by unfold argW; split; exact h.regs _; exact le_refl _
theorem WRel.set (h : WRel w v) {a b : Vl} (hab : le a b) (hb : b.k = true) (rd on on' : Int) : WRel (setW w rd a on) (setW v rd b on') :=
  ⟨fun r => by unfold setW; dsimp only; split; exact le_clean hab; exact h.regs r, h.kn.set hb _ _, h.lr, h.loc⟩
theorem WRel.mem (h : WRel w v) {a b : Vl} (hab : le a b) (hb : b.k = true) (k : Nat) (works : Bool) : WRel (memW w x k a works) (memW v x k b works) := by
  unfold memW
  by_cases h1 : x.op = 9
  · rw [if_pos h1, if_pos h1]; exact h.set hab hb _ _ _
  rw [if_neg h1, if_neg h1]
  by_cases h2 : x.op = 13
  · rw [if_pos h2, if_pos h2]
    have := h.set hab hb x.rd (sl64 1 (k : Nat)) (sl64 1 (k : Nat))
    exact ⟨this.regs, this.kn, rfl, rfl⟩
  rw [if_neg h2, if_neg h2]
  by_cases h3 : x.op = 10
  · rw [if_pos h3, if_pos h3]; exact h
  rw [if_neg h3, if_neg h3]
  by_cases h4 : x.op = 11 ∨ x.op = 12
  · rw [if_pos h4, if_pos h4]; exact h.set hab hb _ _ _
  rw [if_neg h4, if_neg h4]
  by_cases h5 : x.op = 14
  · rw [if_pos h5, if_pos h5]
    have h' : WRel { w with lr := 0 } { v with lr := 0 } := ⟨h.regs, h.kn, rfl, h.loc⟩
    unfold condW
    cases works
    · exact h'.set (le_refl _) rfl _ _ _
    · exact h'.set (le_refl _) rfl _ _ _
  · rw [if_neg h5, if_neg h5]; exact h
theorem WRel.plain (h : WRel w v) : WRel (plainW w x) (plainW v x) := by
  unfold plainW
  by_cases h1 : x.op = 15
  · rw [if_pos h1, if_pos h1]; exact h
  rw [if_neg h1, if_neg h1]
  by_cases h2 : x.op = 1
  · rw [if_pos h2, if_pos h2]; exact h.set (h.arg _ _) (h.kn.arg _ _) _ _ _
  · rw [if_neg h2, if_neg h2]
    refine h.set (fun hk => ?_) (by simp [h.kn.arg]) _ _ _
    simp only [Bool.and_eq_true] at hk
    rw [h.arg _ _ hk.1, h.arg _ _ hk.2]
theorem WRel.u (h : WRel w v) {a b : Vl} (hab : le a b) (works : Bool) : (memU w x a works = none ∧ memU v x b works = none) ∨ ∃ p q, memU w x a works = some p ∧ memU v x b works = some q ∧ le p q := by
  unfold memU
  by_cases h1 : x.op = 10 ∨ x.op = 11
  · rw [if_pos h1, if_pos h1]; exact .inr ⟨_, _, rfl, rfl, h.arg _ _⟩
  rw [if_neg h1, if_neg h1]
  by_cases h2 : x.op = 12
  · rw [if_pos h2, if_pos h2]; exact .inr ⟨_, _, rfl, rfl, le_clean (le_sum (h.arg _ _) hab)⟩
  rw [if_neg h2, if_neg h2]
  by_cases h3 : x.op = 14 ∧ works = true
  · rw [if_pos h3, if_pos h3]; exact .inr ⟨_, _, rfl, rfl, h.arg _ _⟩
  · rw [if_neg h3, if_neg h3]; exact .inl ⟨rfl, rfl⟩
end

structure TRel (n : Nat) (s t : Ts) : Prop where
  w : WRel s.w t.w
  out : s.out = t.out
  k : s.k = t.k
  f : FRel n s.k s.k s.f t.f

theorem FRel.both {n k : Nat} {f g f' g' : Fl} (h : FRel n k k f g) (hk : k < n) {v : Int} (hv : v ≠ 0) (ho : FlOk n f') (ho' : FlOk n g') (e1 : f'.state = f.state.set k v) (e2 : g'.state = g.state.set k v)
    {p q : Option Vl} (e3 : f'.write = setO f.write k p) (e4 : g'.write = setO g.write k q) (hpq : (p = none ∧ q = none) ∨ ∃ a b, p = some a ∧ q = some b ∧ le a b) : FRel n (k + 1) (k + 1) f' g' := by
  refine ⟨ho, ho', Nat.le_refl _, fun r hr => ?_, fun r hr => ?_, fun r hr => ?_, fun r hr => ?_, fun r hr => ?_⟩
  · rw [e1, getD_set, h.of.l1] at hr ⊢
    rw [e2, getD_set, h.og.l1]
    by_cases hc : r = k ∧ k < n
    · rw [if_pos hc, if_pos hc]
    · rw [if_neg hc] at hr ⊢
      rw [if_neg hc]; exact h.s r hr
  · rw [e3] at hr ⊢
    rw [e4]
    rcases hpq with ⟨rfl, rfl⟩ | ⟨a, b, rfl, rfl, hab⟩
    · exact h.w r hr
    · simp only [setO] at hr ⊢
      rw [getD_set, h.of.l2] at hr ⊢
      rw [getD_set, h.og.l2]
      by_cases hc : r = k ∧ k < n
      · rw [if_pos hc] at hr ⊢
        rw [if_pos hc]; exact hab hr
      · rw [if_neg hc] at hr ⊢
        rw [if_neg hc]; exact h.w r hr
  · rw [e1, getD_set, if_neg (by omega)]; exact h.s0 r (by omega)
  · rw [e3]
    rcases hpq with ⟨rfl, rfl⟩ | ⟨a, b, rfl, rfl, hab⟩
    · exact h.w0 r (by omega)
    · simp only [setO]; rw [getD_set, if_neg (by omega)]; exact h.w0 r (by omega)
  · rw [e2, getD_set, h.og.l1]
    split
    · exact hv
    · exact h.g0 r (by omega)

section
variable {n i : Nat} {reads reads' : List Vl} {works : List Bool} {x : Ins} {s t : Ts}
theorem TRel.step (h : TRel n s t) (hm : memI x = true → s.k < n) (hr : ∀ q, le (reads.getD q zV) (reads'.getD q zV)) (hk : ∀ q, q < n → (reads'.getD q zV).k = true) (hb : stepB x s = true) : TRel n (stepT reads works i x s) (stepT reads' works i x t) := by
  have eS := stepT_kk (reads := reads) (works := works) (i := i) (x := x) (s := s)
  have eT := stepT_kk (reads := reads') (works := works) (i := i) (x := x) (s := t)
  refine ⟨?_, ?_, by rw [eS, eT, h.k], ?_⟩
  · unfold stepT
    by_cases ho : 0 < s.out
    · have ho' : 0 < t.out := h.out ▸ ho
      rw [if_pos ho, if_pos ho']; exact ⟨h.w.regs, h.w.kn, h.w.lr, h.w.loc⟩
    · have ho' : ¬ 0 < t.out := h.out ▸ ho
      rw [if_neg ho, if_neg ho']
      by_cases hx : memI x = true
      · rw [if_pos hx, if_pos hx, ← h.k]; exact h.w.mem (hr _) (hk _ (hm hx)) _ _
      · rw [if_neg hx, if_neg hx]
        by_cases hbr : isBr x.op = true
        · rw [if_pos hbr, if_pos hbr]; exact ⟨h.w.regs, h.w.kn, h.w.lr, h.w.loc⟩
        · rw [if_neg hbr, if_neg hbr]; exact h.w.plain
  · unfold stepT
    by_cases ho : 0 < s.out
    · have ho' : 0 < t.out := h.out ▸ ho
      rw [if_pos ho, if_pos ho']; exact congrArg (· - 1) h.out
    · have ho' : ¬ 0 < t.out := h.out ▸ ho
      rw [if_neg ho, if_neg ho']
      by_cases hx : memI x = true
      · rw [if_pos hx, if_pos hx]; exact h.out
      · rw [if_neg hx, if_neg hx]
        by_cases hbr : isBr x.op = true
        · rw [if_pos hbr, if_pos hbr]
          have hK : brK s.w x = true := by
            simp only [stepB, Bool.not_eq_true', Bool.and_eq_false_iff] at hb
            rcases hb with ((hb | hb) | hb) | hb
            · simp at hb; omega
            · simp at hb; exact absurd hb hx
            · rw [hbr] at hb; cases hb
            · simpa using hb
          have hK' : brK t.w x = true := h.w.kn.br
          have hK0 := hK
          simp only [brK, Bool.and_eq_true] at hK0
          show brN s.w x = brN t.w x
          unfold brN
          rw [hK, hK', h.w.arg _ _ hK0.1, h.w.arg _ _ hK0.2]
        · rw [if_neg hbr, if_neg hbr]; exact h.out
  · by_cases hx : memI x = true
    · rw [eS, if_pos hx]
      have a1 := stepT_state (reads := reads) (works := works) (i := i) (s := s) hx
      have a2 := stepT_state (reads := reads') (works := works) (i := i) (s := t) hx
      have a3 := stepT_write (reads := reads) (works := works) (i := i) (s := s) hx
      have a4 := stepT_write (reads := reads') (works := works) (i := i) (s := t) hx
      rw [← h.k] at a2 a4
      have e : stS t x works = stS s x works := by unfold stS; rw [h.out, h.k]
      rw [e] at a2
      refine h.f.both (hm hx) stS_ne (stepT_ok h.f.of) (stepT_ok h.f.og) a1 a2 a3 a4 ?_
      unfold stU
      rw [← h.out, ← h.k]
      by_cases ho : 0 < s.out
      · rw [if_pos ho, if_pos ho]; exact .inl ⟨rfl, rfl⟩
      · rw [if_neg ho, if_neg ho]; exact h.w.u (hr _) _
    · rw [eS, if_neg hx, stepT_same (by simpa using hx), stepT_same (by simpa using hx)]; exact h.f

theorem TRel.run (hr : ∀ q, le (reads.getD q zV) (reads'.getD q zV)) (hk : ∀ q, q < n → (reads'.getD q zV).k = true) : ∀ (l : List Ins) (i : Nat) (s t : Ts), TRel n s t → s.k + memL l ≤ n →
    (runT reads' works i l t).2 = true ∧ Kn (runT reads' works i l t).1.w ∧ FRel n (s.k + memL l) (s.k + memL l) (runT reads works i l s).1.f (runT reads' works i l t).1.f
  | [], i, s, t, h, _ => ⟨rfl, h.w.kn, h.f⟩
  | x :: l, i, s, t, h, hl => by
    have hl0 := hl
    rw [memL_cons] at hl ⊢
    have hm : memI x = true → s.k < n := fun hx => by rw [if_pos hx] at hl; omega
    by_cases hb : stepB x s = true
    · have h2 := h.step (reads := reads) (reads' := reads') (works := works) (i := i) hm hr hk hb
      have hkk := stepT_kk (reads := reads) (works := works) (i := i) (x := x) (s := s)
      obtain ⟨_, k2⟩ := h.w.kn.step (reads := reads') (works := works) (i := i) (x := x) (s := t) fun hx => hk _ (h.k ▸ hm hx)
      have := TRel.run hr hk l (i + 1) _ _ h2 (by omega)
      rw [hkk] at this
      have e1 : runT reads works i (x :: l) s = runT reads works (i + 1) l (stepT reads works i x s) := by rw [runT, if_pos hb]
      have e2 : runT reads' works i (x :: l) t = runT reads' works (i + 1) l (stepT reads' works i x t) := by rw [runT, if_pos k2]
      rw [e1, e2, ← Nat.add_assoc]
      exact this
    · have hb' : stepB x s = false := by simpa using hb
      have hf := h.f
      rw [show FRel n s.k s.k s.f t.f = FRel n s.k t.k s.f t.f by rw [← h.k]] at hf
      obtain ⟨r1, r2, r3⟩ := FRel.g_run (works := works) hk (x :: l) i t h.w.kn hf (by rw [← h.k]; exact hl0)
      rw [← h.k, memL_cons] at r3
      refine ⟨r1, r2, ?_⟩
      have hx : memI x = false := by
        simp only [stepB, Bool.not_eq_false', Bool.and_eq_true] at hb'
        simpa using hb'.1.1.2
      have e1 : runT reads works i (x :: l) s = (stepT reads works i x s, false) := by rw [runT, if_neg hb]
      rw [e1, stepT_same hx]
      exact ⟨r3.of, r3.og, Nat.le_refl _, r3.s, r3.w, fun q hq => r3.s0 q (by omega), fun q hq => r3.w0 q (by omega), r3.g0⟩
end

theorem allK_of {w : Wk} (h : Kn w) : allK w.regs = true := by unfold allK; exact List.all_eq_true.2 fun r _ => h r
theorem FRel.runO {n : Nat} {reads reads' : List Vl} {works : List Bool} (hr : ∀ q, le (reads.getD q zV) (reads'.getD q zV)) (hk : ∀ q, q < n → (reads'.getD q zV).k = true) : ∀ (ls : List (List Ins)) (s t : Os'), s.k = t.k → t.whole = true → FRel n s.k s.k s.f t.f → s.k + (ls.map memL).sum ≤ n →
    (runO reads' works ls t).whole = true ∧ FRel n (s.k + (ls.map memL).sum) (s.k + (ls.map memL).sum) (Go.Proofs.Ytokdphmnlcmbbaa.runO reads works ls s).f (Go.Proofs.Ytokdphmnlcmbbaa.runO reads' works ls t).f
  | [], s, t, _, hw, h, _ => ⟨hw, h⟩
  | l :: ls, s, t, hst, hw, h, hl => by
    simp only [List.map_cons, List.sum_cons] at hl ⊢
    have h0 : TRel n { w := Go.Proofs.Ytokdphmnlcmbbaa.w0, f := s.f, out := 0, k := s.k } { w := Go.Proofs.Ytokdphmnlcmbbaa.w0, f := t.f, out := 0, k := t.k } := ⟨⟨fun r => le_refl _, fun r => rfl, rfl, rfl⟩, rfl, hst, h⟩
    obtain ⟨r1, r2, r3⟩ := TRel.run (works := works) hr hk l 0 _ _ h0 (by dsimp only; omega)
    have := FRel.runO (works := works) hr hk ls (stepO reads works l s) (stepO reads' works l t) (by show s.k + _ = t.k + _; rw [hst]) (by show (t.whole && _ && allK _) = true; rw [hw, r1, allK_of r2]; rfl) r3 (by show s.k + memL l + _ ≤ n; omega)
    rw [show (stepO reads works l s).k = s.k + memL l from rfl, Nat.add_assoc] at this
    exact this

theorem flow_more {t : Tst} {reads reads' : List Vl} {works : List Bool} (hr : ∀ q, le (reads.getD q zV) (reads'.getD q zV)) (hk : ∀ q, q < nOps t → (reads'.getD q zV).k = true) :
    (flowOf t reads' works).whole = true ∧ FRel (nOps t) (nOps t) (nOps t) (flowOf t reads works).f (flowOf t reads' works).f := by
  have h0 : FRel (nOps t) 0 0 (f0 (nOps t)) (f0 (nOps t)) := by
    have z1 : ∀ q, (List.replicate (nOps t) (0 : Int)).getD q 0 = 0 := fun q => by simp only [List.getD, List.getElem?_replicate]; split <;> rfl
    have z2 : ∀ q, ((List.replicate (nOps t) (⟨false, 0⟩ : Vl)).getD q zV).k = false := fun q => by
      simp only [List.getD, List.getElem?_replicate]; split <;> rfl
    exact ⟨f0_ok _, f0_ok _, Nat.le_refl _, fun _ _ => rfl, fun _ _ => rfl, fun q _ => z1 q, fun q _ => z2 q, fun q hq => absurd hq (Nat.not_lt_zero _)⟩
  have := FRel.runO (works := works) hr hk t.ths { f := f0 (nOps t), left := [], regs := [], whole := true, k := 0 } { f := f0 (nOps t), left := [], regs := [], whole := true, k := 0 } rfl rfl h0 (by show 0 + nOps t ≤ nOps t; omega)
  rw [show (({ f := f0 (nOps t), left := [], regs := [], whole := true, k := 0 } : Os').k + (t.ths.map memL).sum) = nOps t by show 0 + nOps t = nOps t; omega] at this
  exact this
end Go.Proofs.Ytokdphmnlcmbbaa
/- Good tests are what flow asks for; numbers filled up. -/
namespace Go.Proofs.Ytokdphmnlcmbbaa
open Go Go.Sl

def insWf (x : Ins) : Prop := (0 ≤ x.aN ∧ x.aN < 18446744073709551616) ∧ 0 ≤ x.bN ∧ x.bN < 18446744073709551616
def tstWf (t : Tst) : Prop := ∀ l ∈ t.ths, ∀ x ∈ l, insWf x
theorem few_wf {t : Tst} (h : tstWf t) : tstWf (few t) := fun l hl x hx => by
  obtain ⟨l', hl', rfl⟩ := List.mem_map.1 hl
  exact h l' (List.mem_of_mem_take hl') x (List.mem_of_mem_take hx)
theorem good_len {T : Tst} (h : chkErr T = 0) : T.ths.length ≤ 4 ∧ ∀ l ∈ T.ths, l.length ≤ 8 := by
  have := sizeErr_zero (chkErr_zero.1 h).1
  exact ⟨this.2.1, this.2.2.2.2.1⟩
theorem good_ins {T : Tst} (h : chkErr T = 0) {l : List Ins} (hl : l ∈ T.ths) {x : Ins} (hx : x ∈ l) : ∃ left : Int, left ≤ 8 ∧ insErr T.locs.length left x = 0 := by
  have h3 := (chkErr_zero.1 h).2.2.1
  obtain ⟨i, hi⟩ := List.getElem?_of_mem hl
  have h4 := (fe_zero _ _).1 h3 i l hi
  obtain ⟨j, hj⟩ := List.getElem?_of_mem hx
  have h5 := (fe_zero _ _).1 h4 j x hj
  have := (good_len h).2 l hl
  exact ⟨_, by omega, h5⟩
theorem good_ok {T : Tst} (h : chkErr T = 0) (hw : tstWf T) : T.ths.length ≤ 1000 ∧ (∀ l ∈ T.ths, l.length ≤ 1000) ∧ ∀ l ∈ T.ths, ∀ x ∈ l, InsOk x := by
  obtain ⟨g1, g2⟩ := good_len h
  refine ⟨by omega, fun l hl => by have := g2 l hl; omega, fun l hl x hx => ?_⟩
  obtain ⟨left, h8, he⟩ := good_ins h hl hx
  obtain ⟨_, e2, _, _, _, _, e7⟩ := insErr_zero.1 he
  obtain ⟨⟨w1, _⟩, w2, _⟩ := hw l hl x hx
  simp only [err2, Bool.or_eq_false_iff, decide_eq_false_iff_not] at e2
  simp only [err7, Bool.or_eq_false_iff, decide_eq_false_iff_not] at e7
  obtain ⟨a1, a2, a3, a4, a5, a6⟩ := e2
  refine ⟨by omega, by omega, fun hr => ⟨w1, ?_⟩, fun hr => ⟨w2, ?_⟩, by omega, by omega⟩
  · simp only [argOk, hr, Bool.not_true, Bool.false_or, Bool.not_eq_false', decide_eq_true_eq] at a3; exact a3
  · simp only [argOk, hr, Bool.not_true, Bool.false_or, Bool.not_eq_false', decide_eq_true_eq] at a4; exact a4

/-! ## numbers filled up -/

def filV (a : List Vl) (more : List Int) (i q : Nat) : Vl := if q < i ∧ (a.getD q zV).k = false then ⟨true, more.getD q (a.getD q zV).v⟩ else a.getD q zV
theorem tab_self {α : Type} (l : List α) (d : α) : tab l.length (fun q => l.getD q d) = l := by
  apply List.ext_getElem?
  intro i
  by_cases h : i < l.length
  · rw [tab_at h]; simp [List.getD, List.getElem?_eq_getElem h]
  · rw [List.getElem?_eq_none (by rw [tab_len]; omega), List.getElem?_eq_none (by omega)]
theorem filV_zero (a : List Vl) (more : List Int) : filV a more 0 = fun q => a.getD q zV := by funext q; simp [filV]
theorem filV_self (a : List Vl) (more : List Int) (i : Nat) : filV a more i i = a.getD i zV := by simp [filV]
theorem filV_yes {a : List Vl} {more : List Int} {i : Nat} {v : Vl} (h : filV a more (i + 1) i = v) : (fun q => if q = i then v else filV a more i q) = filV a more (i + 1) := by
  funext q
  by_cases e : q = i
  · subst e; rw [if_pos rfl, h]
  · rw [if_neg e]
    unfold filV
    by_cases h2 : q < i
    · simp [h2, show q < i + 1 by omega]
    · simp [h2, show ¬ q < i + 1 by omega]
theorem filV_no {a : List Vl} {more : List Int} {i : Nat} (h : (a.getD i zV).k = true) : filV a more (i + 1) = filV a more i := by
  rw [← filV_yes (show filV a more (i + 1) i = a.getD i zV by unfold filV; rw [if_neg (by rw [h]; simp)])]
  funext q
  by_cases e : q = i
  · subst e; simp [filV_self]
  · rw [if_neg e]
theorem set_tab {α : Type} {n : Nat} {f : Nat → α} {i : Nat} {x y : α} : (tab n fun q => if q = i then x else f q).set i y = tab n fun q => if q = i then y else f q := by
  rw [tab_set]
  congr 1; funext q
  by_cases e : q = i <;> simp [e]
def filA (a : List Vl) (more : List Int) (n : Nat) : List Vl := tab n (filV a more n)
theorem fil_le {n : Nat} {reads : List Vl} {more : List Int} (q : Nat) : le ((givA reads n).getD q zV) ((filA (givA reads n) more n).getD q zV) := fun hk => by
  have hq : q < n := Classical.byContradiction fun hc => by
    rw [List.getD, List.getElem?_eq_none (by unfold givA; rw [tab_len]; omega)] at hk
    cases hk
  unfold filA
  rw [tab_getD hq]
  unfold filV
  rw [if_neg (by rw [hk]; simp)]
theorem fil_kn {n : Nat} {reads : List Vl} {more : List Int} (q : Nat) (hq : q < n) : ((filA (givA reads n) more n).getD q zV).k = true := by
  unfold filA
  rw [tab_getD hq]
  unfold filV
  by_cases h : ((givA reads n).getD q zV).k = true
  · rw [if_neg (by rw [h]; simp)]; exact h
  · rw [if_pos ⟨hq, by simpa using h⟩]
theorem givA_len (reads : List Vl) (n : Nat) : (givA reads n).length = n := tab_len
theorem givB_len (works : List Bool) (n : Nat) : (givB works n).length = n := tab_len
theorem filA_len (a : List Vl) (more : List Int) (n : Nat) : (filA a more n).length = n := tab_len

@[go_sem high] theorem fl_len (s : Os') : s.cs.length = 9 := Eq.trans rfl rfl
@[go_sem high] theorem fl_0 (s : Os') : partV false 1 s.cs 0 = .ro 1 (iVs s.f.state) := Eq.trans rfl rfl
@[go_sem high] theorem fl_1 (s : Os') : partV false 1 s.cs 1 = .ro 2 (vls s.f.write) := Eq.trans rfl rfl
@[go_sem high] theorem fl_2 (s : Os') : partV false 1 s.cs 2 = .ro 1 (iVs s.f.pair) := Eq.trans rfl rfl
@[go_sem high] theorem fl_3 (s : Os') : partV false 1 s.cs 3 = .ro 1 (uVs s.f.place) := Eq.trans rfl rfl
@[go_sem high] theorem fl_4 (s : Os') : partV false 1 s.cs 4 = .ro 1 (uVs s.f.value) := Eq.trans rfl rfl
@[go_sem high] theorem fl_5 (s : Os') : partV false 1 s.cs 5 = .ro 1 (uVs s.f.path) := Eq.trans rfl rfl
@[go_sem high] theorem fl_6 (s : Os') : partV false 1 s.cs 6 = .ro 1 (uVs s.left) := Eq.trans rfl rfl
@[go_sem high] theorem fl_7 (s : Os') : partV false 1 s.cs 7 = .ro 16 (regsRows s.regs) := Eq.trans rfl rfl
@[go_sem high] theorem fl_8 (s : Os') : partV false 1 s.cs 8 = bV s.whole := Eq.trans rfl rfl
end Go.Proofs.Ytokdphmnlcmbbaa
/- The document's walk and the code's: they know the same. -/
namespace Go.Proofs.Ytokdphmnlcmbbaa
open Go Go.Sl

/-- bits and numbers -/
structure Msk (m : Int) (o : Option (List Nat)) : Prop where
  lt : ∀ k ∈ o.getD [], k < 64
  eq : m = (maskN (o.getD []) : Nat)
theorem msk_none : Msk 0 none := ⟨fun k hk => by simp at hk, by simp [maskN]⟩
theorem msk_one {k : Nat} (h : k < 64) : Msk (sl64 1 (k : Nat)) (some [k]) := ⟨fun q hq => by simp at hq; omega, by rw [sl64_one h]; rfl⟩
theorem Msk.join {m n : Int} {a b : Option (List Nat)} (h : Msk m a) (h' : Msk n b) : Msk (o64 m n) (joinO a b) := by
  refine ⟨fun k hk => ?_, ?_⟩
  · simp only [joinO, Option.getD_some, List.mem_append] at hk
    exact hk.elim (h.lt k) (h'.lt k)
  · rw [h.eq, h'.eq, o64_mask h.lt h'.lt]; rfl

def rvOf (x : RV) : Vl := ⟨x.k, x.v⟩
structure WR (ops : List XOp) (w : Wk) (v : RW) : Prop where
  regs : ∀ r, w.regs r = rvOf (v.regs r)
  cl : ∀ r, (v.regs r).k = false → (v.regs r).v = 0
  hangs : ∀ r, Msk (w.hangs r) (v.regs r).on
  path : Msk w.path v.path
  left : Msk w.left v.left
  lr : (w.lr = 0 ∧ (v.last = 0 ∨ ∃ (q : Nat) (p : XOp), v.last = (q : Int) + 1 ∧ ops[q]? = some p ∧ ¬ p.2.2.op = 13)) ∨
    (∃ (q : Nat) (p : XOp), w.lr = (q : Int) + 1 ∧ v.last = (q : Int) + 1 ∧ ops[q]? = some p ∧ p.2.2.op = 13 ∧ p.2.2.loc = w.lrLoc)
section
variable {ops : List XOp} {w : Wk} {v : RW} {x : Ins}
theorem WR.arg (h : WR ops w v) (r : Bool) (n : Int) : argW w r n = rvOf (argR v r n) := by
  unfold argW argR; cases r
  · rfl
  · exact h.regs _
theorem WR.argh (h : WR ops w v) (r : Bool) (n : Int) : Msk (argH w r n) (argR v r n).on := by
  unfold argH argR; cases r
  · exact msk_none
  · exact h.hangs _
theorem WR.argc (h : WR ops w v) (r : Bool) (n : Int) : (argR v r n).k = false → (argR v r n).v = 0 := by
  unfold argR; cases r
  · intro h; cases h
  · exact h.cl _
theorem clean_rv (u : RV) : clean (rvOf u) = ⟨u.k, if u.k then u.v else 0⟩ := by
  unfold clean rvOf
  cases h : u.k <;> simp
theorem WR.set (h : WR ops w v) (rd : Int) {a : Vl} {u : RV} (ha : a = rvOf u) {on : Int} (ho : Msk on u.on) : WR ops (setW w rd a on) (setRW v rd u) := by
  subst ha
  refine ⟨fun r => ?_, fun r => ?_, fun r => ?_, h.path, h.left, h.lr⟩
  · show (if r = rd.toNat then _ else _) = rvOf (if r = rd.toNat then _ else _)
    split
    · exact clean_rv u
    · exact h.regs r
  · show (if r = rd.toNat then _ else _ : RV).k = false → (if r = rd.toNat then _ else _ : RV).v = 0
    split
    · intro hk; dsimp only at hk ⊢; rw [hk]; rfl
    · exact h.cl r
  · show Msk (if r = rd.toNat then _ else _) (if r = rd.toNat then _ else _ : RV).on
    split
    · exact ho
    · exact h.hangs r

/-- a Sc's Lr, both ways -/
theorem WR.pair (h : WR ops w v) : (if 0 < w.lr ∧ w.lrLoc = x.loc then w.lr else 0) = refPair v ops x := by
  rcases h.lr with ⟨h1, h2⟩ | ⟨q, p, h1, h2, h3, h4, h5⟩
  · rw [if_neg (by omega)]
    rcases h2 with h2 | ⟨q, p, h2, h3, h4⟩
    · exact (refPair_z (by omega)).symm
    · exact (refPair_no h2 h3 fun hc => h4 hc.1).symm
  · by_cases hl : w.lrLoc = x.loc
    · rw [if_pos ⟨by omega, hl⟩, refPair_yes h2 h3 h4 (h5.trans hl), h1, h2]
    · rw [if_neg (fun hc => hl hc.2), refPair_no h2 h3 fun hc => hl (h5.symm.trans hc.2)]

theorem mem_ops (h : memI x = true) : x.op = 9 ∨ x.op = 10 ∨ x.op = 11 ∨ x.op = 12 ∨ x.op = 13 ∨ x.op = 14 := by
  unfold memI memB rdB wrB at h
  simp at h; omega

theorem WR.lrz (h : WR ops w v) {k : Nat} {p : XOp} (hk : ops[k]? = some p) (h14 : ¬ p.2.2.op = 13) : WR ops { w with lr := 0 } { v with last := (k : Nat) + 1 } :=
  ⟨h.regs, h.cl, h.hangs, h.path, h.left, .inl ⟨rfl, .inr ⟨k, p, rfl, hk, h14⟩⟩⟩
theorem WR.lrs (h : WR ops w v) {k : Nat} {p : XOp} (hk : ops[k]? = some p) (h13 : p.2.2.op = 13) (hl : p.2.2.loc = x.loc) : WR ops { w with lr := (k : Nat) + 1, lrLoc := x.loc } { v with last := (k : Nat) + 1 } :=
  ⟨h.regs, h.cl, h.hangs, h.path, h.left, .inr ⟨k, p, rfl, rfl, hk, h13, hl⟩⟩

theorem WR.mem (h : WR ops w v) (hm : memI x = true) {k : Nat} (hk64 : k < 64) {th at_ : Nat} (hk : ops[k]? = some (th, at_, x)) {read : Vl} {rd : RV} (hr : read = rvOf rd) (works : Bool) (fs : List RF) :
    WR ops (memW w x k read works) { refMemW v ops x k rd works with facts := fs } := by
  have hR : WR ops (setW w x.rd read (sl64 1 (k : Nat))) (setRW v x.rd ⟨rd.k, rd.v, some [k]⟩) := h.set x.rd (u := ⟨rd.k, rd.v, some [k]⟩) hr (msk_one hk64)
  have fin : ∀ {a : Wk} {b : RW}, WR ops a b → WR ops a { b with facts := fs } := fun h => ⟨h.regs, h.cl, h.hangs, h.path, h.left, h.lr⟩
  unfold memW refMemW refW1
  rcases mem_ops hm with e | e | e | e | e | e
  · simp only [e, rdB]; simp; exact fin hR
  · simp only [e, rdB]; simp; exact fin h
  · simp only [e, rdB]; simp; exact fin hR
  · simp only [e, rdB]; simp; exact fin hR
  · simp only [e, rdB]; simp; exact fin (hR.lrs (x := x) hk e rfl)
  · simp only [e, rdB, condW]; simp
    cases works
    · have := (h.set x.rd (a := ⟨true, 1⟩) (u := ⟨true, 1, none⟩) rfl (on := 0) msk_none).lrz hk (show ¬ x.op = 13 by omega)
      exact fin this
    · have := (h.set x.rd (a := ⟨true, 0⟩) (u := ⟨true, 0, some [k]⟩) rfl (on := sl64 1 (k : Nat)) (msk_one hk64)).lrz hk (show ¬ x.op = 13 by omega)
      exact fin this

theorem WR.plain (h : WR ops w v) (h4 : x.op = 1 → x.aR = false) : WR ops (plainW w x) (refPlain v x) := by
  unfold plainW refPlain
  by_cases e : x.op = 15
  · rw [if_pos e, if_pos e]; exact h
  · rw [if_neg e, if_neg e]
    by_cases e1 : x.op = 1
    · rw [if_pos e1, if_pos e1]
      refine h.set x.rd (h.arg _ _) ?_
      rw [h4 e1]; exact msk_none
    · rw [if_neg e1, if_neg e1]
      refine h.set x.rd ?_ ((h.argh _ _).join (h.argh _ _))
      rw [h.arg, h.arg]; rfl
theorem WR.br (h : WR ops w v) (b : Bool) : WR ops (brW w x) { v with path := joinO v.path (joinO (argR v x.aR x.aN).on (argR v x.bR x.bN).on), known := b } :=
  ⟨h.regs, h.cl, h.hangs, h.path.join ((h.argh _ _).join (h.argh _ _)), h.left, h.lr⟩
theorem WR.brk (h : WR ops w v) : brK w x = refKnown v x := by unfold brK refKnown; rw [h.arg, h.arg]; rfl
end

/-! ## facts -/

def rf0 : RF := { state := 0, pair := 0, wk := false, wv := 0, place := none, value := none, path := none }
structure F1 (f : Fl) (q : Nat) (y : RF) : Prop where
  s : f.state.getD q 0 = y.state
  w : f.write.getD q zV = ⟨y.wk, y.wv⟩
  p : f.pair.getD q 0 = y.pair
  pl : Msk (f.place.getD q 0) y.place
  va : Msk (f.value.getD q 0) y.value
  ph : Msk (f.path.getD q 0) y.path
structure FSame (f g : Fl) (k : Nat) : Prop where
  s : ∀ q, q ≠ k → g.state.getD q 0 = f.state.getD q 0
  w : ∀ q, q ≠ k → g.write.getD q zV = f.write.getD q zV
  p : ∀ q, q ≠ k → g.pair.getD q 0 = f.pair.getD q 0
  pl : ∀ q, q ≠ k → g.place.getD q 0 = f.place.getD q 0
  va : ∀ q, q ≠ k → g.value.getD q 0 = f.value.getD q 0
  ph : ∀ q, q ≠ k → g.path.getD q 0 = f.path.getD q 0
structure FR (n k : Nat) (f : Fl) (l : List RF) : Prop where
  ok : FlOk n f
  len : l.length = n
  all : ∀ q, q < n → F1 f q (l.getD q rf0)
  zero : ∀ q, k ≤ q → q < n → l.getD q rf0 = rf0
theorem FR.step {n k : Nat} {f g : Fl} {l : List RF} {y : RF} (h : FR n k f l) (hk : k < n) (hg : FlOk n g) (hs : FSame f g k) (hy : F1 g k y) : FR n (k + 1) g (l.set k y) := by
  refine ⟨hg, by rw [List.length_set]; exact h.len, fun q hq => ?_, fun q h1 h2 => ?_⟩
  · rw [getD_set]
    by_cases e : q = k
    · subst e; rw [if_pos ⟨rfl, by rw [h.len]; exact hk⟩]; exact hy
    · rw [if_neg (fun hc => e hc.1)]
      have := h.all q hq
      exact ⟨(hs.s q e).trans this.s, (hs.w q e).trans this.w, (hs.p q e).trans this.p, by rw [hs.pl q e]; exact this.pl, by rw [hs.va q e]; exact this.va, by rw [hs.ph q e]; exact this.ph⟩
  · rw [getD_set, if_neg (by omega)]
    exact h.zero q (by omega) h2
theorem FR.at0 {n k : Nat} {f : Fl} {l : List RF} (h : FR n k f l) (hk : k < n) : F1 f k rf0 := by
  have := h.all k hk
  rwa [h.zero k (Nat.le_refl _) hk] at this
theorem set_ne {α : Type} {l : List α} {k q : Nat} {x d : α} (h : q ≠ k) : (l.set k x).getD q d = l.getD q d := by rw [getD_set, if_neg (fun hc => h hc.1)]
theorem set_eq {α : Type} {l : List α} {k : Nat} {x d : α} (h : k < l.length) : (l.set k x).getD k d = x := by rw [getD_set, if_pos ⟨rfl, h⟩]
theorem memF_same (w : Wk) (f : Fl) (x : Ins) (k : Nat) (r : Vl) (b : Bool) : FSame f (memF w f x k r b) k := by
  unfold memF memF0 condF
  refine ⟨fun q e => ?_, fun q e => ?_, fun q e => ?_, fun q e => ?_, fun q e => ?_, fun q e => ?_⟩ <;>
    (dsimp only; (repeat' split) <;> first | rfl | (simp only [set_ne e]))
theorem memF_at {n k : Nat} {w : Wk} {v : RW} {ops : List XOp} {f : Fl} {x : Ins} {read : Vl} {rd : RV} (h : WR ops w v) (hm : memI x = true) (ok : FlOk n f) (hk : k < n) (h0 : F1 f k rf0) (hr : read = rvOf rd) (works : Bool) :
    F1 (memF w f x k read works) k (refMemF v ops x k rd works) := by
  obtain ⟨l1, l2, l3, l4, l5, l6⟩ := ok
  have m1 : k < f.state.length := by omega
  have m2 : k < f.write.length := by omega
  have m3 : k < f.pair.length := by omega
  have m4 : k < f.place.length := by omega
  have m5 : k < f.value.length := by omega
  have m6 : k < f.path.length := by omega
  obtain ⟨z1, z2, z3, z4, z5, z6⟩ := h0
  have ha := h.arg x.aR x.aN
  have hh := h.argh x.aR x.aN
  have hc := h.argc x.aR x.aN
  have hpl : Msk ((if 0 < x.dep then f.place.set k (w.hangs (x.dep - 1).toNat) else f.place).getD k 0) (if 0 < x.dep then (v.regs (x.dep - 1).toNat).on else none) := by
    by_cases e : 0 < x.dep
    · rw [if_pos e, if_pos e, set_eq m4]; exact h.hangs _
    · rw [if_neg e, if_neg e]; exact z4
  have hph : Msk ((f.path.set k w.path).getD k 0) v.path := by rw [set_eq m6]; exact h.path
  have hpr := h.pair (x := x)
  have hp : (if 0 < w.lr ∧ w.lrLoc = x.loc then f.pair.set k w.lr else f.pair).getD k 0 = refPair v ops x := by
    rw [← hpr]
    split
    · exact set_eq m3
    · exact z3
  unfold memF memF0 refMemF refF1 refWv refWk
  subst hr
  generalize (x.dep - 1).toNat = dq at *
  generalize argR v x.aR x.aN = a at *
  generalize argW w x.aR x.aN = b at *
  generalize argH w x.aR x.aN = o at *
  subst ha
  rcases mem_ops hm with e | e | e | e | e | e
  · simp only [e, wrB]; simp
    exact ⟨set_eq m1, z2, z3, hpl, z5, hph⟩
  · simp only [e, wrB]; simp
    refine ⟨set_eq m1, ?_, z3, hpl, by dsimp only; rw [set_eq m5]; exact hh, hph⟩
    dsimp only; rw [set_eq m2]
    cases hk : a.k
    · simp [rvOf, hk, hc hk]
    · simp [rvOf, hk]
  · simp only [e, wrB]; simp
    refine ⟨set_eq m1, ?_, z3, hpl, by dsimp only; rw [set_eq m5]; exact hh, hph⟩
    dsimp only; rw [set_eq m2]
    cases hk : a.k
    · simp [rvOf, hk, hc hk]
    · simp [rvOf, hk]
  · simp only [e, wrB]; simp
    refine ⟨set_eq m1, ?_, z3, hpl, by dsimp only; rw [set_eq m5]; exact hh, hph⟩
    dsimp only; rw [set_eq m2]
    cases hk : a.k <;> cases hk2 : rd.k <;> simp [rvOf, hk, hk2, vsum, clean]
  · simp only [e, wrB]; simp
    exact ⟨set_eq m1, z2, z3, hpl, z5, hph⟩
  · simp only [e, wrB, condF]; simp
    cases works
    · simp only [Bool.false_eq_true, if_false]
      refine ⟨by dsimp only; rw [set_eq (by simpa using m1)], z2, hp, ?_, z5, ?_⟩
      · dsimp only; rw [set_eq (by split <;> simpa using m4)]; exact msk_none
      · dsimp only; rw [set_eq (by simpa using m6)]; exact msk_none
    · simp only [if_true]
      refine ⟨set_eq m1, ?_, hp, hpl, by dsimp only; rw [set_eq m5]; exact hh, hph⟩
      dsimp only; rw [set_eq m2]
      cases hk : a.k
      · simp [rvOf, hk, hc hk]
      · simp [rvOf, hk]

/-! ## threads -/

structure TR (n : Nat) (ops : List XOp) (s : Ts) (u : RT) : Prop where
  w : WR ops s.w u.w
  f : FR n s.k s.f u.w.facts
  k : s.k = u.k
  out : s.out = u.skip ∨ s.out ≤ 0 ∧ u.skip ≤ 0
/-- both lists of numbers that are read -/
def Reads (reads : List Vl) (rds : List RV) : Prop := ∀ q, reads.getD q zV = rvOf (rds.getD q ⟨false, 0, none⟩)
section
variable {n : Nat} {ops : List XOp} {reads : List Vl} {rds : List RV} {works : List Bool} {x : Ins} {s : Ts} {u : RT} {i : Nat}
theorem TR.goes (h : TR n ops s u) : stepB x s = refGoes x u := by
  unfold stepB refGoes
  rw [h.w.brk]
  have : decide (s.out ≤ 0) = decide (u.skip ≤ 0) := by rw [Bool.eq_iff_iff, decide_eq_true_eq, decide_eq_true_eq]; have := h.out; omega
  rw [this]
theorem TR.step (h : TR n ops s u) (hR : Reads reads rds) (hn : n ≤ 64) (hi : i < 64) (h4 : x.op = 1 → x.aR = false) (hm : memI x = true → s.k < n ∧ ∃ th at_, ops[s.k]? = some (th, at_, x)) :
    TR n ops (stepT reads works i x s) (refStep ops rds works i x u) := by
  have hk := h.k
  unfold stepT refStep
  by_cases ho : 0 < s.out
  · have hs : 0 < u.skip := by have := h.out; omega
    rw [if_pos ho, if_pos hs]
    have hw : ∀ fs, WR ops { s.w with left := o64 s.w.left (sl64 1 (i : Nat)) } { u.w with left := joinO u.w.left (some [i]), facts := fs } := fun fs => ⟨h.w.regs, h.w.cl, h.w.hangs, h.w.path, h.w.left.join (msk_one hi), h.w.lr⟩
    cases hmI : memI x
    · simp only [Bool.false_eq_true, if_false]
      exact ⟨hw _, h.f, hk, by have := h.out; dsimp only; omega⟩
    · obtain ⟨hkn, _⟩ := hm hmI
      simp only [if_true]
      refine ⟨hw _, ?_, by dsimp only; omega, by have := h.out; dsimp only; omega⟩
      dsimp only
      rw [← hk]
      obtain ⟨z1, z2, z3, z4, z5, z6⟩ := h.f.at0 hkn
      have ok := h.f.ok
      refine h.f.step hkn ⟨by simpa using ok.l1, ok.l2, ok.l3, ok.l4, ok.l5, ok.l6⟩ ⟨fun q e => set_ne e, fun _ _ => rfl, fun _ _ => rfl, fun _ _ => rfl, fun _ _ => rfl, fun _ _ => rfl⟩ ?_
      exact ⟨set_eq (by rw [ok.l1]; exact hkn), z2, z3, z4, z5, z6⟩
  · have hs : ¬ 0 < u.skip := by have := h.out; omega
    rw [if_neg ho, if_neg hs]
    cases hmI : memI x
    · simp only [Bool.false_eq_true, if_false]
      by_cases hb : isBr x.op = true
      · rw [if_pos hb, if_pos hb]
        refine ⟨h.w.br _, h.f, hk, ?_⟩
        dsimp only
        have e : (argW s.w x.aR x.aN).v = (argR u.w x.aR x.aN).v := by rw [h.w.arg]; rfl
        have e' : (argW s.w x.bR x.bN).v = (argR u.w x.bR x.bN).v := by rw [h.w.arg]; rfl
        unfold brN
        rw [h.w.brk, e, e']
        split
        · exact .inl rfl
        · right; omega
      · rw [if_neg hb, if_neg hb]
        have : (refPlain u.w x).facts = u.w.facts := by unfold refPlain setRW; (repeat' split) <;> rfl
        exact ⟨h.w.plain h4, by dsimp only; rw [this]; exact h.f, hk, h.out⟩
    · obtain ⟨hkn, th, at_, hop⟩ := hm hmI
      simp only [if_true]
      refine ⟨?_, ?_, by dsimp only; omega, h.out⟩
      · dsimp only
        rw [← hk]
        exact h.w.mem hmI (by omega) hop (hR _) _ _
      · dsimp only
        rw [← hk]
        exact h.f.step hkn (memF_ok h.f.ok _ _ _ _ _) (memF_same _ _ _ _ _ _) (memF_at h.w hmI h.f.ok hkn (h.f.at0 hkn) (hR _) _)

/-- where the Ops of what is left of a thread stand -/
def OpsAt (ops : List XOp) (n : Nat) : List Ins → Nat → Prop
  | [], _ => True
  | x :: l, k => if memI x then (k < n ∧ ∃ th at_, ops[k]? = some (th, at_, x)) ∧ OpsAt ops n l (k + 1) else OpsAt ops n l k
theorem refStep_k : (refStep ops rds works i x u).k = u.k + if memI x then 1 else 0 := by
  unfold refStep
  by_cases ho : 0 < u.skip
  · rw [if_pos ho]; dsimp only; split <;> simp
  · rw [if_neg ho]
    cases memI x
    · simp only [Bool.false_eq_true, if_false]; split <;> rfl
    · rfl
theorem step_known (hg : refGoes x u = true) (hk : u.w.known = true) : (refStep ops rds works i x u).w.known = true := by
  unfold refStep
  by_cases ho : 0 < u.skip
  · rw [if_pos ho]; exact hk
  · rw [if_neg ho]
    cases hm : memI x
    · simp only [Bool.false_eq_true, if_false]
      by_cases hb : isBr x.op = true
      · rw [if_pos hb]
        unfold refGoes at hg
        dsimp only
        simp [hm, hb, show u.skip ≤ 0 by omega] at hg
        rw [hk, hg]; rfl
      · rw [if_neg hb]
        unfold refPlain setRW
        (repeat' split) <;> exact hk
    · simp only [if_true]
      unfold refMem refMemW refW1
      dsimp only
      (repeat' split) <;> exact hk
theorem step_unknown (hg : refGoes x u = false) : (refStep ops rds works i x u).w.known = false := by
  unfold refGoes at hg
  simp at hg
  obtain ⟨⟨⟨h1, h2⟩, h3⟩, h4⟩ := hg
  unfold refStep
  rw [if_neg (by omega), h2]
  simp only [Bool.false_eq_true, if_false]
  rw [if_pos h3]
  dsimp only
  rw [h4]; simp
/-- what holds at the end -/
structure ER (n k : Nat) (ops : List XOp) (r : Ts × Bool) (v : RW) : Prop where
  w : WR ops r.1.w v
  f : FR n k r.1.f v.facts
  known : r.2 = v.known
theorem FR.up {n k k' : Nat} {f : Fl} {l : List RF} (h : FR n k f l) (hk : k ≤ k') : FR n k' f l := ⟨h.ok, h.len, h.all, fun q h1 h2 => h.zero q (by omega) h2⟩
theorem TR.run (hR : Reads reads rds) (hn : n ≤ 64) : ∀ (l : List Ins) (i : Nat) (s : Ts) (u : RT), TR n ops s u → u.w.known = true → i + l.length ≤ 64 → (∀ x ∈ l, x.op = 1 → x.aR = false) → OpsAt ops n l s.k →
    ER n (s.k + memL l) ops (runT reads works i l s) (refRun ops rds works i l u)
  | [], i, s, u, h, hkn, _, _, _ => ⟨h.w, h.f, hkn.symm⟩
  | x :: l, i, s, u, h, hkn, hi, h4, ho => by
    simp only [List.length_cons] at hi
    have hm : memI x = true → s.k < n ∧ ∃ th at_, ops[s.k]? = some (th, at_, x) := fun e => by unfold OpsAt at ho; rw [if_pos e] at ho; exact ho.1
    have hs := h.step (works := works) (x := x) (i := i) hR hn (by omega) (h4 x (by simp)) hm
    have hg := h.goes (x := x)
    have hk2 := refStep_k (ops := ops) (rds := rds) (works := works) (i := i) (x := x) (u := u)
    have hke : (stepT reads works i x s).k = s.k + if memI x then 1 else 0 := by rw [hs.k, hk2, h.k]
    rw [memL_cons]
    cases hb : refGoes x u
    · rw [runT, hg, hb, refRun, hb]
      simp only [Bool.false_eq_true, if_false]
      exact ⟨hs.w, hs.f.up (by rw [hke]; omega), (step_unknown hb).symm⟩
    · rw [runT, hg, hb, refRun, hb]
      simp only [if_true]
      have := TR.run hR hn l (i + 1) _ _ hs (step_known hb hkn) (by omega) (fun x hx => h4 x (by simp [hx])) (by
        rw [hke]
        unfold OpsAt at ho
        cases hmI : memI x
        · rw [hmI] at ho; simpa using ho
        · rw [hmI] at ho; simpa using ho.2)
      rw [hke] at this
      rwa [Nat.add_assoc] at this
end
end Go.Proofs.Ytokdphmnlcmbbaa
/- The document's answer for a whole test: plainly; it knows what the code knows. -/
namespace Go.Proofs.Ytokdphmnlcmbbaa
open Go Go.Sl

structure RO where
  facts : List RF
  regs : List (Nat → RV)
  left : List (Option (List Nat))
  whole : Bool
  k : Nat
def rw0 (fs : List RF) : RW := { regs := fun _ => ⟨true, 0, none⟩, path := none, last := 0, left := none, facts := fs, known := true }
def allR (g : Nat → RV) : Bool := (List.range 8).all fun r => (g r).k
def rlefts (l : List (Option (List Nat))) : List V := l.map onV
def rgss (l : List (Nat → RV)) : List V := l.map fun g => .ro 3 (rregs g)
def RO.cs (o : RO) : List V := [.ro 8 (rfs o.facts), .ro 1 (rgss o.regs), .ro 1 (rlefts o.left), bV o.whole]
def refStepO (ops : List XOp) (rds : List RV) (works : List Bool) (l : List Ins) (o : RO) : RO :=
  let w := refRun ops rds works 0 l ⟨rw0 o.facts, 0, o.k⟩
  { facts := w.facts, regs := o.regs ++ [w.regs], left := o.left ++ [w.left], whole := o.whole && w.known && allR w.regs, k := o.k + memL l }
def refRunO (ops : List XOp) (rds : List RV) (works : List Bool) : List (List Ins) → RO → RO
  | [], o => o
  | l :: r, o => refRunO ops rds works r (refStepO ops rds works l o)
def refFlow (t : Tst) (rds : List RV) (works : List Bool) : RO := refRunO (xopsT 0 t.ths) rds works t.ths { facts := List.replicate (xopsT 0 t.ths).length rf0, regs := [], left := [], whole := true, k := 0 }
theorem refRunO_step {ops : List XOp} {t : Tst} {rds : List RV} {works : List Bool} {i : Nat} {l : List Ins} {o : RO} (h : t.ths[i]? = some l) : refRunO ops rds works (t.ths.drop i) o = refRunO ops rds works (t.ths.drop (i + 1)) (refStepO ops rds works l o) := by rw [drop_cons h, refRunO]

structure OR (n : Nat) (s : Os') (o : RO) : Prop where
  f : FR n s.k s.f o.facts
  k : s.k = o.k
  whole : s.whole = o.whole
  ll : s.left.length = o.left.length
  left : ∀ (i : Nat) (m : Int) (a : Option (List Nat)), s.left[i]? = some m → o.left[i]? = some a → Msk m a
  rl : s.regs.length = o.regs.length
  regs : ∀ (i : Nat) (g : Nat → Vl) (h : Nat → RV), s.regs[i]? = some g → o.regs[i]? = some h → ∀ r, g r = rvOf (h r)
theorem snoc_at {α : Type} {l : List α} {x y : α} {i : Nat} (h : (l ++ [x])[i]? = some y) : l[i]? = some y ∨ (i = l.length ∧ x = y) := by
  by_cases hi : i < l.length
  · left; rwa [List.getElem?_append_left hi] at h
  · right
    have h1 : i < (l ++ [x]).length := (List.getElem?_eq_some_iff.1 h).1
    simp at h1
    have e : i = l.length := by omega
    subst e
    simp at h
    exact ⟨rfl, h⟩
theorem wr_start (ops : List XOp) (fs : List RF) : WR ops w0 (rw0 fs) :=
  ⟨fun r => rfl, (fun r h => by cases h), fun r => msk_none, msk_none, msk_none, .inl ⟨rfl, .inl rfl⟩⟩
theorem opsAt_of {n th : Nat} : ∀ (l : List Ins) (j : Nat) (pre post : List XOp), (pre ++ xopsL th j l ++ post).length ≤ n → OpsAt (pre ++ xopsL th j l ++ post) n l pre.length
  | [], _, _, _, _ => trivial
  | x :: l, j, pre, post, hn => by
    unfold OpsAt
    by_cases hm : memI x = true
    · rw [if_pos hm]
      have e : pre ++ xopsL th j (x :: l) ++ post = (pre ++ [(th, j, x)]) ++ xopsL th (j + 1) l ++ post := by rw [xopsL, if_pos hm]; simp
      have hl : pre.length < n := by rw [e] at hn; simp at hn; omega
      refine ⟨⟨hl, th, j, by rw [e]; simp⟩, ?_⟩
      rw [e] at hn ⊢
      have := opsAt_of l (j + 1) (pre ++ [(th, j, x)]) post hn
      simpa using this
    · rw [if_neg hm]
      have e : pre ++ xopsL th j (x :: l) ++ post = pre ++ xopsL th (j + 1) l ++ post := by rw [xopsL, if_neg hm]
      rw [e] at hn ⊢
      exact opsAt_of l (j + 1) pre post hn
theorem xopsL_len (th j : Nat) (l : List Ins) : (xopsL th j l).length = memL l := by rw [← opsL_len th j l, ← xopsL_ops, List.length_map]
section
variable {n : Nat} {ops : List XOp} {reads : List Vl} {rds : List RV} {works : List Bool} {s : Os'} {o : RO} {l : List Ins}
theorem OR.step (h : OR n s o) (hR : Reads reads rds) (hn : n ≤ 64) (hl : l.length ≤ 64) (h4 : ∀ x ∈ l, x.op = 1 → x.aR = false) (ho : OpsAt ops n l s.k) : OR n (stepO reads works l s) (refStepO ops rds works l o) := by
  have hr := TR.run hR hn l 0 ⟨w0, s.f, 0, s.k⟩ ⟨rw0 o.facts, 0, o.k⟩ (works := works) ⟨wr_start ops _, h.f, h.k, .inl rfl⟩ rfl (by omega) h4 ho
  unfold stepO refStepO
  generalize runT reads works 0 l ⟨w0, s.f, 0, s.k⟩ = a at *
  generalize refRun ops rds works 0 l ⟨rw0 o.facts, 0, o.k⟩ = b at *
  have hall : allK a.1.w.regs = allR b.regs := by
    unfold allK allR
    congr 1; funext r; rw [hr.w.regs r]; rfl
  refine ⟨hr.f, by dsimp only; rw [h.k], by dsimp only; rw [h.whole, hr.known, hall], by simp [h.ll], ?_, by simp [h.rl], ?_⟩
  · intro i m c h1 h2
    have hll := h.ll
    rcases snoc_at h1 with h1 | ⟨h1, e1⟩ <;> rcases snoc_at h2 with h2 | ⟨h2, e2⟩
    · exact h.left i m c h1 h2
    · have := (List.getElem?_eq_some_iff.1 h1).1; omega
    · have := (List.getElem?_eq_some_iff.1 h2).1; omega
    · rw [← e1, ← e2]; exact hr.w.left
  · intro i m c h1 h2
    have hll := h.rl
    rcases snoc_at h1 with h1 | ⟨h1, e1⟩ <;> rcases snoc_at h2 with h2 | ⟨h2, e2⟩
    · exact h.regs i m c h1 h2
    · have := (List.getElem?_eq_some_iff.1 h1).1; omega
    · have := (List.getElem?_eq_some_iff.1 h2).1; omega
    · rw [← e1, ← e2]; exact hr.w.regs
theorem OR.run (hR : Reads reads rds) (hn : n ≤ 64) : ∀ (ths : List (List Ins)) (i : Nat) (pre : List XOp) (s : Os') (o : RO), OR n s o → (∀ l ∈ ths, l.length ≤ 64 ∧ ∀ x ∈ l, x.op = 1 → x.aR = false) → s.k = pre.length → (pre ++ xopsT i ths).length ≤ n →
    OR n (runO reads works ths s) (refRunO (pre ++ xopsT i ths) rds works ths o)
  | [], i, pre, s, o, h, _, _, _ => h
  | l :: r, i, pre, s, o, h, hl, hk, hlen => by
    have e : pre ++ xopsT i (l :: r) = pre ++ xopsL i 0 l ++ xopsT (i + 1) r := by rw [xopsT, List.append_assoc]
    have e2 : pre ++ xopsT i (l :: r) = (pre ++ xopsL i 0 l) ++ xopsT (i + 1) r := e
    have hs := h.step (ops := pre ++ xopsT i (l :: r)) (works := works) hR hn (hl l (by simp)).1 (hl l (by simp)).2 (by rw [hk, e]; exact opsAt_of l 0 pre _ (by rw [← e]; exact hlen))
    rw [runO, refRunO]
    have := OR.run hR hn r (i + 1) (pre ++ xopsL i 0 l) _ _ hs (fun x hx => hl x (by simp [hx])) (by
      show s.k + memL l = _
      rw [List.length_append, xopsL_len, hk]) (by rw [← e2]; exact hlen)
    rw [← e2] at this
    exact this
end
def rvl (l : List Vl) : List RV := l.map fun x => ⟨x.k, x.v, none⟩
theorem rvl_reads (l : List Vl) : Reads l (rvl l) := fun q => by
  unfold rvl
  simp only [List.getD, List.getElem?_map]
  cases l[q]? <;> rfl
theorem good_op1 {T : Tst} (h : chkErr T = 0) {l : List Ins} (hl : l ∈ T.ths) {x : Ins} (hx : x ∈ l) : x.op = 1 → x.aR = false := fun h1 => by
  obtain ⟨left, h8, he⟩ := good_ins h hl hx
  have := (insErr_zero.1 he).2.2.2.1
  unfold err4 at this
  simpa [h1] using this
theorem good_nOps {T : Tst} (h : chkErr T = 0) : nOps T ≤ 32 := by
  obtain ⟨g1, g2⟩ := good_len h
  have := opsT_le (n := 8) 0 T.ths g2
  rw [opsT_len] at this
  unfold nOps
  have : 8 * T.ths.length ≤ 32 := by omega
  omega
/-- both know the same -/
theorem flow_same {T : Tst} (h : chkErr T = 0) (reads : List Vl) (works : List Bool) : OR (nOps T) (flowOf T reads works) (refFlow T (rvl reads) works) := by
  obtain ⟨g1, g2⟩ := good_len h
  have hlen : (xopsT 0 T.ths).length = nOps T := by rw [xopsT_len, opsT_len]; rfl
  unfold flowOf refFlow
  have h0 : OR (nOps T) { f := f0 (nOps T), left := [], regs := [], whole := true, k := 0 } { facts := List.replicate (xopsT 0 T.ths).length rf0, regs := [], left := [], whole := true, k := 0 } := by
    rw [hlen]
    refine ⟨⟨f0_ok _, by simp, fun q hq => ?_, fun q _ hq => ?_⟩, rfl, rfl, rfl, (fun i m a h => by simp at h), rfl, (fun i g h hh => by simp at hh)⟩
    · have e : (List.replicate (nOps T) rf0).getD q rf0 = rf0 := by simp [List.getD, List.getElem?_replicate, hq]
      rw [e]
      refine ⟨?_, ?_, ?_, ?_, ?_, ?_⟩ <;> simp [f0, List.getD, List.getElem?_replicate, hq, rf0] <;> exact msk_none
    · simp [List.getD, List.getElem?_replicate, hq]
  exact OR.run (rvl_reads reads) (by have := good_nOps h; omega) T.ths 0 [] _ _ h0 (fun l hl => ⟨by have := g2 l hl; omega, fun x hx => good_op1 h hl hx⟩) rfl (by simp [hlen])

/-! ## what the document's lists may grow to -/

structure RWs (B : Nat) (w : RW) : Prop where
  on : ∀ r, ((w.regs r).on.getD []).length ≤ B
  path : (w.path.getD []).length ≤ B
  left : (w.left.getD []).length ≤ B
theorem RWs.up {B C : Nat} {w : RW} (h : RWs B w) (hc : B ≤ C) : RWs C w := ⟨fun r => Nat.le_trans (h.on r) hc, Nat.le_trans h.path hc, Nat.le_trans h.left hc⟩
theorem RWs.arg {B : Nat} {w : RW} (h : RWs B w) (b : Bool) (n : Int) : ((argR w b n).on.getD []).length ≤ B := by unfold argR; cases b; simp; exact h.on _
theorem RWs.set {B C : Nat} {w : RW} (h : RWs B w) (hc : B ≤ C) (rd : Int) {v : RV} (hv : (v.on.getD []).length ≤ C) : RWs C (setRW w rd v) := by
  refine ⟨fun r => ?_, Nat.le_trans h.path hc, Nat.le_trans h.left hc⟩
  show ((if r = rd.toNat then _ else _ : RV).on.getD []).length ≤ C
  split
  · exact hv
  · exact Nat.le_trans (h.on r) hc
theorem joinO_len (a b : Option (List Nat)) : ((joinO a b).getD []).length = (a.getD []).length + (b.getD []).length := by simp [joinO]
theorem RWs.step {B : Nat} {ops : List XOp} {rds : List RV} {works : List Bool} {i : Nat} {x : Ins} {s : RT} (h : RWs B s.w) (h1 : 1 ≤ B) : RWs (3 * B) (refStep ops rds works i x s).w := by
  unfold refStep
  split
  · refine ⟨fun r => Nat.le_trans (h.on r) (by omega), Nat.le_trans h.path (by omega), ?_⟩
    dsimp only
    rw [joinO_len]
    have := h.left
    simp; omega
  · split
    · have key : ∀ (w : RW) (v : RV), RWs (3 * B) w → (v.on.getD []).length ≤ 3 * B → RWs (3 * B) (setRW w x.rd v) := fun w v hw hv => hw.set (Nat.le_refl _) _ hv
      have h3 : RWs (3 * B) s.w := h.up (by omega)
      have hf : ∀ (w : RW) (fs : List RF), RWs (3 * B) w → RWs (3 * B) { w with facts := fs } := fun w fs h => ⟨h.on, h.path, h.left⟩
      have hl : ∀ (w : RW) (n : Int), RWs (3 * B) w → RWs (3 * B) { w with last := n } := fun w fs h => ⟨h.on, h.path, h.left⟩
      unfold refMem refMemW refW1
      dsimp only
      refine hf _ _ ?_
      have a1 : RWs (3 * B) (if rdB x.op = true then setRW s.w x.rd ⟨(rds.getD s.k ⟨false, 0, none⟩).k, (rds.getD s.k ⟨false, 0, none⟩).v, some [s.k]⟩ else s.w) := by
        split
        · exact key _ _ h3 (by simp; omega)
        · exact h3
      have a2 : ∀ w, RWs (3 * B) w → RWs (3 * B) (if x.op = 14 then setRW w x.rd (if works.getD s.k false = true then ⟨true, 0, some [s.k]⟩ else ⟨true, 1, none⟩) else w) := fun w hw => by
        split
        · refine key _ _ hw ?_
          split <;> simp <;> omega
        · exact hw
      split
      · exact hl _ _ (a2 _ a1)
      · exact a2 _ a1
    · split
      · refine ⟨fun r => Nat.le_trans (h.on r) (by omega), ?_, Nat.le_trans h.left (by omega)⟩
        dsimp only
        rw [joinO_len, joinO_len]
        have := h.path
        have := h.arg x.aR x.aN
        have := h.arg x.bR x.bN
        omega
      · dsimp only
        unfold refPlain
        split
        · exact h.up (by omega)
        · split
          · exact h.set (by omega) _ (Nat.le_trans (h.arg _ _) (by omega))
          · refine h.set (by omega) _ ?_
            rw [joinO_len]
            have := h.arg x.aR x.aN
            have := h.arg x.bR x.bN
            omega
end Go.Proofs.Ytokdphmnlcmbbaa
/- The document's walk through a thread: what stays within bounds. -/
namespace Go.Proofs.Ytokdphmnlcmbbaa
open Go Go.Sl

/-- a row of the document's numbers -/
def rrs (l : List RV) : List V := l.map fun x => .agg [bV x.k, uV x.v, onV x.on]
@[go_sem] theorem rrs_len (l : List RV) : (rrs l).length = l.length := List.length_map ..
@[go_sem] theorem rrs_at (l : List RV) (i : Nat) : (rrs l)[i]? = l[i]?.map fun x => V.agg [bV x.k, uV x.v, onV x.on] := List.getElem?_map ..
@[go_sem] theorem rrs_get (l : List RV) (i : Nat) (h : i < (rrs l).length) : (rrs l)[i] = .agg [bV (l[i]'(by simpa [rrs] using h)).k, uV (l[i]'(by simpa [rrs] using h)).v, onV (l[i]'(by simpa [rrs] using h)).on] := by simp [rrs]
theorem rvs_rrs (l : List Vl) : rvs l = rrs (rvl l) := by simp [rvs, rrs, rvl, onV]
theorem nl_rrs (l : List RV) : NL (.ro 3 (rrs l)) := .ro fun v hv => by obtain ⟨r, _, rfl⟩ := List.mem_map.1 hv; exact nl_rv _

def In64 (v : Int) : Prop := 0 ≤ v ∧ v < 18446744073709551616
theorem wrap_in (x : Int) : In64 (IntKind.u64.wrap x) := by
  have h : IntKind.u64.wrap x = x % 18446744073709551616 := by simp [IntKind.wrap, IntKind.bits, IntKind.signed]
  unfold In64
  rw [h]; omega
theorem reck_in {op a b : Int} (ha : In64 a) : In64 (reck op a b) := by
  unfold reck
  (repeat' split) <;> first | exact wrap_in _ | skip
  unfold sr64
  obtain ⟨h0, h1⟩ := ha
  have hp : (0 : Int) ≤ 2 ^ (min (n64 b 63).toNat 64) := Int.le_of_lt (Int.pow_pos (by omega))
  refine ⟨Int.fdiv_nonneg h0 hp, ?_⟩
  rw [Int.fdiv_eq_ediv_of_nonneg _ hp]
  exact Int.lt_of_le_of_lt (Int.ediv_le_self _ h0) h1
structure RI (ops : List XOp) (i : Nat) (s : RT) : Prop where
  fl : s.w.facts.length = ops.length
  l0 : 0 ≤ s.w.last
  l1 : s.w.last ≤ ops.length
  sk : s.skip ≤ 9223372036854775807
  sz : RWs (3 ^ i) s.w
  va : ∀ r, In64 (s.w.regs r).v
section
variable {ops : List XOp} {rds : List RV} {works : List Bool} {i : Nat} {x : Ins} {s : RT}
theorem in_set {w : RW} (h : ∀ r, In64 (w.regs r).v) (rd : Int) {v : RV} (hv : In64 v.v) : ∀ r, In64 ((setRW w rd v).regs r).v := fun r => by
  show In64 (if r = rd.toNat then _ else _ : RV).v
  split
  · dsimp only; split
    · exact hv
    · exact ⟨by omega, by omega⟩
  · exact h r
theorem in_arg {w : RW} (h : ∀ r, In64 (w.regs r).v) (b : Bool) {n : Int} (hn : In64 n) : In64 (argR w b n).v := by unfold argR; cases b; exact hn; exact h _
theorem RI.step (h : RI ops i s) (hx : InsOk x) (hw : insWf x) (hk : memI x = true → s.k < ops.length) (hr : ∀ q, In64 (rds.getD q ⟨false, 0, none⟩).v) : RI ops (i + 1) (refStep ops rds works i x s) := by
  have h1 : 1 ≤ 3 ^ i := Nat.pow_pos (by omega)
  have hsz : RWs (3 ^ (i + 1)) (refStep ops rds works i x s).w := by rw [Nat.pow_succ, Nat.mul_comm]; exact h.sz.step h1
  have key : (refStep ops rds works i x s).w.facts.length = ops.length ∧ 0 ≤ (refStep ops rds works i x s).w.last ∧ (refStep ops rds works i x s).w.last ≤ ops.length ∧ (refStep ops rds works i x s).skip ≤ 9223372036854775807 ∧ ∀ r, In64 ((refStep ops rds works i x s).w.regs r).v := by
    have hfl := h.fl
    have hl0 := h.l0
    have hl1 := h.l1
    have hsk := h.sk
    have hxs := hx.skip
    unfold refStep
    by_cases ho : 0 < s.skip
    · rw [if_pos ho]
      refine ⟨?_, hl0, hl1, by dsimp only; omega, h.va⟩
      dsimp only; split
      · rw [List.length_set]; exact hfl
      · exact hfl
    · rw [if_neg ho]
      cases hm : memI x
      · simp only [Bool.false_eq_true, if_false]
        by_cases hb : isBr x.op = true
        · rw [if_pos hb]
          refine ⟨hfl, hl0, hl1, ?_, h.va⟩
          dsimp only; split
          · exact hxs
          · exact hsk
        · rw [if_neg hb]
          refine ⟨?_, ?_, ?_, hsk, ?_⟩
          · unfold refPlain setRW; (repeat' split) <;> exact hfl
          · unfold refPlain setRW; (repeat' split) <;> exact hl0
          · unfold refPlain setRW; (repeat' split) <;> exact hl1
          · dsimp only
            unfold refPlain
            split
            · exact h.va
            · split
              · exact in_set h.va _ (in_arg h.va _ ⟨hw.1.1, hw.1.2⟩)
              · exact in_set h.va _ (reck_in (in_arg h.va _ ⟨hw.1.1, hw.1.2⟩))
      · have hkn := hk hm
        simp only [if_true]
        have hl : (refMemW s.w ops x s.k (rds.getD s.k ⟨false, 0, none⟩) (works.getD s.k false)).last = s.w.last ∨ (refMemW s.w ops x s.k (rds.getD s.k ⟨false, 0, none⟩) (works.getD s.k false)).last = (s.k : Int) + 1 := by
          unfold refMemW refW1 setRW
          dsimp only
          (repeat' split) <;> first | exact .inl rfl | exact .inr rfl
        refine ⟨?_, ?_, ?_, hsk, ?_⟩
        · show (s.w.facts.set _ _).length = _; rw [List.length_set]; exact hfl
        · show 0 ≤ (refMemW _ _ _ _ _ _).last; omega
        · show (refMemW _ _ _ _ _ _).last ≤ _; omega
        · show ∀ r, In64 ((refMemW _ _ _ _ _ _).regs r).v
          have a1 : ∀ r, In64 ((refW1 s.w x s.k (rds.getD s.k ⟨false, 0, none⟩)).regs r).v := by
            unfold refW1; split
            · exact in_set h.va _ (hr _)
            · exact h.va
          have a2 : ∀ w : RW, (∀ r, In64 (w.regs r).v) → ∀ r, In64 ((if x.op = 14 then setRW w x.rd (if works.getD s.k false = true then ⟨true, 0, some [s.k]⟩ else ⟨true, 1, none⟩) else w : RW).regs r).v := fun w hw => by
            split
            · refine in_set hw _ ?_
              split <;> exact ⟨by dsimp only; omega, by dsimp only; omega⟩
            · exact hw
          unfold refMemW
          dsimp only
          split
          · exact a2 _ a1
          · exact a2 _ a1
  exact ⟨key.1, key.2.1, key.2.2.1, key.2.2.2.1, hsz, key.2.2.2.2⟩
theorem pow3 {i : Nat} (h : i ≤ 8) : 3 ^ i ≤ 6561 := Nat.le_trans (Nat.pow_le_pow_right (by omega) h) (by decide)
theorem opsAt_mem {n : Nat} {l : List Ins} {i k : Nat} (hx : l[i]? = some x) (h : OpsAt ops n (l.drop i) k) : (memI x = true → k < n ∧ ∃ th at_, ops[k]? = some (th, at_, x)) ∧ OpsAt ops n (l.drop (i + 1)) (k + if memI x then 1 else 0) := by
  rw [drop_cons hx, OpsAt] at h
  cases hm : memI x
  · rw [hm] at h; exact ⟨(fun h => by cases h), by simp at h; simpa using h⟩
  · rw [hm] at h; exact ⟨fun _ => h.1, by simpa using h.2⟩
theorem refRun_step {l : List Ins} (h : l[i]? = some x) (hb : refGoes x s = true) : refRun ops rds works i (l.drop i) s = refRun ops rds works (i + 1) (l.drop (i + 1)) (refStep ops rds works i x s) := by
  rw [drop_cons h, refRun, if_pos hb]
theorem refRun_stop {l : List Ins} (h : l[i]? = some x) (hb : refGoes x s = false) : refRun ops rds works i (l.drop i) s = (refStep ops rds works i x s).w := by
  rw [drop_cons h, refRun, if_neg (by simp [hb])]
theorem good_op {T : Tst} (h : chkErr T = 0) {l : List Ins} (hl : l ∈ T.ths) {x : Ins} (hx : x ∈ l) : 1 ≤ x.op ∧ x.op ≤ 17 := by
  obtain ⟨left, h8, he⟩ := good_ins h hl hx
  have := (insErr_zero.1 he).1
  unfold err1 at this
  simp only [Bool.or_eq_false_iff, decide_eq_false_iff_not] at this
  omega
/-- an argument, as a natural number -/
theorem In64.nat {v : Int} (h : In64 v) : ∃ n : Nat, v = (n : Int) ∧ n < 18446744073709551616 := ⟨v.toNat, by have := h.1; omega, by have := h.1; have := h.2; omega⟩
end
/-- a walk under way whose Left, or whose facts, stand in a row of their own -/
theorem rw_mk (w : RW) (o : Option (List Nat)) (fs : List RF) : [V.ro 3 (rregs w.regs), onV w.path, iV w.last, onV o, .ro 8 (rfs fs), bV w.known] = { w with left := o, facts := fs }.cs := rfl
theorem news_on (H : Heap) (o : Option (List Nat)) : newsV H 1 (onV o) = some (natV (o.getD [])) := by cases o <;> rfl
theorem news_sl (H : Heap) (sz n i len : Nat) : newsV H sz (.sl n i len) = (match Sl.look n H with | some (.rows sz' es) => if sz' = sz then (if i + len ≤ es.length then some ((es.drop i).take len) else none) else none | _ => none) := by unfold newsV; rfl
@[go_sem high] theorem ins_map (S : List Nat) (H : Heap) (d : Nat) (x : Ins) : x.cs.map (frz S H d) = x.cs := by simp [Ins.cs, frz_val]
end Go.Proofs.Ytokdphmnlcmbbaa
/- The document's walk: a thread. -/
namespace Go.Proofs.Ytokdphmnlcmbbaa
open Go Go.Sl Go.Proofs.Try

set_option maxRecDepth 20000 in
set_option maxHeartbeats 16000000 in
theorem refThread_pf (w : RW) (l : List Ins) (hl : ∀ x ∈ l, InsOk x ∧ insWf x ∧ 1 ≤ x.op ∧ x.op ≤ 17) (hll : l.length ≤ 8) (ops : List XOp) (hol : ops.length ≤ 1000000) (n : Nat) (hops : OpsAt ops ops.length l n) (hn : n ≤ ops.length) (reads : List RV) (works : List Bool) (hrl : ops.length ≤ reads.length) (hwl : ops.length ≤ works.length) (hr : ∀ q, In64 (reads.getD q ⟨false, 0, none⟩).v) (hri : RI ops 0 ⟨w, 0, n⟩) : Pf Try.prog 34 [.agg w.cs, .ro 13 (inss l), .ro 15 (xopsC ops), iV (n : Nat), .ro 3 (rrs reads), .ro 1 (bVs works)] (.agg (refRun ops reads works 0 l ⟨w, 0, n⟩).cs) := by
  refine Pf.of_fz 2 (.cons (.agg (nl_rw w)) (.cons (nl_inss _) (.cons (nl_xopsC _) (.cons (.val _) (.cons (nl_rrs _) (.cons (nl_bVs _) .nil)))))) (.agg (nl_rw _)) ?_
  refine fn_in T_ok func34 rfl rfl ntmps34 rfl (by simp) ?_
  refine region_k T_ok (by decide) fun K hK => ?_
  simp [go_sem]
  refine hK _ ?_; clear hK K
  refine region_k T_ok (by decide) fun K hK => ?_
  simp [go_sem]
  refine hK _ ?_; clear hK K
  refine seq_k fun K1 hK1 => ?_
  refine region_k T_ok (by decide) fun K hK => ?_
  simp [go_sem]
  refine hK _ ?_; clear hK K
  refine tr_block ?_
  refine loop_p (α := Nat × RT × Nat) (fun a => ⟨146, [(1, .ro 13 (inss l)), (2, .ro 15 (xopsC ops)), (4, .ro 3 (rrs reads)), (5, .ro 1 (bVs works)), (6, .ptr 0 0 0), (12, .ptr 1 0 0), (18, .ro 13 (inss l)), (19, iV (l.length : Nat)), (20, iV (a.1 : Nat)), (13, iV a.2.1.skip), (3, iV (a.2.1.k : Nat))], [(0, .rows 6 [.agg (a.2.1.w).cs]), (1, .rows 6 [.agg [onV none, onV none, iV 0, onV none, onV none, bV false]])], a.2.2⟩) (fun a => a.1 ≤ l.length ∧ refRun ops reads works a.1 (l.drop a.1) a.2.1 = (refRun ops reads works 0 l ⟨w, 0, n⟩) ∧ OpsAt ops ops.length (l.drop a.1) a.2.1.k ∧ RI ops a.1 a.2.1 ∧ a.2.1.k ≤ ops.length ∧ 2 ≤ a.2.2) (fun a => l.length - a.1) (0, ⟨w, 0, n⟩, 2) ?_ ?_ ?_
  · exact ⟨Nat.zero_le _, by rw [List.drop_zero], by rw [List.drop_zero]; exact hops, hri, hn, by dsimp only; omega⟩
  · refine Weaker.fzk 1 0 (by first | omega | (dsimp only; omega)) ?_ ?_ ?_
    · simp [go_sem]
    · first | (simp; done) | (simp; omega)
    · simp [go_sem]
  rintro ⟨i, s, j⟩ ⟨hi, hrun, hops, hri, hsk, hj⟩
  dsimp only at hi hrun hops hri hsk hj ⊢
  refine region_k T_ok (by decide) fun K hK => ?_
  simp [go_sem]
  refine hK _ ?_; clear hK K
  refine seq_k fun K2 hK2 => ?_
  refine cond_k rfl (fun h => ?_) (fun h => ?_)
  · simp at h
    have hI := h
    clear h
    have h' : i < l.length := by omega
    obtain ⟨x, hx, hx'⟩ := getAt h'
    have hi0 : (0 : Int) ≤ (i : Nat) := by omega
    have hw1 : IntKind.i64.wrap ((i : Nat) + 1) = (i : Nat) + 1 := wrap_i64 (by omega) (by omega)
    have hxm := List.mem_of_getElem? hx
    obtain ⟨hok, hwf, hop1, hop17⟩ := hl x hxm
    obtain ⟨hM, hA2⟩ := opsAt_mem hx hops
    have hS : RI ops (i + 1) (refStep ops reads works i x s) := hri.step hok hwf (fun e => (hM e).1) hr
    have hp3 : 3 ^ i ≤ 6561 := pow3 (by omega)
    obtain ⟨sfl, sl0, sl1, ssk, ssz, sva⟩ := id hri
    have hpl := ssz.path
    have hll := ssz.left
    have e0 : ¬ j = 0 := by omega
    have eq0 : ¬ 0 = j := by omega
    have e2 : ¬ j = 1 := by omega
    have eq2 : ¬ 1 = j := by omega
    refine tr_skip ?_
    refine hK2 _ ?_; try clear hK2 K2
    refine seq_k fun K3 hK3 => ?_
    refine tr_block ?_
    refine region_k T_ok (by decide) fun K hK => ?_
    simp [go_sem, insC, hI, hx, hx', hi0, h', e0, eq0, e2, eq2]
    refine hK _ ?_; clear hK K
    refine seq_k fun K4 hK4 => ?_
    refine region_k T_ok (by decide) fun K hK => ?_
    simp [go_sem]
    refine hK _ ?_; clear hK K
    refine cond_k rfl (fun h => ?_) (fun h => ?_)
    · have ho : 0 < s.skip := by simpa using h
      clear h
      have ho' : ¬ s.skip ≤ 0 := by omega
      have hwo : IntKind.i64.wrap (s.skip - 1) = s.skip - 1 := wrap_i64 (by omega) (by omega)
      have hg : refGoes x s = true := by simp [refGoes, ho']
      have hrun2 := (refRun_step (ops := ops) (rds := reads) (works := works) hx hg).symm.trans hrun
      refine region_k T_ok (by decide) fun K hK => ?_
      simp [go_sem, insC, hwo, e0, eq0, e2, eq2]
      refine hK _ ?_; clear hK K
      refine reg_start ?_
      refine reg_cut T_ok 3 [(31, .ro 1 (natV (s.w.left.getD []))), (29, .sl (j + 1) 0 0), (1, .ro 13 (inss l)), (2, .ro 15 (xopsC ops)), (4, .ro 3 (rrs reads)), (5, .ro 1 (bVs works)), (6, .ptr 0 0 0), (12, .ptr 1 0 0), (18, .ro 13 (inss l)), (19, iV (l.length : Nat)), (20, iV (i : Nat)), (14, iV (i : Nat)), (15, .ptr j 0 0), (13, iV (s.skip - 1)), (3, iV (s.k : Nat))] [(j + 1, .rows 1 []), (j, .rows 13 [insC x]), (0, .rows 6 [.agg (s.w).cs]), (1, .rows 6 [.agg [onV none, onV none, iV 0, onV none, onV none, bV false]])] (j + 2) (by decide) ?_ ?_
      · dsimp only [List.take, List.drop]
        simp [go_sem, insC, e0, eq0, e2, eq2]
        refine Weaker.trans (Weaker.fz (t' := [(31, onV s.w.left), (29, .sl (j + 1) 0 0), (1, .ro 13 (inss l)), (2, .ro 15 (xopsC ops)), (4, .ro 3 (rrs reads)), (5, .ro 1 (bVs works)), (6, .ptr 0 0 0), (12, .ptr 1 0 0), (18, .ro 13 (inss l)), (19, iV (l.length : Nat)), (20, iV (i : Nat)), (14, iV (i : Nat)), (15, .ptr j 0 0), (13, iV (s.skip - 1)), (3, iV (s.k : Nat))]) (H' := [(j + 1, .rows 1 []), (j, .rows 13 [insC x]), (0, .rows 6 [.agg (s.w).cs]), (1, .rows 6 [.agg [onV none, onV none, iV 0, onV none, onV none, bV false]])]) 1 0 ?_ ?_ ?_) (Weaker.seen (seen_all (.cons (seen_on _) (.cons (SeenAs.refl _) (.cons (SeenAs.refl _) (.cons (SeenAs.refl _) (.cons (SeenAs.refl _) (.cons (SeenAs.refl _) (.cons (SeenAs.refl _) (.cons (SeenAs.refl _) (.cons (SeenAs.refl _) (.cons (SeenAs.refl _) (.cons (SeenAs.refl _) (.cons (SeenAs.refl _) (.cons (SeenAs.refl _) (.cons (SeenAs.refl _) (.cons (SeenAs.refl _) (.nil))))))))))))))))))
        · simp [go_sem, insC, e0, eq0, e2, eq2]
        · first | (simp; done) | (simp; omega)
        · simp [go_sem, insC, e0, eq0, e2, eq2]
      refine reg_cut T_ok 4 [(1, .ro 13 (inss l)), (2, .ro 15 (xopsC ops)), (4, .ro 3 (rrs reads)), (5, .ro 1 (bVs works)), (6, .ptr 0 0 0), (12, .ptr 1 0 0), (18, .ro 13 (inss l)), (19, iV (l.length : Nat)), (20, iV (i : Nat)), (14, iV (i : Nat)), (15, .ptr j 0 0), (13, iV (s.skip - 1)), (3, iV (s.k : Nat)), (35, onV (joinO s.w.left (some [i])))] [(j, .rows 13 [insC x]), (0, .rows 6 [.agg (s.w).cs]), (1, .rows 6 [.agg [onV none, onV none, iV 0, onV none, onV none, bV false]])] (j + 5) (by decide) ?_ ?_
      · dsimp only [List.take, List.drop]
        simp [go_sem, insC, e0, eq0, e2, eq2]
        refine ⟨by omega, by omega, ?_⟩
        refine Weaker.fz 1 0 ?_ ?_ ?_
        · simp [go_sem, joinO, natV_app, List.take_of_length_le, insC, e0, eq0, e2, eq2]; rfl
        · first | (simp; done) | (simp; omega)
        · simp [go_sem, joinO, natV_app, List.take_of_length_le, insC, e0, eq0, e2, eq2]
      refine reg_end T_ok (by decide) fun K hK => ?_
      dsimp only [List.take, List.drop]
      simp [go_sem, e0, eq0, e2, eq2]
      refine hK _ ?_; clear hK K
      refine seq_to ⟨146, [(1, .ro 13 (inss l)), (2, .ro 15 (xopsC ops)), (4, .ro 3 (rrs reads)), (5, .ro 1 (bVs works)), (6, .ptr 0 0 0), (12, .ptr 1 0 0), (18, .ro 13 (inss l)), (19, iV (l.length : Nat)), (20, iV (i : Nat)), (14, iV (i : Nat)), (15, .ptr j 0 0), (13, iV (s.skip - 1)), (3, iV ((if memI x then s.k + 1 else s.k : Nat) : Int))], [(j, .rows 13 [insC x]), (0, .rows 6 [.agg ({ s.w with left := joinO s.w.left (some [i]), facts := if memI x then s.w.facts.set s.k rf2 else s.w.facts }).cs]), (1, .rows 6 [.agg [onV none, onV none, iV 0, onV none, onV none, bV false]])], j + 50⟩ ?_ ?_
      · skip
        refine region_k T_ok (by decide) fun K hK => ?_
        simp [go_sem, insC, e0, eq0, e2, eq2]
        refine call_pf (refMemory_pf x.op) ?_
        simp [go_sem, e0, eq0, e2, eq2]
        refine hK _ ?_; clear hK K
        refine cond_k rfl (fun h => ?_) (fun h => ?_)
        · have hmI : memI x = true := h
          clear h
          obtain ⟨hkn, th, at_, hxo⟩ := hM hmI
          have kI : (s.k : Int) < (ops.length : Nat) := by omega
          have k0 : (0 : Int) ≤ (s.k : Nat) := by omega
          have kf : s.k < s.w.facts.length := by omega
          have hwk : IntKind.i64.wrap ((s.k : Nat) + 1) = (s.k : Nat) + 1 := wrap_i64 (by omega) (by omega)
          refine region_k T_ok (by decide) fun K hK => ?_
          simp [go_sem, RW.cs, e0, eq0, e2, eq2]
          refine ⟨by omega, ?_⟩
          refine hK _ ?_; clear hK K
          refine region_k T_ok (by decide) fun K hK => ?_
          simp [go_sem, kI, k0, kf, hwk, e0, eq0, e2, eq2, rf_build]
          refine hK _ ?_; clear hK K
          refine region_e T_ok (by decide) fun K hK => ?_
          simp [go_sem, kI, k0, kf, hwk]
          refine hK _ ?_; clear hK K
          refine Weaker.fzk 1 1 (by omega) ?_ ?_ ?_
          · simp [go_sem, e0, eq0, e2, eq2, RW.cs, insC, rf2, List.take_of_length_le, hmI]
          · first | (simp; done) | (simp; omega)
          · simp [go_sem, e0, eq0, e2, eq2, RW.cs, insC, rf2, List.take_of_length_le, hmI]
        · have hmI : memI x = false := by simpa [memI] using h
          clear h
          refine tr_skip ?_
          refine Weaker.fzk 1 1 (by omega) ?_ ?_ ?_
          · simp [go_sem, e0, eq0, e2, eq2, RW.cs, insC, rf2, List.take_of_length_le, hmI]
          · first | (simp; done) | (simp; omega)
          · simp [go_sem, e0, eq0, e2, eq2, RW.cs, insC, rf2, List.take_of_length_le, hmI]
      · skip
        refine tr_exit ?_
        refine hK3 _ ?_; try clear hK3 K3
        refine region_e T_ok (by decide) fun K hK => ?_
        simp [go_sem, hw1]
        refine hK _ ?_; clear hK K
        refine ⟨(i + 1, (refStep ops reads works i x s), j + 60), ?_, ?_, ?_⟩
        · refine ⟨by dsimp only; omega, hrun2, by dsimp only; rw [refStep_k]; exact hA2, hS, ?_, by dsimp only; omega⟩; dsimp only; rw [refStep_k]; split <;> first | omega | exact (hM (by assumption)).1
        · dsimp only; omega
        · refine Weaker.fzk 1 0 (by first | omega | (dsimp only; omega)) ?_ ?_ ?_
          · simp [go_sem, refStep, ho, e0, eq0, e2, eq2]
          · first | (simp; done) | (simp; omega)
          simp [go_sem, refStep, ho, e0, eq0, e2, eq2]
    · have ho : ¬ 0 < s.skip := by simpa using h
      clear h
      have ho' : s.skip ≤ 0 := by omega
      refine tr_skip ?_
      refine hK4 _ ?_; try clear hK4 K4
      refine seq_k fun K5 hK5 => ?_
      refine region_k T_ok (by decide) fun K hK => ?_
      simp [go_sem, insC, e0, eq0, e2, eq2]
      refine call_pf (refMemory_pf x.op) ?_
      simp [go_sem, e0, eq0, e2, eq2]
      refine hK _ ?_; clear hK K
      refine cond_k rfl (fun h => ?_) (fun h => ?_)
      · have hmI : memI x = true := h
        clear h
        obtain ⟨hkn, th, at_, hxo⟩ := hM hmI
        have kI : (s.k : Int) < (ops.length : Nat) := by omega
        have k0 : (0 : Int) ≤ (s.k : Nat) := by omega
        have kf : s.k < s.w.facts.length := by omega
        have hwk : IntKind.i64.wrap ((s.k : Nat) + 1) = (s.k : Nat) + 1 := wrap_i64 (by omega) (by omega)
        have hg : refGoes x s = true := by simp [refGoes, hmI]
        have hrun2 := (refRun_step (ops := ops) (rds := reads) (works := works) hx hg).symm.trans hrun
        obtain ⟨r, hr1, hr1'⟩ := getAt (show s.k < reads.length by omega)
        obtain ⟨b, hb, hb'⟩ := getAt (show s.k < works.length by omega)
        have kr : (s.k : Int) < (reads.length : Nat) := by omega
        have kw : (s.k : Int) < (works.length : Nat) := by omega
        refine draw_k T_ok (by kernel_rfl) 11 [[], [], [], [], [], [3, 4], [3, 4, 5], [], [], [7, 8], [7, 8, 9], [0, 1, 2, 3, 4, 5, 6, 7, 8, 9, 10], [0, 1, 2, 3, 4, 5, 6, 7, 8, 9, 10, 11]] [] (by decide) (by decide) (by decide) fun K hK => ?_
        first | dsimp only [List.take, List.drop] | dsimp [List.take, List.drop]
        simp [go_sem, kI, k0, kr, kw, hr1, hr1', hb, hb', e0, eq0, e2, eq2]
        refine call_pf (refMem_pf s.w ops s.k th at_ x hxo kf (by omega) hol sl0 sl1 hok r b) ?_
        simp [go_sem, e0, eq0, e2, eq2]
        refine hK _ ?_; clear hK K
        refine region_k T_ok (by decide) fun K hK => ?_
        simp [go_sem, hwk]
        refine hK _ ?_; clear hK K
        refine tr_exit ?_
        refine hK3 _ ?_; try clear hK3 K3
        refine region_e T_ok (by decide) fun K hK => ?_
        simp [go_sem, hw1]
        refine hK _ ?_; clear hK K
        refine ⟨(i + 1, (refStep ops reads works i x s), j + 60), ?_, ?_, ?_⟩
        · refine ⟨by dsimp only; omega, hrun2, by dsimp only; rw [refStep_k]; exact hA2, hS, ?_, by dsimp only; omega⟩; dsimp only; rw [refStep_k]; split <;> first | omega | exact (hM (by assumption)).1
        · dsimp only; omega
        · refine Weaker.fzk 1 0 (by first | omega | (dsimp only; omega)) ?_ ?_ ?_
          · simp [go_sem, refStep, ho, hmI, hr1, hb, e0, eq0, e2, eq2]
          · first | (simp; done) | (simp; omega)
          simp [go_sem, refStep, ho, hmI, hr1, hb, e0, eq0, e2, eq2]
      · have hmI : memI x = false := by simpa [memI] using h
        clear h
        refine tr_skip ?_
        refine hK5 _ ?_; try clear hK5 K5
        refine seq_k fun K6 hK6 => ?_
        refine region_k T_ok (by decide) fun K hK => ?_
        simp [go_sem, insC, e0, eq0, e2, eq2]
        refine hK _ ?_; clear hK K
        refine cond_k rfl (fun h => ?_) (fun h => ?_)
        · have h15 : x.op = 15 := by simpa using h
          clear h
          have hbr : isBr x.op = false := by simp [isBr, h15]
          have hg : refGoes x s = true := by simp [refGoes, hbr]
          have hrun2 := (refRun_step (ops := ops) (rds := reads) (works := works) hx hg).symm.trans hrun
          refine tr_exit ?_
          refine hK3 _ ?_; try clear hK3 K3
          refine region_e T_ok (by decide) fun K hK => ?_
          simp [go_sem, hw1]
          refine hK _ ?_; clear hK K
          refine ⟨(i + 1, (refStep ops reads works i x s), j + 60), ?_, ?_, ?_⟩
          · refine ⟨by dsimp only; omega, hrun2, by dsimp only; rw [refStep_k]; exact hA2, hS, ?_, by dsimp only; omega⟩; dsimp only; rw [refStep_k]; split <;> first | omega | exact (hM (by assumption)).1
          · dsimp only; omega
          · refine Weaker.fzk 1 0 (by first | omega | (dsimp only; omega)) ?_ ?_ ?_
            · simp [go_sem, refStep, ho, hmI, isBr, refPlain, h15, e0, eq0, e2, eq2]
            · first | (simp; done) | (simp; omega)
            simp [go_sem, refStep, ho, hmI, isBr, refPlain, h15, e0, eq0, e2, eq2]
        · have h15 : ¬ x.op = 15 := by simpa using h
          clear h
          refine tr_skip ?_
          refine hK6 _ ?_; try clear hK6 K6
          refine draw_k T_ok (by kernel_rfl) 10 [[], [], [1], [0, 1, 2], [], [], [5], [0, 1, 2, 3, 4, 5, 6], [], [], [0, 1, 2, 3, 4, 5, 6, 7, 8, 9], [0, 1, 2, 3, 4, 5, 6, 7, 8, 9, 10]] [(0, 8), (1, 8), (2, 8), (3, 8), (4, 8), (5, 8), (6, 8), (7, 8), (0, 9), (1, 9), (2, 9), (3, 9), (4, 9), (5, 9), (6, 9), (7, 9), (8, 9)] (by decide) (by decide) (by decide) fun K hK => ?_
          first | dsimp only [List.take, List.drop] | dsimp [List.take, List.drop]
          have hAl := ssz.arg x.aR x.aN
          have hBl := ssz.arg x.bR x.bN
          have hjl := joinO_len (argR s.w x.aR x.aN).on (argR s.w x.bR x.bN).on
          have hAi := in_arg sva x.aR (n := x.aN) ⟨hwf.1.1, hwf.1.2⟩
          have hBi := in_arg sva x.bR (n := x.bN) ⟨hwf.2.1, hwf.2.2⟩
          simp [go_sem, insC, e0, eq0, e2, eq2]
          refine callD_of (refArg_pf s.w x.aR x.aN hok.a) ?_
          simp [go_sem, insC, e0, eq0, e2, eq2]
          refine callD_of (refArg_pf s.w x.bR x.bN hok.b) ?_
          simp [go_sem, insC, RV.cs, e0, eq0, e2, eq2]
          refine hK _ ?_; clear hK K
          refine seq_k fun K7 hK7 => ?_
          refine region_k T_ok (by decide) fun K hK => ?_
          simp [go_sem, insC, e0, eq0, e2, eq2]
          refine hK _ ?_; clear hK K
          refine cond_k rfl (fun h => ?_) (fun h => ?_)
          · have hop15 : 15 < x.op := by simpa using h
            have hbr : isBr x.op = true := by simp [isBr]; omega
            clear h
            refine draw_k T_ok (by kernel_rfl) 7 [[], [0], [], [2], [], [4], [2, 3, 4, 5], [0, 1, 2, 3, 4, 5, 6], [0, 1, 2, 3, 4, 5, 6, 7], [0, 1, 2, 3, 4, 5, 6, 7, 8]] [] (by decide) (by decide) (by decide) fun K hK => ?_
            first | dsimp only [List.take, List.drop] | dsimp [List.take, List.drop]
            simp [go_sem, RV.cs, e0, eq0, e2, eq2]
            refine callD_of (refJoin_pf (argR s.w x.aR x.aN).on (argR s.w x.bR x.bN).on (by omega) (by omega)) ?_
            simp [go_sem, RV.cs, e0, eq0, e2, eq2]
            refine call_pf (refJoin_pf s.w.path (joinO (argR s.w x.aR x.aN).on (argR s.w x.bR x.bN).on) (by omega) (by omega)) ?_
            simp [go_sem, RV.cs, e0, eq0, e2, eq2]
            refine hK _ ?_; clear hK K
            refine seq_k fun K8 hK8 => ?_
            refine region_to T_ok (by decide) ⟨146, [(1, .ro 13 (inss l)), (2, .ro 15 (xopsC ops)), (4, .ro 3 (rrs reads)), (5, .ro 1 (bVs works)), (6, .ptr 0 0 0), (12, .ptr 1 0 0), (18, .ro 13 (inss l)), (19, iV (l.length : Nat)), (20, iV (i : Nat)), (14, iV (i : Nat)), (15, .ptr j 0 0), (13, iV s.skip), (3, iV (s.k : Nat)), (16, .ptr (j + 9) 0 0), (17, .ptr (j + 10) 0 0), (99, bV (!refKnown s.w x))], [(j + 10, .rows 3 [.agg [bV (argR s.w x.bR x.bN).k, uV (argR s.w x.bR x.bN).v, onV (argR s.w x.bR x.bN).on]]), (j + 9, .rows 3 [.agg [bV (argR s.w x.aR x.aN).k, uV (argR s.w x.aR x.aN).v, onV (argR s.w x.aR x.aN).on]]), (j, .rows 13 [insC x]), (0, .rows 6 [.agg ({ s.w with path := joinO s.w.path (joinO (argR s.w x.aR x.aN).on (argR s.w x.bR x.bN).on) }).cs]), (1, .rows 6 [.agg [onV none, onV none, iV 0, onV none, onV none, bV false]])], j + 18⟩ ?_ ?_
            · by_cases c1 : (argR s.w x.aR x.aN).k = true
              · simp [go_sem, c1, insC, e0, eq0, e2, eq2]
                refine Weaker.fz 1 0 ?_ ?_ ?_
                · simp [go_sem, c1, refKnown, insC, e0, eq0, e2, eq2]
                · first | (simp; done) | (simp; omega)
                · simp [go_sem, c1, refKnown, insC, e0, eq0, e2, eq2]
              · simp [go_sem, c1, insC, e0, eq0, e2, eq2]
                refine Weaker.fz 1 0 ?_ ?_ ?_
                · simp [go_sem, c1, refKnown, insC, e0, eq0, e2, eq2]
                · first | (simp; done) | (simp; omega)
                · simp [go_sem, c1, refKnown, insC, e0, eq0, e2, eq2]
            · skip
              refine cond_k rfl (fun h => ?_) (fun h => ?_)
              · have hK : refKnown s.w x = false := by simpa using h
                clear h
                have hg : refGoes x s = false := by simp [refGoes, ho', hmI, hbr, hK]
                have hR : (refRun ops reads works 0 l ⟨w, 0, n⟩) = (refStep ops reads works i x s).w := by rw [← hrun]; exact refRun_stop hx hg
                refine region_k T_ok (by decide) fun K hK => ?_
                simp [go_sem, e0, eq0, e2, eq2]
                refine hK _ ?_; clear hK K
                refine region_k T_ok (by decide) fun K hK => ?_
                simp [go_sem, e0, eq0, e2, eq2]
                refine hK _ ?_; clear hK K
                refine tr_ret ⟨.inr rfl, ?_⟩
                rw [hR]
                simp [go_sem, refStep, ho, hmI, hbr, hK, RW.cs, e0, eq0, e2, eq2]
              · have hK : refKnown s.w x = true := by simpa using h
                clear h
                have hg : refGoes x s = true := by simp [refGoes, hK]
                have hrun2 := (refRun_step (ops := ops) (rds := reads) (works := works) hx hg).symm.trans hrun
                refine tr_skip ?_
                refine hK8 _ ?_; try clear hK8 K8
                refine seq_k fun K9 hK9 => ?_
                refine region_k T_ok (by decide) fun K hK => ?_
                simp [go_sem, RV.cs, insC, int_beq, e0, eq0, e2, eq2]
                refine hK _ ?_; clear hK K
                refine cond_k rfl (fun h => ?_) (fun h => ?_)
                · have hE : (decide ((argR s.w x.aR x.aN).v = (argR s.w x.bR x.bN).v) == decide (x.op = 16)) = true := by simpa using h
                  refine region_e T_ok (by decide) fun K hK => ?_
                  simp [go_sem, insC, e0, eq0, e2, eq2]
                  refine hK _ ?_; clear hK K
                  refine hK9 _ ?_; try clear hK9 K9
                  refine tr_exit ?_
                  refine hK3 _ ?_; try clear hK3 K3
                  refine region_e T_ok (by decide) fun K hK => ?_
                  simp [go_sem, hw1]
                  refine hK _ ?_; clear hK K
                  refine ⟨(i + 1, (refStep ops reads works i x s), j + 60), ?_, ?_, ?_⟩
                  · refine ⟨by dsimp only; omega, hrun2, by dsimp only; rw [refStep_k]; exact hA2, hS, ?_, by dsimp only; omega⟩; dsimp only; rw [refStep_k]; split <;> first | omega | exact (hM (by assumption)).1
                  · dsimp only; omega
                  · refine Weaker.fzk 1 0 (by first | omega | (dsimp only; omega)) ?_ ?_ ?_
                    · simp [go_sem, refStep, ho, hmI, hbr, hK, hE, e0, eq0, e2, eq2]
                    · first | (simp; done) | (simp; omega)
                    simp [go_sem, refStep, ho, hmI, hbr, hK, hE, e0, eq0, e2, eq2]
                · have hE : (decide ((argR s.w x.aR x.aN).v = (argR s.w x.bR x.bN).v) == decide (x.op = 16)) = false := by simpa using h
                  refine tr_skip ?_
                  refine hK9 _ ?_; try clear hK9 K9
                  refine tr_exit ?_
                  refine hK3 _ ?_; try clear hK3 K3
                  refine region_e T_ok (by decide) fun K hK => ?_
                  simp [go_sem, hw1]
                  refine hK _ ?_; clear hK K
                  refine ⟨(i + 1, (refStep ops reads works i x s), j + 60), ?_, ?_, ?_⟩
                  · refine ⟨by dsimp only; omega, hrun2, by dsimp only; rw [refStep_k]; exact hA2, hS, ?_, by dsimp only; omega⟩; dsimp only; rw [refStep_k]; split <;> first | omega | exact (hM (by assumption)).1
                  · dsimp only; omega
                  · refine Weaker.fzk 1 0 (by first | omega | (dsimp only; omega)) ?_ ?_ ?_
                    · simp [go_sem, refStep, ho, hmI, hbr, hK, hE, e0, eq0, e2, eq2]
                    · first | (simp; done) | (simp; omega)
                    simp [go_sem, refStep, ho, hmI, hbr, hK, hE, e0, eq0, e2, eq2]
          · have hop15 : ¬ 15 < x.op := by simpa using h
            have hbr : isBr x.op = false := by simp [isBr]; omega
            clear h
            have hg : refGoes x s = true := by simp [refGoes, hbr]
            have hrun2 := (refRun_step (ops := ops) (rds := reads) (works := works) hx hg).symm.trans hrun
            refine tr_skip ?_
            refine hK7 _ ?_; try clear hK7 K7
            refine seq_k fun K10 hK10 => ?_
            refine region_k T_ok (by decide) fun K hK => ?_
            simp [go_sem, insC, e0, eq0, e2, eq2]
            refine hK _ ?_; clear hK K
            refine cond_k rfl (fun h => ?_) (fun h => ?_)
            · have h1 : x.op = 1 := by simpa using h
              clear h
              refine region_k T_ok (by decide) fun K hK => ?_
              simp [go_sem, insC, RV.cs, e0, eq0, e2, eq2]
              refine call_pf (refSet_pf s.w x.rd hok.rd0 hok.rd8 (argR s.w x.aR x.aN)) ?_
              simp [go_sem, e0, eq0, e2, eq2]
              refine hK _ ?_; clear hK K
              refine tr_exit ?_
              refine hK3 _ ?_; try clear hK3 K3
              refine region_e T_ok (by decide) fun K hK => ?_
              simp [go_sem, hw1]
              refine hK _ ?_; clear hK K
              refine ⟨(i + 1, (refStep ops reads works i x s), j + 60), ?_, ?_, ?_⟩
              · refine ⟨by dsimp only; omega, hrun2, by dsimp only; rw [refStep_k]; exact hA2, hS, ?_, by dsimp only; omega⟩; dsimp only; rw [refStep_k]; split <;> first | omega | exact (hM (by assumption)).1
              · dsimp only; omega
              · refine Weaker.fzk 1 0 (by first | omega | (dsimp only; omega)) ?_ ?_ ?_
                · simp [go_sem, refStep, ho, hmI, isBr, refPlain, h15, h1, e0, eq0, e2, eq2]
                · first | (simp; done) | (simp; omega)
                simp [go_sem, refStep, ho, hmI, isBr, refPlain, h15, h1, e0, eq0, e2, eq2]
            · have h1 : ¬ x.op = 1 := by simpa using h
              clear h
              have hop8 : 2 ≤ x.op ∧ x.op ≤ 8 := by have : memB x.op = false := hmI; simp [memB, rdB, wrB] at this; omega
              obtain ⟨na, hna, hna6⟩ := hAi.nat
              obtain ⟨nb, hnb, hnb6⟩ := hBi.nat
              have hrk : Pf Try.prog 9 [iV x.op, uV (argR s.w x.aR x.aN).v, uV (argR s.w x.bR x.bN).v] (uV (reck x.op (argR s.w x.aR x.aN).v (argR s.w x.bR x.bN).v)) := by rw [hna, hnb]; exact refReckon_pf x.op na nb hna6 hnb6 hop8.1 hop8.2
              refine tr_skip ?_
              refine hK10 _ ?_; try clear hK10 K10
              refine draw_e T_ok (by kernel_rfl) 22 [[], [], [1], [], [3], [3, 4], [3, 4, 5], [3, 4, 5, 6], [3, 4, 5, 6, 7], [], [9], [], [11], [], [13], [3, 4, 5, 9, 10, 11, 12, 13, 14], [], [16], [], [18], [3, 4, 5, 9, 10, 11, 12, 13, 14, 15, 16, 17, 18, 19], [3, 4, 5, 6, 7, 8, 9, 10, 11, 12, 13, 14, 15, 16, 17, 18, 19, 20], [0, 1, 2, 3, 4, 5, 6, 7, 8, 9, 10, 11, 12, 13, 14, 15, 16, 17, 18, 19, 20, 21], [0, 1, 2, 3, 4, 5, 6, 7, 8, 9, 10, 11, 12, 13, 14, 15, 16, 17, 18, 19, 20, 21, 22]] [] (by decide) (by decide) (by decide) fun K hK => ?_
              first | dsimp only [List.take, List.drop] | dsimp [List.take, List.drop]
              cases hA : (argR s.w x.aR x.aN).k
              · simp [go_sem, insC, RV.cs, hA, e0, eq0, e2, eq2]
                refine callD_of hrk ?_
                simp [go_sem, insC, RV.cs, hA, e0, eq0, e2, eq2]
                refine callD_of (refJoin_pf (argR s.w x.aR x.aN).on (argR s.w x.bR x.bN).on (by omega) (by omega)) ?_
                simp [go_sem, insC, RV.cs, hA, e0, eq0, e2, eq2]
                refine call_pf (refSet_pf s.w x.rd hok.rd0 hok.rd8 ⟨false, reck x.op (argR s.w x.aR x.aN).v (argR s.w x.bR x.bN).v, joinO (argR s.w x.aR x.aN).on (argR s.w x.bR x.bN).on⟩) ?_
                simp [go_sem, e0, eq0, e2, eq2]
                refine hK _ ?_; clear hK K
                refine hK3 _ ?_; try clear hK3 K3
                refine region_e T_ok (by decide) fun K hK => ?_
                simp [go_sem, hw1]
                refine hK _ ?_; clear hK K
                refine ⟨(i + 1, (refStep ops reads works i x s), j + 60), ?_, ?_, ?_⟩
                · refine ⟨by dsimp only; omega, hrun2, by dsimp only; rw [refStep_k]; exact hA2, hS, ?_, by dsimp only; omega⟩; dsimp only; rw [refStep_k]; split <;> first | omega | exact (hM (by assumption)).1
                · dsimp only; omega
                · refine Weaker.fzk 1 0 (by first | omega | (dsimp only; omega)) ?_ ?_ ?_
                  · simp [go_sem, refStep, ho, hmI, hbr, refPlain, h15, h1, hA, e0, eq0, e2, eq2]
                  · first | (simp; done) | (simp; omega)
                  simp [go_sem, refStep, ho, hmI, hbr, refPlain, h15, h1, hA, e0, eq0, e2, eq2]
              · simp [go_sem, insC, RV.cs, hA, e0, eq0, e2, eq2]
                refine callD_of hrk ?_
                simp [go_sem, insC, RV.cs, hA, e0, eq0, e2, eq2]
                refine callD_of (refJoin_pf (argR s.w x.aR x.aN).on (argR s.w x.bR x.bN).on (by omega) (by omega)) ?_
                simp [go_sem, insC, RV.cs, hA, e0, eq0, e2, eq2]
                refine call_pf (refSet_pf s.w x.rd hok.rd0 hok.rd8 ⟨(argR s.w x.bR x.bN).k, reck x.op (argR s.w x.aR x.aN).v (argR s.w x.bR x.bN).v, joinO (argR s.w x.aR x.aN).on (argR s.w x.bR x.bN).on⟩) ?_
                simp [go_sem, e0, eq0, e2, eq2]
                refine hK _ ?_; clear hK K
                refine hK3 _ ?_; try clear hK3 K3
                refine region_e T_ok (by decide) fun K hK => ?_
                simp [go_sem, hw1]
                refine hK _ ?_; clear hK K
                refine ⟨(i + 1, (refStep ops reads works i x s), j + 60), ?_, ?_, ?_⟩
                · refine ⟨by dsimp only; omega, hrun2, by dsimp only; rw [refStep_k]; exact hA2, hS, ?_, by dsimp only; omega⟩; dsimp only; rw [refStep_k]; split <;> first | omega | exact (hM (by assumption)).1
                · dsimp only; omega
                · refine Weaker.fzk 1 0 (by first | omega | (dsimp only; omega)) ?_ ?_ ?_
                  · simp [go_sem, refStep, ho, hmI, hbr, refPlain, h15, h1, hA, e0, eq0, e2, eq2]
                  · first | (simp; done) | (simp; omega)
                  simp [go_sem, refStep, ho, hmI, hbr, refPlain, h15, h1, hA, e0, eq0, e2, eq2]
  · simp at h
    obtain rfl : i = l.length := by omega
    have hR : (refRun ops reads works 0 l ⟨w, 0, n⟩) = s.w := by rw [← hrun, List.drop_length]; rfl
    refine tr_exit ?_
    refine hK1 _ ?_; try clear hK1 K1
    refine region_k T_ok (by decide) fun K hK => ?_
    simp [go_sem]
    refine hK _ ?_; clear hK K
    refine tr_ret ⟨.inr rfl, ?_⟩
    rw [hR]
    simp [go_sem, RW.cs]

end Go.Proofs.Ytokdphmnlcmbbaa
/- The document's answer for a whole test: as values. -/
namespace Go.Proofs.Ytokdphmnlcmbbaa
open Go Go.Sl

@[go_sem] theorem rgss_len (l : List (Nat → RV)) : (rgss l).length = l.length := List.length_map ..
@[go_sem] theorem rgss_take (l : List (Nat → RV)) (n : Nat) : (rgss l).take n = rgss (l.take n) := (List.map_take ..).symm
@[go_sem] theorem rgss_at (l : List (Nat → RV)) (i : Nat) : (rgss l)[i]? = l[i]?.map fun g => V.ro 3 (rregs g) := List.getElem?_map ..
@[go_sem] theorem rgss_get (l : List (Nat → RV)) (i : Nat) (h : i < (rgss l).length) : (rgss l)[i] = .ro 3 (rregs (l[i]'(by simpa [rgss] using h))) := by simp [rgss]
theorem rgss_append (l : List (Nat → RV)) (g : Nat → RV) : rgss l ++ [V.ro 3 (rregs g)] = rgss (l ++ [g]) := by simp [rgss]
theorem rgss_nil : rgss [] = [] := rfl
@[go_sem] theorem rlefts_len (l : List (Option (List Nat))) : (rlefts l).length = l.length := List.length_map ..
@[go_sem] theorem rlefts_take (l : List (Option (List Nat))) (n : Nat) : (rlefts l).take n = rlefts (l.take n) := (List.map_take ..).symm
@[go_sem] theorem rlefts_at (l : List (Option (List Nat))) (i : Nat) : (rlefts l)[i]? = l[i]?.map onV := List.getElem?_map ..
@[go_sem] theorem rlefts_get (l : List (Option (List Nat))) (i : Nat) (h : i < (rlefts l).length) : (rlefts l)[i] = onV (l[i]'(by simpa [rlefts] using h)) := by simp [rlefts]
theorem rlefts_append (l : List (Option (List Nat))) (o : Option (List Nat)) : rlefts l ++ [onV o] = rlefts (l ++ [o]) := by simp [rlefts]
theorem rlefts_nil : rlefts [] = [] := rfl
theorem rfs_zeros (n : Nat) : List.replicate n (V.agg [iV 0, iV 0, bV false, uV 0, onV none, onV none, onV none, onV none]) = rfs (List.replicate n rf0) := by simp [rfs, rf0, RF.cs]
def regsP (b : Nat) : List V := List.replicate b (.agg [bV true, uV 0, onV none])
theorem regsP_step (b : Nat) : regsP b ++ [V.agg [bV true, uV 0, onV none]] = regsP (b + 1) := by simp [regsP, List.replicate_succ']
theorem regsP_zero : regsP 0 = [] := rfl
@[go_sem] theorem regsP_len (b : Nat) : (regsP b).length = b := by simp [regsP]
@[go_sem] theorem regsP_take (b : Nat) : (regsP b).take b = regsP b := List.take_of_length_le (by simp [regsP])
theorem regsP_8 : regsP 8 = rregs fun _ => ⟨true, 0, none⟩ := rfl
def whR (s r : Bool) (g : Nat → RV) (b : Nat) : Bool := s && r && (List.range b).all fun r => (g r).k
theorem whR_zero (s r : Bool) (g : Nat → RV) : whR s r g 0 = (s && r) := by simp [whR]
theorem whR_step (s r : Bool) (g : Nat → RV) (b : Nat) : whR s r g (b + 1) = (whR s r g b && (g b).k) := by unfold whR; rw [List.range_succ, List.all_append]; simp [Bool.and_assoc]
theorem whR_8 (s r : Bool) (g : Nat → RV) : whR s r g 8 = (s && r && allR g) := rfl
theorem nl_rgss (l : List (Nat → RV)) : NL (.ro 1 (rgss l)) := .ro fun v hv => by obtain ⟨g, _, rfl⟩ := List.mem_map.1 hv; exact .cons (nl_rregs g) .nil
theorem nl_rlefts (l : List (Option (List Nat))) : NL (.ro 1 (rlefts l)) := .ro fun v hv => by
  obtain ⟨g, _, rfl⟩ := List.mem_map.1 hv
  rw [on_cells]; exact .cons (nl_on g) .nil
theorem nl_ro (o : RO) : NLs o.cs := .cons (nl_rfs _) (.cons (nl_rgss _) (.cons (nl_rlefts _) (.cons (.val _) .nil)))
theorem ri_start {ops : List XOp} {fs : List RF} (h : fs.length = ops.length) (k : Nat) : RI ops 0 ⟨rw0 fs, 0, k⟩ :=
  ⟨h, Int.le_refl _, (by simp [rw0]), by simp, ⟨fun r => by simp [rw0], by simp [rw0], by simp [rw0]⟩, fun r => ⟨by simp [rw0], by simp [rw0]⟩⟩
theorem refStep_fl {ops : List XOp} {rds : List RV} {works : List Bool} {i : Nat} {x : Ins} {s : RT} : (refStep ops rds works i x s).w.facts.length = s.w.facts.length := by
  unfold refStep
  split
  · dsimp only; split
    · exact List.length_set ..
    · rfl
  · split
    · exact List.length_set ..
    · split
      · rfl
      · dsimp only; unfold refPlain setRW; (repeat' split) <;> rfl
theorem refRun_fl {ops : List XOp} {rds : List RV} {works : List Bool} : ∀ (l : List Ins) (i : Nat) (s : RT), (refRun ops rds works i l s).facts.length = s.w.facts.length
  | [], _, _ => rfl
  | x :: l, i, s => by
    unfold refRun
    split
    · rw [refRun_fl l (i + 1) _, refStep_fl]
    · exact refStep_fl
theorem xopO_step {t : List (List Ins)} {i : Nat} {l : List Ins} (h : t[i]? = some l) : (xopO t (i + 1)).length = (xopO t i).length + memL l := by
  have hb : (t.take i).length = i := by rw [List.length_take]; have := (List.getElem?_eq_some_iff.1 h).1; omega
  unfold xopO
  rw [takeAt h, xopsT_append, List.length_append]
  simp [xopsT, xopsL_len]
theorem xopO_split {t : List (List Ins)} {i : Nat} {l : List Ins} (h : t[i]? = some l) : xopsT 0 t = xopO t i ++ xopsL i 0 l ++ xopsT (i + 1) (t.drop (i + 1)) := by
  have hb : (t.take i).length = i := by rw [List.length_take]; have := (List.getElem?_eq_some_iff.1 h).1; omega
  have := xopsT_append 0 (t.take i) (t.drop i)
  rw [List.take_append_drop, hb, Nat.zero_add, drop_cons h, xopsT] at this
  rw [this]; simp [xopO]
theorem xopO_at {t : List (List Ins)} {i : Nat} {l : List Ins} (h : t[i]? = some l) : OpsAt (xopsT 0 t) (xopsT 0 t).length l (xopO t i).length := by
  have := opsAt_of (n := (xopsT 0 t).length) (th := i) l 0 (xopO t i) (xopsT (i + 1) (t.drop (i + 1))) (by rw [← xopO_split h]; exact Nat.le_refl _)
  rwa [← xopO_split h] at this
theorem xopO_le {t : List (List Ins)} {i : Nat} {l : List Ins} (h : t[i]? = some l) : (xopO t i).length + memL l ≤ (xopsT 0 t).length := by
  rw [xopO_split h]; simp [xopsL_len]
@[go_sem high] theorem rgss_frz (l : List (Nat → RV)) (S : List Nat) (H : Heap) : (rgss l).map (elemF (frz S H 1)) = rgss l := by
  unfold rgss; rw [List.map_map]; exact List.map_congr_left fun x _ => rfl
@[go_sem high] theorem rlefts_frz (l : List (Option (List Nat))) (S : List Nat) (H : Heap) : (rlefts l).map (elemF (frz S H 1)) = rlefts l := by
  unfold rlefts; rw [List.map_map]; refine List.map_congr_left fun x _ => ?_
  cases x <;> rfl
end Go.Proofs.Ytokdphmnlcmbbaa
/- The document's answer for a whole test: its walk. -/
namespace Go.Proofs.Ytokdphmnlcmbbaa
open Go Go.Sl Go.Proofs.Try

set_option maxRecDepth 20000 in
set_option maxHeartbeats 16000000 in
theorem refFlow_pf (t : Tst) (ht : t.ths.length ≤ 1000) (hl8 : ∀ l ∈ t.ths, l.length ≤ 8) (hok : ∀ l ∈ t.ths, ∀ x ∈ l, InsOk x ∧ insWf x ∧ 1 ≤ x.op ∧ x.op ≤ 17) (rds : List RV) (works : List Bool) (hrl : nOps t ≤ rds.length) (hwl : nOps t ≤ works.length) (hr : ∀ q, In64 (rds.getD q ⟨false, 0, none⟩).v) : Pf Try.prog 17 [.agg t.cs, .ro 3 (rrs rds), .ro 1 (bVs works)] (.agg (refFlow t rds works).cs) := by
  refine Pf.of_fz 2 (.cons (.agg (nl_tst t)) (.cons (nl_rrs _) (.cons (nl_bVs _) .nil))) (.agg (nl_ro _)) ?_
  have hl1 : ∀ x ∈ t.ths, x.length ≤ 1000 := fun x hx => by have := hl8 x hx; omega
  have hops := refOps_pf t ht hl1
  have hnn : (xopsT 0 t.ths).length = nOps t := by rw [xopsT_len, opsT_len]; rfl
  have hmle : (xopsT 0 t.ths).length ≤ 1000 * t.ths.length := by rw [xopsT_len]; exact opsT_le 0 _ hl1
  have hat : ∀ i l, t.ths[i]? = some l → OpsAt (xopsT 0 t.ths) (xopsT 0 t.ths).length l (xopO t.ths i).length ∧ (xopO t.ths i).length + memL l ≤ (xopsT 0 t.ths).length := fun i l h => ⟨xopO_at h, xopO_le h⟩
  have hflow : refRunO (xopsT 0 t.ths) rds works (t.ths.drop 0) ⟨List.replicate (xopsT 0 t.ths).length rf0, [], [], true, 0⟩ = refFlow t rds works := rfl
  rw [← hnn] at hrl hwl
  clear hnn
  generalize xopsT 0 t.ths = ops at *
  have hm6 : ops.length ≤ 1000000 := by omega
  have hm0 : (0 : Int) ≤ (ops.length : Nat) := by omega
  have hm8 : (128 : Int) * (ops.length : Nat) ≤ 281474976710656 := by omega
  have hmx : (ops.length : Int) ≤ 9223372036854775807 := by omega
  refine fn_in T_ok func17 rfl rfl ntmps17 rfl (by simp) ?_
  refine region_k T_ok (by decide) fun K hK => ?_
  simp [go_sem, Tst.cs]
  refine hK _ ?_; clear hK K
  refine region_k T_ok (by decide) fun K hK => ?_
  simp [go_sem, Tst.cs]
  refine call_pf hops ?_
  simp [go_sem, Tst.cs]
  refine hK _ ?_; clear hK K
  refine region_k T_ok (by decide) fun K hK => ?_
  simp [go_sem, hm0, hm8, hmx]
  refine hK _ ?_; clear hK K
  refine region_k T_ok (by decide) fun K hK => ?_
  simp [go_sem]
  refine hK _ ?_; clear hK K
  refine seq_k fun K1 hK1 => ?_
  refine region_k T_ok (by decide) fun K hK => ?_
  simp [go_sem, Tst.cs]
  refine hK _ ?_; clear hK K
  refine tr_block ?_
  refine Tr.weaken (Weaker.ghostH (sz := 4) (es := [.agg [.sl 2 0 ops.length, onV none, onV none, bV true]]) 3 1 [.agg [.sl 2 0 ops.length, .sl 4 0 0, onV none, bV true]] (by simp [Sl.look]; try rfl) (by simp) (by simp) (by simp [V.fits, V.cells, V.one, onV]) (by simp only [List.flatMap_cons, List.flatMap_nil, V.cells, List.append_nil]; exact .same (.to (.same (.same .nil))))) ?_
  simp only [Sl.put, if_true, if_false, Nat.reduceEqDiff, reduceIte]
  refine Tr.weaken (Weaker.ghostH (sz := 4) (es := [.agg [.sl 2 0 ops.length, .sl 4 0 0, onV none, bV true]]) 3 1 [.agg [.sl 2 0 ops.length, .sl 4 0 0, .sl 5 0 0, bV true]] (by simp [Sl.look]; try rfl) (by simp) (by simp) (by simp [V.fits, V.cells, V.one, onV]) (by simp only [List.flatMap_cons, List.flatMap_nil, V.cells, List.append_nil]; exact .same (.same (.to (.same .nil))))) ?_
  simp only [Sl.put, if_true, if_false, Nat.reduceEqDiff, reduceIte]
  refine loop_p (α := Nat × RO × Nat × Nat × Nat) (fun a => ⟨104, [(1, .ro 3 (rrs rds)), (2, .ro 1 (bVs works)), (6, .ptr 1 0 0), (7, .ro 15 (xopsC ops)), (8, .ptr 3 0 0), (25, .ro 1 (thrs t.ths)), (26, iV (t.ths.length : Nat)), (9, iV (a.2.1.k : Nat)), (27, iV (a.1 : Nat))], [(3, .rows 4 [.agg [.ro 8 (rfs a.2.1.facts), .sl a.2.2.2.1 0 a.2.1.regs.length, .sl a.2.2.2.2 0 a.2.1.left.length, bV a.2.1.whole]]), (a.2.2.2.1, .rows 1 (rgss a.2.1.regs)), (a.2.2.2.2, .rows 1 (rlefts a.2.1.left)), (1, .rows 4 [.agg [onV none, onV none, onV none, bV false]])], a.2.2.1⟩) (fun a => a.1 ≤ t.ths.length ∧ refRunO ops rds works (t.ths.drop a.1) a.2.1 = refFlow t rds works ∧ a.2.1.facts.length = ops.length ∧ a.2.1.k = (xopO t.ths a.1).length ∧ a.2.1.left.length = a.1 ∧ a.2.1.regs.length = a.1 ∧ 3 < a.2.2.2.1 ∧ 3 < a.2.2.2.2 ∧ a.2.2.2.1 ≠ a.2.2.2.2 ∧ a.2.2.2.1 < a.2.2.1 ∧ a.2.2.2.2 < a.2.2.1) (fun a => t.ths.length - a.1) (0, ⟨List.replicate ops.length rf0, [], [], true, 0⟩, 6, 4, 5) ?_ ?_ ?_
  · exact ⟨Nat.zero_le _, hflow, List.length_replicate, rfl, rfl, rfl, by dsimp only; omega, by dsimp only; omega, by dsimp only; omega, by dsimp only; omega, by dsimp only; omega⟩
  · refine Weaker.fz 1 1 ?_ ?_ ?_
    · simp [go_sem, Tst.cs]
    · first | (simp; done) | (simp; omega)
    · simp [go_sem, rfs_zeros, rgss_nil, rlefts_nil]
  rintro ⟨i, o, j, rR, rL⟩ ⟨hi, hrun, hfl, hko, hll, hrl2, hR3, hL3, hLR, hRj, hLj⟩
  dsimp only at hi hrun hfl hko hll hrl2 hR3 hL3 hLR hRj hLj ⊢
  refine region_k T_ok (by decide) fun K hK => ?_
  simp [go_sem]
  refine hK _ ?_; clear hK K
  refine seq_k fun K2 hK2 => ?_
  refine cond_k rfl (fun h => ?_) (fun h => ?_)
  · simp at h
    have hI := h
    clear h
    have h' : i < (t.ths).length := by omega
    obtain ⟨l, hx, hx'⟩ := getAt h'
    have hi0 : (0 : Int) ≤ (i : Nat) := by omega
    have hlm := List.mem_of_getElem? hx
    have hll8 := hl8 l hlm
    obtain ⟨hA1, hA2⟩ := hat i l hx
    have htr : o.regs.take i = o.regs := List.take_of_length_le (by omega)
    have htl : o.left.take i = o.left := List.take_of_length_le (by omega)
    have hthr := refThread_pf (rw0 o.facts) l (hok l hlm) hll8 ops hm6 o.k (by rw [hko]; exact hA1) (by omega) rds works hrl hwl hr (ri_start hfl o.k)
    have hw : IntKind.i64.wrap ((i : Nat) + 1) = (i : Nat) + 1 := wrap_i64 (by omega) (by omega)
    have e0 : ¬ rL = 1 := by omega
    have eq0 : ¬ 1 = rL := by omega
    have e2 : ¬ rL = 3 := by omega
    have eq2 : ¬ 3 = rL := by omega
    have e4 : ¬ rR = 1 := by omega
    have eq4 : ¬ 1 = rR := by omega
    have e6 : ¬ rR = 3 := by omega
    have eq6 : ¬ 3 = rR := by omega
    have e8 : ¬ j = 1 := by omega
    have eq8 : ¬ 1 = j := by omega
    have e10 : ¬ j = 3 := by omega
    have eq10 : ¬ 3 = j := by omega
    have e12 : ¬ rL = rR := by omega
    have eq12 : ¬ rR = rL := by omega
    have e14 : ¬ rL = j := by omega
    have eq14 : ¬ j = rL := by omega
    have e16 : ¬ rR = j := by omega
    have eq16 : ¬ j = rR := by omega
    have e18 : ¬ j = 0 := by omega
    have eq18 : ¬ 0 = j := by omega
    have e20 : ¬ j = 2 := by omega
    have eq20 : ¬ 2 = j := by omega
    have e22 : ¬ rL = j + 1 := by omega
    have eq22 : ¬ j + 1 = rL := by omega
    have e24 : ¬ rR = j + 1 := by omega
    have eq24 : ¬ j + 1 = rR := by omega
    have d0 : ¬ (j + 200) = rL := by omega
    have dq0 : ¬ rL = (j + 200) := by omega
    have d2 : ¬ (j + 200) = rR := by omega
    have dq2 : ¬ rR = (j + 200) := by omega
    have d4 : ¬ (j + 201) = rL := by omega
    have dq4 : ¬ rL = (j + 201) := by omega
    have d6 : ¬ (j + 201) = rR := by omega
    have dq6 : ¬ rR = (j + 201) := by omega
    have d8 : ¬ (j + 202) = rL := by omega
    have dq8 : ¬ rL = (j + 202) := by omega
    have d10 : ¬ (j + 202) = rR := by omega
    have dq10 : ¬ rR = (j + 202) := by omega
    have d12 : ¬ (j + 203) = rL := by omega
    have dq12 : ¬ rL = (j + 203) := by omega
    have d14 : ¬ (j + 203) = rR := by omega
    have dq14 : ¬ rR = (j + 203) := by omega
    refine tr_skip ?_
    refine hK2 _ ?_; try clear hK2 K2
    refine seq_k fun K3 hK3 => ?_
    refine tr_block ?_
    refine region_k T_ok (by decide) fun K hK => ?_
    simp [go_sem, hI, hx, hx', hi0, h', e0, eq0, e2, eq2, e4, eq4, e6, eq6, e8, eq8, e10, eq10, e12, eq12, e14, eq14, e16, eq16, e18, eq18, e20, eq20, e22, eq22, e24, eq24]
    refine hK _ ?_; clear hK K
    refine region_k T_ok (by decide) fun K hK => ?_
    simp [go_sem, e0, eq0, e2, eq2, e4, eq4, e6, eq6, e8, eq8, e10, eq10, e12, eq12, e14, eq14, e16, eq16, e18, eq18, e20, eq20, e22, eq22, e24, eq24]
    refine hK _ ?_; clear hK K
    refine seq_k fun K4 hK4 => ?_
    refine region_k T_ok (by decide) fun K hK => ?_
    simp [go_sem]
    refine hK _ ?_; clear hK K
    refine tr_block ?_
    refine Tr.weaken (Weaker.ghostH (sz := 6) (es := [.agg [onV none, onV none, iV 0, onV none, .ro 8 (rfs o.facts), bV true]]) j 3 [.agg [.sl (j + 1) 0 0, onV none, iV 0, onV none, .ro 8 (rfs o.facts), bV true]] (by simp [Sl.look]; try rfl) (by simp) (by simp) (by simp [V.fits, V.cells, V.one, onV]) (by simp only [List.flatMap_cons, List.flatMap_nil, V.cells, List.append_nil]; exact .to (.same (.same (.same (.same (.same .nil))))))) ?_
    simp only [Sl.put, if_true, if_false, e0, eq0, e2, eq2, e4, eq4, e6, eq6, e8, eq8, e10, eq10, e12, eq12, e14, eq14, e16, eq16, e18, eq18, e20, eq20, e22, eq22, e24, eq24]
    refine loop_p (α := Nat × Nat × Nat) (fun b => ⟨104, [(1, .ro 3 (rrs rds)), (2, .ro 1 (bVs works)), (6, .ptr 1 0 0), (7, .ro 15 (xopsC ops)), (8, .ptr 3 0 0), (25, .ro 1 (thrs t.ths)), (26, iV (t.ths.length : Nat)), (9, iV (o.k : Nat)), (27, iV (i : Nat)), (11, .ro 13 (inss l)), (12, .ptr j 0 0), (13, iV (b.1 : Nat))], [(j, .rows 6 [.agg [.sl b.2.1 0 b.1, onV none, iV 0, onV none, .ro 8 (rfs o.facts), bV true]]), (b.2.1, .rows 3 (regsP b.1)), (3, .rows 4 [.agg [.ro 8 (rfs o.facts), .sl rR 0 o.regs.length, .sl rL 0 o.left.length, bV o.whole]]), (rR, .rows 1 (rgss o.regs)), (rL, .rows 1 (rlefts o.left)), (1, .rows 4 [.agg [onV none, onV none, onV none, bV false]])], b.2.2⟩) (fun b => b.1 ≤ 8 ∧ j < b.2.1 ∧ b.2.1 < b.2.2 ∧ b.2.2 ≤ j + 2 + 2 * b.1) (fun b => 8 - b.1) (0, j + 1, j + 2) ?_ ?_ ?_
    · dsimp only; omega
    · refine Weaker.fz 1 0 ?_ ?_ ?_
      · simp [go_sem, e0, eq0, e2, eq2, e4, eq4, e6, eq6, e8, eq8, e10, eq10, e12, eq12, e14, eq14, e16, eq16, e18, eq18, e20, eq20, e22, eq22, e24, eq24]
      · first | (simp; done) | (simp; omega)
      · simp [go_sem, regsP_zero, e0, eq0, e2, eq2, e4, eq4, e6, eq6, e8, eq8, e10, eq10, e12, eq12, e14, eq14, e16, eq16, e18, eq18, e20, eq20, e22, eq22, e24, eq24]
    rintro ⟨b, q, c⟩ ⟨hb, hjq, hqc, hc⟩
    dsimp only at hb hjq hqc hc ⊢
    refine seq_k fun K5 hK5 => ?_
    refine region_k T_ok (by decide) fun K hK => ?_
    simp [go_sem]
    refine hK _ ?_; clear hK K
    refine cond_k rfl (fun h => ?_) (fun h => ?_)
    · simp at h
      have hI2 : (b : Int) < 8 := h
      clear h
      have h'2 : b < 8 := by omega
      have hi02 : (0 : Int) ≤ (b : Nat) := by omega
      have hw2 : IntKind.i64.wrap ((b : Nat) + 1) = (b : Nat) + 1 := wrap_i64 (by omega) (by omega)
      have g0 : ¬ c = 0 := by omega
      have gq0 : ¬ 0 = c := by omega
      have g2 : ¬ c = 2 := by omega
      have gq2 : ¬ 2 = c := by omega
      have g4 : ¬ q = 0 := by omega
      have gq4 : ¬ 0 = q := by omega
      have g6 : ¬ q = 2 := by omega
      have gq6 : ¬ 2 = q := by omega
      have g8 : ¬ q = 1 := by omega
      have gq8 : ¬ 1 = q := by omega
      have g10 : ¬ q = 3 := by omega
      have gq10 : ¬ 3 = q := by omega
      have g12 : ¬ q = j := by omega
      have gq12 : ¬ j = q := by omega
      have g14 : ¬ q = rL := by omega
      have gq14 : ¬ rL = q := by omega
      have g16 : ¬ q = rR := by omega
      have gq16 : ¬ rR = q := by omega
      have g18 : ¬ c = 1 := by omega
      have gq18 : ¬ 1 = c := by omega
      have g20 : ¬ c = 3 := by omega
      have gq20 : ¬ 3 = c := by omega
      have g22 : ¬ c = j := by omega
      have gq22 : ¬ j = c := by omega
      have g24 : ¬ c = rL := by omega
      have gq24 : ¬ rL = c := by omega
      have g26 : ¬ c = rR := by omega
      have gq26 : ¬ rR = c := by omega
      have g28 : ¬ c = q := by omega
      have gq28 : ¬ q = c := by omega
      have g30 : ¬ c + 1 = 1 := by omega
      have gq30 : ¬ 1 = c + 1 := by omega
      have g32 : ¬ c + 1 = 3 := by omega
      have gq32 : ¬ 3 = c + 1 := by omega
      have g34 : ¬ c + 1 = j := by omega
      have gq34 : ¬ j = c + 1 := by omega
      have g36 : ¬ c + 1 = rL := by omega
      have gq36 : ¬ rL = c + 1 := by omega
      have g38 : ¬ c + 1 = rR := by omega
      have gq38 : ¬ rR = c + 1 := by omega
      have g40 : ¬ c + 1 = q := by omega
      have gq40 : ¬ q = c + 1 := by omega
      refine tr_skip ?_
      refine hK5 _ ?_; try clear hK5 K5
      refine seq_k fun K6 hK6 => ?_
      refine tr_block ?_
      refine region_e T_ok (by decide) fun K hK => ?_
      simp [go_sem, e0, eq0, e2, eq2, e4, eq4, e6, eq6, e8, eq8, e10, eq10, e12, eq12, e14, eq14, e16, eq16, e18, eq18, e20, eq20, e22, eq22, e24, eq24, g0, gq0, g2, gq2, g4, gq4, g6, gq6, g8, gq8, g10, gq10, g12, gq12, g14, gq14, g16, gq16, g18, gq18, g20, gq20, g22, gq22, g24, gq24, g26, gq26, g28, gq28, g30, gq30, g32, gq32, g34, gq34, g36, gq36, g38, gq38, g40, gq40]
      refine ⟨by omega, ?_⟩
      refine hK _ ?_; clear hK K
      refine hK6 _ ?_; try clear hK6 K6
      refine region_e T_ok (by decide) fun K hK => ?_
      simp [go_sem, hw2]
      refine hK _ ?_; clear hK K
      refine ⟨(b + 1, c + 1, c + 2), ?_, ?_, ?_⟩
      · dsimp only; omega
      · dsimp only; omega
      · refine Weaker.fz 1 0 ?_ ?_ ?_
        · simp [go_sem, e0, eq0, e2, eq2, e4, eq4, e6, eq6, e8, eq8, e10, eq10, e12, eq12, e14, eq14, e16, eq16, e18, eq18, e20, eq20, e22, eq22, e24, eq24, g0, gq0, g2, gq2, g4, gq4, g6, gq6, g8, gq8, g10, gq10, g12, gq12, g14, gq14, g16, gq16, g18, gq18, g20, gq20, g22, gq22, g24, gq24, g26, gq26, g28, gq28, g30, gq30, g32, gq32, g34, gq34, g36, gq36, g38, gq38, g40, gq40]
        · first | (simp; done) | (simp; omega)
        simp [go_sem, regsP_step, e0, eq0, e2, eq2, e4, eq4, e6, eq6, e8, eq8, e10, eq10, e12, eq12, e14, eq14, e16, eq16, e18, eq18, e20, eq20, e22, eq22, e24, eq24, g0, gq0, g2, gq2, g4, gq4, g6, gq6, g8, gq8, g10, gq10, g12, gq12, g14, gq14, g16, gq16, g18, gq18, g20, gq20, g22, gq22, g24, gq24, g26, gq26, g28, gq28, g30, gq30, g32, gq32, g34, gq34, g36, gq36, g38, gq38, g40, gq40]
    · simp at h
      obtain rfl : b = 8 := by omega
      have g0 : ¬ c = 0 := by omega
      have gq0 : ¬ 0 = c := by omega
      have g2 : ¬ c = 2 := by omega
      have gq2 : ¬ 2 = c := by omega
      have g4 : ¬ q = 0 := by omega
      have gq4 : ¬ 0 = q := by omega
      have g6 : ¬ q = 2 := by omega
      have gq6 : ¬ 2 = q := by omega
      have g8 : ¬ q = 1 := by omega
      have gq8 : ¬ 1 = q := by omega
      have g10 : ¬ q = 3 := by omega
      have gq10 : ¬ 3 = q := by omega
      have g12 : ¬ q = j := by omega
      have gq12 : ¬ j = q := by omega
      have g14 : ¬ q = rL := by omega
      have gq14 : ¬ rL = q := by omega
      have g16 : ¬ q = rR := by omega
      have gq16 : ¬ rR = q := by omega
      have g18 : ¬ c = 1 := by omega
      have gq18 : ¬ 1 = c := by omega
      have g20 : ¬ c = 3 := by omega
      have gq20 : ¬ 3 = c := by omega
      have g22 : ¬ c = j := by omega
      have gq22 : ¬ j = c := by omega
      have g24 : ¬ c = rL := by omega
      have gq24 : ¬ rL = c := by omega
      have g26 : ¬ c = rR := by omega
      have gq26 : ¬ rR = c := by omega
      have g28 : ¬ c = q := by omega
      have gq28 : ¬ q = c := by omega
      have g30 : ¬ c + 1 = 1 := by omega
      have gq30 : ¬ 1 = c + 1 := by omega
      have g32 : ¬ c + 1 = 3 := by omega
      have gq32 : ¬ 3 = c + 1 := by omega
      have g34 : ¬ c + 1 = j := by omega
      have gq34 : ¬ j = c + 1 := by omega
      have g36 : ¬ c + 1 = rL := by omega
      have gq36 : ¬ rL = c + 1 := by omega
      have g38 : ¬ c + 1 = rR := by omega
      have gq38 : ¬ rR = c + 1 := by omega
      have g40 : ¬ c + 1 = q := by omega
      have gq40 : ¬ q = c + 1 := by omega
      refine tr_exit ?_
      refine hK4 _ ?_; try clear hK4 K4
      refine Tr.weaken (Weaker.fzk (k' := j + 200) (t' := [(1, .ro 3 (rrs rds)), (2, .ro 1 (bVs works)), (6, .ptr 1 0 0), (7, .ro 15 (xopsC ops)), (8, .ptr 3 0 0), (25, .ro 1 (thrs t.ths)), (26, iV (t.ths.length : Nat)), (9, iV (o.k : Nat)), (27, iV (i : Nat)), (11, .ro 13 (inss l)), (12, .ptr j 0 0)]) (H' := [(j, .rows 6 [.agg (rw0 o.facts).cs]), (3, .rows 4 [.agg [.ro 8 (rfs o.facts), .sl rR 0 o.regs.length, .sl rL 0 o.left.length, bV o.whole]]), (rR, .rows 1 (rgss o.regs)), (rL, .rows 1 (rlefts o.left)), (1, .rows 4 [.agg [onV none, onV none, onV none, bV false]])]) 1 1 (by omega) ?_ ?_ ?_) ?_
      · simp [go_sem, e0, eq0, e2, eq2, e4, eq4, e6, eq6, e8, eq8, e10, eq10, e12, eq12, e14, eq14, e16, eq16, e18, eq18, e20, eq20, e22, eq22, e24, eq24]
      · first | (simp; done) | (simp; omega)
      · simp [go_sem, rw0, RW.cs, regsP_8, e0, eq0, e2, eq2, e4, eq4, e6, eq6, e8, eq8, e10, eq10, e12, eq12, e14, eq14, e16, eq16, e18, eq18, e20, eq20, e22, eq22, e24, eq24, g0, gq0, g2, gq2, g4, gq4, g6, gq6, g8, gq8, g10, gq10, g12, gq12, g14, gq14, g16, gq16, g18, gq18, g20, gq20, g22, gq22, g24, gq24, g26, gq26, g28, gq28, g30, gq30, g32, gq32, g34, gq34, g36, gq36, g38, gq38, g40, gq40]
      refine region_k T_ok (by decide) fun K hK => ?_
      simp [go_sem, e0, eq0, e2, eq2, e4, eq4, e6, eq6, e8, eq8, e10, eq10, e12, eq12, e14, eq14, e16, eq16, e18, eq18, e20, eq20, e22, eq22, e24, eq24]
      refine call_pf hthr ?_
      simp [go_sem, e0, eq0, e2, eq2, e4, eq4, e6, eq6, e8, eq8, e10, eq10, e12, eq12, e14, eq14, e16, eq16, e18, eq18, e20, eq20, e22, eq22, e24, eq24]
      refine hK _ ?_; clear hK K
      refine region_k T_ok (by decide) fun K hK => ?_
      simp [go_sem, e0, eq0, e2, eq2, e4, eq4, e6, eq6, e8, eq8, e10, eq10, e12, eq12, e14, eq14, e16, eq16, e18, eq18, e20, eq20, e22, eq22, e24, eq24]
      refine hK _ ?_; clear hK K
      refine region_k T_ok (by decide) fun K hK => ?_
      simp [go_sem, e0, eq0, e2, eq2, e4, eq4, e6, eq6, e8, eq8, e10, eq10, e12, eq12, e14, eq14, e16, eq16, e18, eq18, e20, eq20, e22, eq22, e24, eq24, d0, dq0, d2, dq2, d4, dq4, d6, dq6, d8, dq8, d10, dq10, d12, dq12, d14, dq14, hrl2, htr]
      refine ⟨by omega, ?_⟩
      refine hK _ ?_; clear hK K
      refine region_k T_ok (by decide) fun K hK => ?_
      simp [go_sem, e0, eq0, e2, eq2, e4, eq4, e6, eq6, e8, eq8, e10, eq10, e12, eq12, e14, eq14, e16, eq16, e18, eq18, e20, eq20, e22, eq22, e24, eq24, d0, dq0, d2, dq2, d4, dq4, d6, dq6, d8, dq8, d10, dq10, d12, dq12, d14, dq14, hll, htl]
      refine ⟨fits_iff.1 (on_fits _), by omega, ?_⟩
      refine hK _ ?_; clear hK K
      refine region_to T_ok (by decide) ⟨104, [(1, .ro 3 (rrs rds)), (2, .ro 1 (bVs works)), (6, .ptr 1 0 0), (7, .ro 15 (xopsC ops)), (8, .ptr 3 0 0), (25, .ro 1 (thrs t.ths)), (26, iV (t.ths.length : Nat)), (9, iV (o.k : Nat)), (27, iV (i : Nat)), (11, .ro 13 (inss l)), (12, .ptr j 0 0)], [(j, .rows 6 [.agg (refRun ops rds works 0 l ⟨rw0 o.facts, 0, o.k⟩).cs]), (3, .rows 4 [.agg [.ro 8 (rfs (refRun ops rds works 0 l ⟨rw0 o.facts, 0, o.k⟩).facts), .sl (j + 201) 0 (o.regs.length + 1), .sl (j + 203) 0 (o.left.length + 1), bV (o.whole && (refRun ops rds works 0 l ⟨rw0 o.facts, 0, o.k⟩).known)]]), ((j + 201), .rows 1 (rgss (o.regs ++ [(refRun ops rds works 0 l ⟨rw0 o.facts, 0, o.k⟩).regs]))), ((j + 203), .rows 1 (rlefts (o.left ++ [(refRun ops rds works 0 l ⟨rw0 o.facts, 0, o.k⟩).left]))), (1, .rows 4 [.agg [onV none, onV none, onV none, bV false]])], j + 204⟩ ?_ ?_
      · by_cases c1 : o.whole = true
        · simp [go_sem, c1, e0, eq0, e2, eq2, e4, eq4, e6, eq6, e8, eq8, e10, eq10, e12, eq12, e14, eq14, e16, eq16, e18, eq18, e20, eq20, e22, eq22, e24, eq24, d0, dq0, d2, dq2, d4, dq4, d6, dq6, d8, dq8, d10, dq10, d12, dq12, d14, dq14]
          refine Weaker.fz 1 0 ?_ ?_ ?_
          · simp [go_sem, c1, e0, eq0, e2, eq2, e4, eq4, e6, eq6, e8, eq8, e10, eq10, e12, eq12, e14, eq14, e16, eq16, e18, eq18, e20, eq20, e22, eq22, e24, eq24, d0, dq0, d2, dq2, d4, dq4, d6, dq6, d8, dq8, d10, dq10, d12, dq12, d14, dq14, rgss_append, rlefts_append, hll, hrl2]
          · first | (simp; done) | (simp; omega)
          · simp [go_sem, c1, e0, eq0, e2, eq2, e4, eq4, e6, eq6, e8, eq8, e10, eq10, e12, eq12, e14, eq14, e16, eq16, e18, eq18, e20, eq20, e22, eq22, e24, eq24, d0, dq0, d2, dq2, d4, dq4, d6, dq6, d8, dq8, d10, dq10, d12, dq12, d14, dq14, rgss_append, rlefts_append, hll, hrl2]
        · simp [go_sem, c1, e0, eq0, e2, eq2, e4, eq4, e6, eq6, e8, eq8, e10, eq10, e12, eq12, e14, eq14, e16, eq16, e18, eq18, e20, eq20, e22, eq22, e24, eq24, d0, dq0, d2, dq2, d4, dq4, d6, dq6, d8, dq8, d10, dq10, d12, dq12, d14, dq14]
          refine Weaker.fz 1 0 ?_ ?_ ?_
          · simp [go_sem, c1, e0, eq0, e2, eq2, e4, eq4, e6, eq6, e8, eq8, e10, eq10, e12, eq12, e14, eq14, e16, eq16, e18, eq18, e20, eq20, e22, eq22, e24, eq24, d0, dq0, d2, dq2, d4, dq4, d6, dq6, d8, dq8, d10, dq10, d12, dq12, d14, dq14, rgss_append, rlefts_append, hll, hrl2]
          · first | (simp; done) | (simp; omega)
          · simp [go_sem, c1, e0, eq0, e2, eq2, e4, eq4, e6, eq6, e8, eq8, e10, eq10, e12, eq12, e14, eq14, e16, eq16, e18, eq18, e20, eq20, e22, eq22, e24, eq24, d0, dq0, d2, dq2, d4, dq4, d6, dq6, d8, dq8, d10, dq10, d12, dq12, d14, dq14, rgss_append, rlefts_append, hll, hrl2]
      · skip
        refine seq_k fun K7 hK7 => ?_
        refine region_k T_ok (by decide) fun K hK => ?_
        simp [go_sem, e0, eq0, e2, eq2, e4, eq4, e6, eq6, e8, eq8, e10, eq10, e12, eq12, e14, eq14, e16, eq16, e18, eq18, e20, eq20, e22, eq22, e24, eq24, d0, dq0, d2, dq2, d4, dq4, d6, dq6, d8, dq8, d10, dq10, d12, dq12, d14, dq14]
        refine hK _ ?_; clear hK K
        refine tr_block ?_
        refine loop_p (α := Nat × Nat) (fun b => ⟨104, [(1, .ro 3 (rrs rds)), (2, .ro 1 (bVs works)), (6, .ptr 1 0 0), (7, .ro 15 (xopsC ops)), (8, .ptr 3 0 0), (25, .ro 1 (thrs t.ths)), (26, iV (t.ths.length : Nat)), (9, iV (o.k : Nat)), (27, iV (i : Nat)), (11, .ro 13 (inss l)), (12, .ptr j 0 0), (76, .ro 3 (rregs (refRun ops rds works 0 l ⟨rw0 o.facts, 0, o.k⟩).regs)), (77, iV 8), (78, iV (b.1 : Nat))], [(j, .rows 6 [.agg (refRun ops rds works 0 l ⟨rw0 o.facts, 0, o.k⟩).cs]), (3, .rows 4 [.agg [.ro 8 (rfs (refRun ops rds works 0 l ⟨rw0 o.facts, 0, o.k⟩).facts), .sl (j + 201) 0 (o.regs.length + 1), .sl (j + 203) 0 (o.left.length + 1), bV (whR o.whole (refRun ops rds works 0 l ⟨rw0 o.facts, 0, o.k⟩).known (refRun ops rds works 0 l ⟨rw0 o.facts, 0, o.k⟩).regs b.1)]]), ((j + 201), .rows 1 (rgss (o.regs ++ [(refRun ops rds works 0 l ⟨rw0 o.facts, 0, o.k⟩).regs]))), ((j + 203), .rows 1 (rlefts (o.left ++ [(refRun ops rds works 0 l ⟨rw0 o.facts, 0, o.k⟩).left]))), (1, .rows 4 [.agg [onV none, onV none, onV none, bV false]])], b.2⟩) (fun b => b.1 ≤ 8 ∧ j + 204 ≤ b.2) (fun b => 8 - b.1) (0, j + 204) ?_ ?_ ?_
        · dsimp only; omega
        · refine Weaker.fz 1 0 ?_ ?_ ?_
          · simp [go_sem, e0, eq0, e2, eq2, e4, eq4, e6, eq6, e8, eq8, e10, eq10, e12, eq12, e14, eq14, e16, eq16, e18, eq18, e20, eq20, e22, eq22, e24, eq24, d0, dq0, d2, dq2, d4, dq4, d6, dq6, d8, dq8, d10, dq10, d12, dq12, d14, dq14]
          · first | (simp; done) | (simp; omega)
          · simp [go_sem, whR_zero, e0, eq0, e2, eq2, e4, eq4, e6, eq6, e8, eq8, e10, eq10, e12, eq12, e14, eq14, e16, eq16, e18, eq18, e20, eq20, e22, eq22, e24, eq24, d0, dq0, d2, dq2, d4, dq4, d6, dq6, d8, dq8, d10, dq10, d12, dq12, d14, dq14]
        rintro ⟨b, c⟩ ⟨hb, hc⟩
        dsimp only at hb hc ⊢
        refine region_k T_ok (by decide) fun K hK => ?_
        simp [go_sem]
        refine hK _ ?_; clear hK K
        refine seq_k fun K8 hK8 => ?_
        refine cond_k rfl (fun h => ?_) (fun h => ?_)
        · simp at h
          have hI4 : (b : Int) < 8 := h
          clear h
          have h'4 : b < 8 := by omega
          have hi04 : (0 : Int) ≤ (b : Nat) := by omega
          have hw4 : IntKind.i64.wrap ((b : Nat) + 1) = (b : Nat) + 1 := wrap_i64 (by omega) (by omega)
          have b0 : ¬ c = 1 := by omega
          have bq0 : ¬ 1 = c := by omega
          have b2 : ¬ c = 3 := by omega
          have bq2 : ¬ 3 = c := by omega
          have b4 : ¬ c = j := by omega
          have bq4 : ¬ j = c := by omega
          have b6 : ¬ c = (j + 201) := by omega
          have bq6 : ¬ (j + 201) = c := by omega
          have b8 : ¬ c = (j + 203) := by omega
          have bq8 : ¬ (j + 203) = c := by omega
          refine tr_skip ?_
          refine hK8 _ ?_; try clear hK8 K8
          refine seq_k fun K9 hK9 => ?_
          refine tr_block ?_
          refine region_k T_ok (by decide) fun K hK => ?_
          simp [go_sem, hI4, hi04, h'4, e0, eq0, e2, eq2, e4, eq4, e6, eq6, e8, eq8, e10, eq10, e12, eq12, e14, eq14, e16, eq16, e18, eq18, e20, eq20, e22, eq22, e24, eq24, b0, bq0, b2, bq2, b4, bq4, b6, bq6, b8, bq8, d0, dq0, d2, dq2, d4, dq4, d6, dq6, d8, dq8, d10, dq10, d12, dq12, d14, dq14]
          refine hK _ ?_; clear hK K
          refine region_e T_ok (by decide) fun K hK => ?_
          cases hW : (whR o.whole (refRun ops rds works 0 l ⟨rw0 o.facts, 0, o.k⟩).known (refRun ops rds works 0 l ⟨rw0 o.facts, 0, o.k⟩).regs b)
          · simp [go_sem, hW, e0, eq0, e2, eq2, e4, eq4, e6, eq6, e8, eq8, e10, eq10, e12, eq12, e14, eq14, e16, eq16, e18, eq18, e20, eq20, e22, eq22, e24, eq24, b0, bq0, b2, bq2, b4, bq4, b6, bq6, b8, bq8, d0, dq0, d2, dq2, d4, dq4, d6, dq6, d8, dq8, d10, dq10, d12, dq12, d14, dq14]
            refine hK _ ?_; clear hK K
            refine hK9 _ ?_; try clear hK9 K9
            refine region_e T_ok (by decide) fun K hK => ?_
            simp [go_sem, hw4]
            refine hK _ ?_; clear hK K
            refine ⟨(b + 1, c + 1), ?_, ?_, ?_⟩
            · dsimp only; omega
            · dsimp only; omega
            · refine Weaker.fz 1 0 ?_ ?_ ?_
              · simp [go_sem, e0, eq0, e2, eq2, e4, eq4, e6, eq6, e8, eq8, e10, eq10, e12, eq12, e14, eq14, e16, eq16, e18, eq18, e20, eq20, e22, eq22, e24, eq24, b0, bq0, b2, bq2, b4, bq4, b6, bq6, b8, bq8, d0, dq0, d2, dq2, d4, dq4, d6, dq6, d8, dq8, d10, dq10, d12, dq12, d14, dq14]
              · first | (simp; done) | (simp; omega)
              simp [go_sem, whR_step, hW, e0, eq0, e2, eq2, e4, eq4, e6, eq6, e8, eq8, e10, eq10, e12, eq12, e14, eq14, e16, eq16, e18, eq18, e20, eq20, e22, eq22, e24, eq24, b0, bq0, b2, bq2, b4, bq4, b6, bq6, b8, bq8, d0, dq0, d2, dq2, d4, dq4, d6, dq6, d8, dq8, d10, dq10, d12, dq12, d14, dq14]
          · simp [go_sem, hW, e0, eq0, e2, eq2, e4, eq4, e6, eq6, e8, eq8, e10, eq10, e12, eq12, e14, eq14, e16, eq16, e18, eq18, e20, eq20, e22, eq22, e24, eq24, b0, bq0, b2, bq2, b4, bq4, b6, bq6, b8, bq8, d0, dq0, d2, dq2, d4, dq4, d6, dq6, d8, dq8, d10, dq10, d12, dq12, d14, dq14]
            refine hK _ ?_; clear hK K
            refine hK9 _ ?_; try clear hK9 K9
            refine region_e T_ok (by decide) fun K hK => ?_
            simp [go_sem, hw4]
            refine hK _ ?_; clear hK K
            refine ⟨(b + 1, c + 1), ?_, ?_, ?_⟩
            · dsimp only; omega
            · dsimp only; omega
            · refine Weaker.fz 1 0 ?_ ?_ ?_
              · simp [go_sem, e0, eq0, e2, eq2, e4, eq4, e6, eq6, e8, eq8, e10, eq10, e12, eq12, e14, eq14, e16, eq16, e18, eq18, e20, eq20, e22, eq22, e24, eq24, b0, bq0, b2, bq2, b4, bq4, b6, bq6, b8, bq8, d0, dq0, d2, dq2, d4, dq4, d6, dq6, d8, dq8, d10, dq10, d12, dq12, d14, dq14]
              · first | (simp; done) | (simp; omega)
              simp [go_sem, whR_step, hW, e0, eq0, e2, eq2, e4, eq4, e6, eq6, e8, eq8, e10, eq10, e12, eq12, e14, eq14, e16, eq16, e18, eq18, e20, eq20, e22, eq22, e24, eq24, b0, bq0, b2, bq2, b4, bq4, b6, bq6, b8, bq8, d0, dq0, d2, dq2, d4, dq4, d6, dq6, d8, dq8, d10, dq10, d12, dq12, d14, dq14]
        · simp at h
          obtain rfl : b = 8 := by omega
          refine tr_exit ?_
          refine hK7 _ ?_; try clear hK7 K7
          refine region_k T_ok (by decide) fun K hK => ?_
          simp [go_sem, e0, eq0, e2, eq2, e4, eq4, e6, eq6, e8, eq8, e10, eq10, e12, eq12, e14, eq14, e16, eq16, e18, eq18, e20, eq20, e22, eq22, e24, eq24, d0, dq0, d2, dq2, d4, dq4, d6, dq6, d8, dq8, d10, dq10, d12, dq12, d14, dq14]
          refine hK _ ?_; clear hK K
          refine tr_block ?_
          refine loop_p (α := Nat × Nat) (fun b => ⟨104, [(1, .ro 3 (rrs rds)), (2, .ro 1 (bVs works)), (6, .ptr 1 0 0), (7, .ro 15 (xopsC ops)), (8, .ptr 3 0 0), (25, .ro 1 (thrs t.ths)), (26, iV (t.ths.length : Nat)), (90, .ro 13 (inss l)), (91, iV (l.length : Nat)), (92, iV (b.1 : Nat)), (9, iV (kP o.k l b.1 : Nat)), (27, iV (i : Nat))], [(j, .rows 6 [.agg (refRun ops rds works 0 l ⟨rw0 o.facts, 0, o.k⟩).cs]), (3, .rows 4 [.agg [.ro 8 (rfs (refRun ops rds works 0 l ⟨rw0 o.facts, 0, o.k⟩).facts), .sl (j + 201) 0 (o.regs.length + 1), .sl (j + 203) 0 (o.left.length + 1), bV (whR o.whole (refRun ops rds works 0 l ⟨rw0 o.facts, 0, o.k⟩).known (refRun ops rds works 0 l ⟨rw0 o.facts, 0, o.k⟩).regs 8)]]), ((j + 201), .rows 1 (rgss (o.regs ++ [(refRun ops rds works 0 l ⟨rw0 o.facts, 0, o.k⟩).regs]))), ((j + 203), .rows 1 (rlefts (o.left ++ [(refRun ops rds works 0 l ⟨rw0 o.facts, 0, o.k⟩).left]))), (1, .rows 4 [.agg [onV none, onV none, onV none, bV false]])], b.2⟩) (fun b => b.1 ≤ l.length ∧ j + 204 ≤ b.2) (fun b => l.length - b.1) (0, c) ?_ ?_ ?_
          · dsimp only; omega
          · refine Weaker.fz 1 0 ?_ ?_ ?_
            · simp [go_sem, kP_zero, e0, eq0, e2, eq2, e4, eq4, e6, eq6, e8, eq8, e10, eq10, e12, eq12, e14, eq14, e16, eq16, e18, eq18, e20, eq20, e22, eq22, e24, eq24, d0, dq0, d2, dq2, d4, dq4, d6, dq6, d8, dq8, d10, dq10, d12, dq12, d14, dq14]
            · first | (simp; done) | (simp; omega)
            · simp [go_sem, e0, eq0, e2, eq2, e4, eq4, e6, eq6, e8, eq8, e10, eq10, e12, eq12, e14, eq14, e16, eq16, e18, eq18, e20, eq20, e22, eq22, e24, eq24, d0, dq0, d2, dq2, d4, dq4, d6, dq6, d8, dq8, d10, dq10, d12, dq12, d14, dq14]
          rintro ⟨b, c6⟩ ⟨hb6, hc6⟩
          dsimp only at hb6 hc6 ⊢
          refine region_k T_ok (by decide) fun K hK => ?_
          simp [go_sem]
          refine hK _ ?_; clear hK K
          refine seq_k fun K10 hK10 => ?_
          refine cond_k rfl (fun h => ?_) (fun h => ?_)
          · simp at h
            have hI6 := h
            clear h
            have h'6 : b < (l).length := by omega
            obtain ⟨x, hx6, hx'6⟩ := getAt h'6
            have hi06 : (0 : Int) ≤ (b : Nat) := by omega
            have hw6 : IntKind.i64.wrap ((b : Nat) + 1) = (b : Nat) + 1 := wrap_i64 (by omega) (by omega)
            have k0 : ¬ c6 = 1 := by omega
            have kq0 : ¬ 1 = c6 := by omega
            have k2 : ¬ c6 = 3 := by omega
            have kq2 : ¬ 3 = c6 := by omega
            have k4 : ¬ c6 = j := by omega
            have kq4 : ¬ j = c6 := by omega
            have k6 : ¬ c6 = (j + 201) := by omega
            have kq6 : ¬ (j + 201) = c6 := by omega
            have k8 : ¬ c6 = (j + 203) := by omega
            have kq8 : ¬ (j + 203) = c6 := by omega
            have k10 : ¬ c6 = 0 := by omega
            have kq10 : ¬ 0 = c6 := by omega
            have k12 : ¬ c6 = 2 := by omega
            have kq12 : ¬ 2 = c6 := by omega
            refine tr_skip ?_
            refine hK10 _ ?_; try clear hK10 K10
            refine seq_k fun K11 hK11 => ?_
            refine tr_block ?_
            refine region_k T_ok (by decide) fun K hK => ?_
            simp [go_sem, hI6, hx6, hx'6, hi06, h'6, insC, e0, eq0, e2, eq2, e4, eq4, e6, eq6, e8, eq8, e10, eq10, e12, eq12, e14, eq14, e16, eq16, e18, eq18, e20, eq20, e22, eq22, e24, eq24, d0, dq0, d2, dq2, d4, dq4, d6, dq6, d8, dq8, d10, dq10, d12, dq12, d14, dq14, k0, kq0, k2, kq2, k4, kq4, k6, kq6, k8, kq8, k10, kq10, k12, kq12]
            refine hK _ ?_; clear hK K
            refine region_k T_ok (by decide) fun K hK => ?_
            simp [go_sem, insC, e0, eq0, e2, eq2, e4, eq4, e6, eq6, e8, eq8, e10, eq10, e12, eq12, e14, eq14, e16, eq16, e18, eq18, e20, eq20, e22, eq22, e24, eq24, d0, dq0, d2, dq2, d4, dq4, d6, dq6, d8, dq8, d10, dq10, d12, dq12, d14, dq14, k0, kq0, k2, kq2, k4, kq4, k6, kq6, k8, kq8, k10, kq10, k12, kq12]
            refine call_pf (refMemory_pf x.op) ?_
            simp [go_sem]
            refine hK _ ?_; clear hK K
            refine cond_k rfl (fun h => ?_) (fun h => ?_)
            · have hm : memI x = true := h
              clear h
              have hkl := kP_le o.k l b
              have hwk : IntKind.i64.wrap ((kP o.k l b : Nat) + 1) = (kP o.k l b : Nat) + 1 := wrap_i64 (by omega) (by omega)
              refine region_e T_ok (by decide) fun K hK => ?_
              simp [go_sem, hwk]
              refine hK _ ?_; clear hK K
              refine hK11 _ ?_; try clear hK11 K11
              refine region_e T_ok (by decide) fun K hK => ?_
              simp [go_sem, hw6]
              refine hK _ ?_; clear hK K
              refine ⟨(b + 1, c6 + 1), ?_, ?_, ?_⟩
              · dsimp only; omega
              · dsimp only; omega
              · refine Weaker.fz 1 0 ?_ ?_ ?_
                · simp [go_sem, kP_yes hx6 hm, e0, eq0, e2, eq2, e4, eq4, e6, eq6, e8, eq8, e10, eq10, e12, eq12, e14, eq14, e16, eq16, e18, eq18, e20, eq20, e22, eq22, e24, eq24, d0, dq0, d2, dq2, d4, dq4, d6, dq6, d8, dq8, d10, dq10, d12, dq12, d14, dq14, k0, kq0, k2, kq2, k4, kq4, k6, kq6, k8, kq8, k10, kq10, k12, kq12]
                · first | (simp; done) | (simp; omega)
                simp [go_sem, e0, eq0, e2, eq2, e4, eq4, e6, eq6, e8, eq8, e10, eq10, e12, eq12, e14, eq14, e16, eq16, e18, eq18, e20, eq20, e22, eq22, e24, eq24, d0, dq0, d2, dq2, d4, dq4, d6, dq6, d8, dq8, d10, dq10, d12, dq12, d14, dq14, k0, kq0, k2, kq2, k4, kq4, k6, kq6, k8, kq8, k10, kq10, k12, kq12]
            · have hm : memI x = false := by simpa [memI] using h
              clear h
              refine tr_skip ?_
              refine hK11 _ ?_; try clear hK11 K11
              refine region_e T_ok (by decide) fun K hK => ?_
              simp [go_sem, hw6]
              refine hK _ ?_; clear hK K
              refine ⟨(b + 1, c6 + 1), ?_, ?_, ?_⟩
              · dsimp only; omega
              · dsimp only; omega
              · refine Weaker.fz 1 0 ?_ ?_ ?_
                · simp [go_sem, kP_no hx6 hm, e0, eq0, e2, eq2, e4, eq4, e6, eq6, e8, eq8, e10, eq10, e12, eq12, e14, eq14, e16, eq16, e18, eq18, e20, eq20, e22, eq22, e24, eq24, d0, dq0, d2, dq2, d4, dq4, d6, dq6, d8, dq8, d10, dq10, d12, dq12, d14, dq14, k0, kq0, k2, kq2, k4, kq4, k6, kq6, k8, kq8, k10, kq10, k12, kq12]
                · first | (simp; done) | (simp; omega)
                simp [go_sem, e0, eq0, e2, eq2, e4, eq4, e6, eq6, e8, eq8, e10, eq10, e12, eq12, e14, eq14, e16, eq16, e18, eq18, e20, eq20, e22, eq22, e24, eq24, d0, dq0, d2, dq2, d4, dq4, d6, dq6, d8, dq8, d10, dq10, d12, dq12, d14, dq14, k0, kq0, k2, kq2, k4, kq4, k6, kq6, k8, kq8, k10, kq10, k12, kq12]
          · simp at h
            obtain rfl : b = l.length := by omega
            refine tr_exit ?_
            refine hK3 _ ?_; try clear hK3 K3
            refine region_e T_ok (by decide) fun K hK => ?_
            simp [go_sem, hw]
            refine hK _ ?_; clear hK K
            refine ⟨(i + 1, refStepO ops rds works l o, c6, j + 201, j + 203), ?_, ?_, ?_⟩
            · exact ⟨by omega, (refRunO_step hx).symm.trans hrun, by show (refRun ops rds works 0 l ⟨rw0 o.facts, 0, o.k⟩).facts.length = _; rw [refRun_fl]; exact hfl, by show o.k + memL l = _; rw [xopO_step hx, hko], by show (o.left ++ [_]).length = _; simp [hll], by show (o.regs ++ [_]).length = _; simp [hrl2], by dsimp only; omega, by dsimp only; omega, by dsimp only; omega, by dsimp only; omega, by dsimp only; omega⟩
            · dsimp only; omega
            · refine Weaker.fz 1 1 ?_ ?_ ?_
              · simp [go_sem, refStepO, kP_all, e0, eq0, e2, eq2, e4, eq4, e6, eq6, e8, eq8, e10, eq10, e12, eq12, e14, eq14, e16, eq16, e18, eq18, e20, eq20, e22, eq22, e24, eq24]
              · first | (simp; done) | (simp; omega)
              simp [go_sem, refStepO, whR_8, e0, eq0, e2, eq2, e4, eq4, e6, eq6, e8, eq8, e10, eq10, e12, eq12, e14, eq14, e16, eq16, e18, eq18, e20, eq20, e22, eq22, e24, eq24, d0, dq0, d2, dq2, d4, dq4, d6, dq6, d8, dq8, d10, dq10, d12, dq12, d14, dq14]
  · simp at h
    obtain rfl : i = t.ths.length := by omega
    rw [List.drop_length] at hrun
    replace hrun : o = refFlow t rds works := hrun
    have e0 : ¬ rL = 1 := by omega
    have eq0 : ¬ 1 = rL := by omega
    have e2 : ¬ rL = 3 := by omega
    have eq2 : ¬ 3 = rL := by omega
    have e4 : ¬ rR = 1 := by omega
    have eq4 : ¬ 1 = rR := by omega
    have e6 : ¬ rR = 3 := by omega
    have eq6 : ¬ 3 = rR := by omega
    have e8 : ¬ j = 1 := by omega
    have eq8 : ¬ 1 = j := by omega
    have e10 : ¬ j = 3 := by omega
    have eq10 : ¬ 3 = j := by omega
    have e12 : ¬ rL = rR := by omega
    have eq12 : ¬ rR = rL := by omega
    have e14 : ¬ rL = j := by omega
    have eq14 : ¬ j = rL := by omega
    have e16 : ¬ rR = j := by omega
    have eq16 : ¬ j = rR := by omega
    have e18 : ¬ j = 0 := by omega
    have eq18 : ¬ 0 = j := by omega
    have e20 : ¬ j = 2 := by omega
    have eq20 : ¬ 2 = j := by omega
    have e22 : ¬ rL = j + 1 := by omega
    have eq22 : ¬ j + 1 = rL := by omega
    have e24 : ¬ rR = j + 1 := by omega
    have eq24 : ¬ j + 1 = rR := by omega
    refine tr_exit ?_
    refine hK1 _ ?_; try clear hK1 K1
    refine region_k T_ok (by decide) fun K hK => ?_
    simp [go_sem, e0, eq0, e2, eq2, e4, eq4, e6, eq6, e8, eq8, e10, eq10, e12, eq12, e14, eq14, e16, eq16, e18, eq18, e20, eq20, e22, eq22, e24, eq24]
    refine hK _ ?_; clear hK K
    refine tr_ret ⟨.inr rfl, ?_⟩
    simp [go_sem, ← hrun, RO.cs, List.take_of_length_le, e0, eq0, e2, eq2, e4, eq4, e6, eq6, e8, eq8, e10, eq10, e12, eq12, e14, eq14, e16, eq16, e18, eq18, e20, eq20, e22, eq22, e24, eq24]

end Go.Proofs.Ytokdphmnlcmbbaa
/- The document's answer: masks of numbers. -/
namespace Go.Proofs.Ytokdphmnlcmbbaa
open Go Go.Sl Go.Proofs.Try

theorem with_le {v n : Nat} (q : Nat) : (fun q => if q = n then 1 else bit v q) q ≤ 1 := by dsimp only; split; omega; exact bit_le _ _

theorem refWith_pf (v : Nat) (hv : v < 18446744073709551616) (n : Nat) (hn : n < 64) : Pf Try.prog 35 [uV (v : Nat), iV (n : Nat)] (uV ((v ||| pw n : Nat) : Int)) := by
  refine Pf.of_fn (.cons (.val _) (.cons (.val _) .nil)) (.val _) ?_
  have n0 : (0 : Int) ≤ (n : Nat) := by omega
  have nI : (n : Int) < 64 := by omega
  refine fn_in T_ok func35 rfl rfl ntmps35 rfl (by simp) ?_
  refine region_k T_ok (by decide) fun K hK => ?_
  simp [go_sem]
  refine hK _ ?_; clear hK K
  refine region_k T_ok (by decide) fun K hK => ?_
  simp [go_sem]
  refine call_new (bits_fn v _ hv) fun r H2 k2 hk2 hx => ?_
  obtain ⟨m, hm1, hm2, rfl, rfl⟩ := hx
  simp [go_sem]
  refine hK _ ?_; clear hK K
  refine seq_k fun K1 hK1 => ?_
  refine region_k T_ok (by decide) fun K hK => ?_
  simp [go_sem, n0, nI]
  refine hK _ ?_; clear hK K
  refine cond_k rfl (fun h => ?_) (fun h => ?_)
  · clear h
    refine region_e T_ok (by decide) fun K hK => ?_
    simp [go_sem, n0, nI, hn]
    refine hK _ ?_; clear hK K
    refine hK1 _ ?_; try clear hK1 K1
    refine region_k T_ok (by decide) fun K hK => ?_
    simp [go_sem]
    refine call_fz [] [.ro 1 (natV (tabN fun q => if q = n then 1 else bit v q))] 1 0 (value_pf _ (Nat.le_of_eq (tabN_len _)) (tab_le with_le)) (by simp [go_sem, tabN_set, List.take_of_length_le]) (by simp) (by simp) ?_
    rw [val_with hv hn]
    simp [go_sem]
    refine hK _ ?_; clear hK K
    refine tr_ret ⟨.inr rfl, ?_⟩
    simp [go_sem]
  · simp at h

theorem mask_pf (l : List Nat) (hl : l.length ≤ 1000000) (h64 : ∀ k ∈ l, k < 64) : Pf Try.prog 18 [.ro 1 (natV l)] (uV (maskN l : Nat)) := by
  refine Pf.of_fn (.cons (nl_nat _) .nil) (.val _) ?_
  refine fn_in T_ok func18 rfl rfl ntmps18 rfl (by simp) ?_
  refine region_k T_ok (by decide) fun K hK => ?_
  simp [go_sem]
  refine hK _ ?_; clear hK K
  refine region_k T_ok (by decide) fun K hK => ?_
  simp [go_sem]
  refine hK _ ?_; clear hK K
  refine seq_k fun K1 hK1 => ?_
  refine region_k T_ok (by decide) fun K hK => ?_
  simp [go_sem]
  refine hK _ ?_; clear hK K
  refine tr_block ?_
  refine loop_p (α := Nat) (fun a => ⟨17, [(6, .ro 1 (natV l)), (7, iV (l.length : Nat)), (8, iV (a : Nat)), (3, uV (maskN (l.take a) : Nat))], [], 0⟩) (fun a => a ≤ l.length) (fun a => l.length - a) 0 ?_ ?_ ?_
  · omega
  · refine Weaker.fz 1 0 ?_ ?_ ?_
    · simp [go_sem, maskN]
    · first | (simp; done) | (simp; omega)
    · simp [go_sem]
  rintro i hi
  skip
  refine region_k T_ok (by decide) fun K hK => ?_
  simp [go_sem]
  refine hK _ ?_; clear hK K
  refine seq_k fun K2 hK2 => ?_
  refine cond_k rfl (fun h => ?_) (fun h => ?_)
  · simp at h
    have hI := h
    clear h
    have h' : i < l.length := by omega
    obtain ⟨y, hy, hy'⟩ := getAt h'
    have hi0 : (0 : Int) ≤ (i : Nat) := by omega
    have hw : IntKind.i64.wrap ((i : Nat) + 1) = (i : Nat) + 1 := wrap_i64 (by omega) (by omega)
    have hms := maskN_step hy
    have hlt := maskN_lt (l := l.take i) fun k hk => h64 k (List.mem_of_mem_take hk)
    have hy64 := h64 y (List.mem_of_getElem? hy)
    refine tr_skip ?_
    refine hK2 _ ?_; try clear hK2 K2
    refine seq_k fun K3 hK3 => ?_
    refine tr_block ?_
    refine region_k T_ok (by decide) fun K hK => ?_
    simp [go_sem, hI, hi0, h', hy, hy']
    refine hK _ ?_; clear hK K
    refine region_e T_ok (by decide) fun K hK => ?_
    simp [go_sem]
    refine call_pf (refWith_pf _ hlt y hy64) ?_
    simp [go_sem]
    refine hK _ ?_; clear hK K
    refine hK3 _ ?_; try clear hK3 K3
    refine region_e T_ok (by decide) fun K hK => ?_
    simp [go_sem, hw]
    refine hK _ ?_; clear hK K
    refine ⟨i + 1, ?_, ?_, ?_⟩
    · omega
    · omega
    · refine Weaker.fz 1 0 ?_ ?_ ?_
      · simp [go_sem, hms]
      · first | (simp; done) | (simp; omega)
      simp [go_sem]
  · simp at h
    obtain rfl : i = l.length := by omega
    rw [List.take_length]
    refine tr_exit ?_
    refine hK1 _ ?_; try clear hK1 K1
    refine region_k T_ok (by decide) fun K hK => ?_
    simp [go_sem]
    refine hK _ ?_; clear hK K
    refine tr_ret ⟨.inr rfl, ?_⟩
    simp [go_sem]

end Go.Proofs.Ytokdphmnlcmbbaa
/- FlowOf: what both know, in the form in which its walk needs it. -/
namespace Go.Proofs.Ytokdphmnlcmbbaa
open Go Go.Sl

structure FBd (C : Nat) (y : RF) : Prop where
  pl : (y.place.getD []).length ≤ C
  va : (y.value.getD []).length ≤ C
  ph : (y.path.getD []).length ≤ C
theorem FBd.nil (C : Nat) {y : RF} (h1 : y.place = none) (h2 : y.value = none) (h3 : y.path = none) : FBd C y := ⟨by rw [h1]; simp, by rw [h2]; simp, by rw [h3]; simp⟩
def FBs (C : Nat) (l : List RF) : Prop := ∀ y ∈ l, FBd C y
theorem FBs.set {C : Nat} {l : List RF} (h : FBs C l) (k : Nat) {y : RF} (hy : FBd C y) : FBs C (l.set k y) := fun z hz => by
  rcases List.mem_or_eq_of_mem_set hz with hz | rfl
  · exact h z hz
  · exact hy
theorem refMemF_bd {B : Nat} {w : RW} (h : RWs B w) (ops : List XOp) (x : Ins) (k : Nat) (read : RV) (works : Bool) : FBd B (refMemF w ops x k read works) := by
  have h1 : FBd B (refF1 w x read) := by
    unfold refF1
    refine ⟨?_, ?_, h.path⟩
    · dsimp only; split
      · exact h.on _
      · simp
    · dsimp only; split
      · exact h.arg _ _
      · simp
  unfold refMemF
  split
  · split
    · exact ⟨h1.pl, h1.va, h1.ph⟩
    · exact FBd.nil _ rfl rfl rfl
  · exact h1
theorem refStep_bd {B C : Nat} {ops : List XOp} {rds : List RV} {works : List Bool} {i : Nat} {x : Ins} {s : RT} (h : RWs B s.w) (hC : B ≤ C) (hf : FBs C s.w.facts) : FBs C (refStep ops rds works i x s).w.facts := by
  have up : ∀ {y : RF}, FBd B y → FBd C y := fun h => ⟨Nat.le_trans h.pl hC, Nat.le_trans h.va hC, Nat.le_trans h.ph hC⟩
  unfold refStep
  split
  · dsimp only; split
    · exact hf.set _ (FBd.nil _ rfl rfl rfl)
    · exact hf
  · split
    · exact hf.set _ (up (refMemF_bd h _ _ _ _ _))
    · split
      · exact hf
      · have : (refPlain s.w x).facts = s.w.facts := by unfold refPlain setRW; (repeat' split) <;> rfl
        dsimp only; rw [this]; exact hf
theorem refRun_bd {ops : List XOp} {rds : List RV} {works : List Bool} : ∀ (l : List Ins) (i : Nat) (s : RT), RWs (3 ^ i) s.w → FBs 6561 s.w.facts → i + l.length ≤ 8 → FBs 6561 (refRun ops rds works i l s).facts ∧ ((refRun ops rds works i l s).left.getD []).length ≤ 6561
  | [], i, s, h, hf, hi => ⟨hf, Nat.le_trans h.left (pow3 (by simpa using hi))⟩
  | x :: l, i, s, h, hf, hi => by
    simp only [List.length_cons] at hi
    have hp := pow3 (i := i) (by omega)
    have hp1 := pow3 (i := i + 1) (by omega)
    have h1 : RWs (3 ^ (i + 1)) (refStep ops rds works i x s).w := by rw [Nat.pow_succ, Nat.mul_comm]; exact h.step (Nat.pow_pos (by omega))
    have h2 := refStep_bd (ops := ops) (rds := rds) (works := works) (i := i) (x := x) h hp hf
    unfold refRun
    split
    · exact refRun_bd l (i + 1) _ h1 h2 (by omega)
    · exact ⟨h2, Nat.le_trans h1.left hp1⟩
structure RBd (o : RO) : Prop where
  f : FBs 6561 o.facts
  l : ∀ a ∈ o.left, (a.getD []).length ≤ 6561
theorem refRunO_bd {ops : List XOp} {rds : List RV} {works : List Bool} : ∀ (ths : List (List Ins)) (o : RO), RBd o → (∀ l ∈ ths, l.length ≤ 8) → RBd (refRunO ops rds works ths o)
  | [], _, h, _ => h
  | l :: r, o, h, hl => by
    have hr := refRun_bd (ops := ops) (rds := rds) (works := works) l 0 ⟨rw0 o.facts, 0, o.k⟩ ⟨fun r => by simp [rw0], by simp [rw0], by simp [rw0]⟩ h.f (by have := hl l (by simp); omega)
    rw [refRunO]
    refine refRunO_bd r _ ⟨hr.1, fun a ha => ?_⟩ fun x hx => hl x (by simp [hx])
    unfold refStepO at ha
    dsimp only at ha
    rcases List.mem_append.1 ha with ha | ha
    · exact h.l a ha
    · simp at ha; rw [ha]; exact hr.2
theorem refFlow_bd {T : Tst} (h : ∀ l ∈ T.ths, l.length ≤ 8) (rds : List RV) (works : List Bool) : RBd (refFlow T rds works) :=
  refRunO_bd _ _ ⟨fun y hy => by obtain ⟨_, rfl⟩ := List.mem_replicate.1 hy; exact FBd.nil _ rfl rfl rfl, fun a ha => by simp at ha⟩ h

section
variable {o : RO}
@[go_sem high] theorem ro_len : o.cs.length = 4 := Eq.trans rfl rfl
@[go_sem high] theorem ro_fits : (V.agg o.cs).fits 4 = true := by
  rw [fits_iff]
  refine ⟨rfl, fun c hc => ?_⟩
  simp only [V.cells, RO.cs, List.mem_cons, List.not_mem_nil, or_false] at hc
  rcases hc with rfl | rfl | rfl | rfl <;> rfl
@[go_sem high] theorem ro_0 : partV false 1 o.cs 0 = .ro 8 (rfs o.facts) := Eq.trans rfl rfl
@[go_sem high] theorem ro_1 : partV false 1 o.cs 1 = .ro 1 (rgss o.regs) := Eq.trans rfl rfl
@[go_sem high] theorem ro_2 : partV false 1 o.cs 2 = .ro 1 (rlefts o.left) := Eq.trans rfl rfl
@[go_sem high] theorem ro_3 : partV false 1 o.cs 3 = bV o.whole := Eq.trans rfl rfl
end
@[go_sem high] theorem put_roAll {o : RO} : putPart (.agg [onV none, onV none, onV none, bV false]) 0 (.agg o.cs) = .agg o.cs := Eq.trans rfl rfl
@[go_sem high] theorem put_rf0All {f : RF} : putPart (.agg [iV 0, iV 0, bV false, uV 0, onV none, onV none, onV none, onV none]) 0 (.agg f.cs) = .agg f.cs := Eq.trans rfl rfl
theorem rfs_at (l : List RF) (i : Nat) : (rfs l)[i]? = l[i]?.map fun x => V.agg x.cs := List.getElem?_map ..

/-- both, as FlowOf has them -/
structure Both (n : Nat) (F : Os') (G : RO) : Prop where
  whole : F.whole = G.whole
  l1 : F.f.state.length = n
  l2 : F.f.write.length = n
  l3 : F.f.pair.length = n
  l4 : F.f.place.length = n
  l5 : F.f.value.length = n
  l6 : F.f.path.length = n
  lf : G.facts.length = n
  ll : F.left.length = G.left.length
  rl : F.regs.length = G.regs.length
  rb : G.regs.length ≤ 8
  lb : G.left.length ≤ 8
  at_ : ∀ (i : Nat) (y : RF), G.facts[i]? = some y → F.f.state[i]? = some y.state ∧ F.f.write[i]? = some ⟨y.wk, y.wv⟩ ∧ F.f.pair[i]? = some y.pair ∧ F.f.place[i]? = some ((maskN (y.place.getD []) : Nat) : Int) ∧ F.f.value[i]? = some ((maskN (y.value.getD []) : Nat) : Int) ∧ F.f.path[i]? = some ((maskN (y.path.getD []) : Nat) : Int)
  lt : ∀ (i : Nat) (y : RF), G.facts[i]? = some y → (∀ k ∈ y.place.getD [], k < 64) ∧ (∀ k ∈ y.value.getD [], k < 64) ∧ ∀ k ∈ y.path.getD [], k < 64
  bd : ∀ (i : Nat) (y : RF), G.facts[i]? = some y → FBd 6561 y
  left : ∀ (i : Nat) (a : Option (List Nat)), G.left[i]? = some a → F.left[i]? = some ((maskN (a.getD []) : Nat) : Int) ∧ (∀ k ∈ a.getD [], k < 64) ∧ (a.getD []).length ≤ 6561
  regs : ∀ (i : Nat) (h : Nat → RV), G.regs[i]? = some h → ∃ g : Nat → Vl, F.regs[i]? = some g ∧ ∀ r, g r = ⟨(h r).k, (h r).v⟩
theorem of_getD {α : Type} {l : List α} {i n : Nat} {d v : α} (hl : l.length = n) (hi : i < n) (h : l.getD i d = v) : l[i]? = some v := by
  have h' : i < l.length := by omega
  rw [List.getElem?_eq_getElem h']
  rw [List.getD, List.getElem?_eq_getElem h', Option.getD_some] at h
  rw [h]
theorem some_at {α : Type} {l : List α} {i : Nat} (h : i < l.length) : ∃ x, l[i]? = some x := ⟨_, List.getElem?_eq_getElem h⟩
theorem refRunO_len {ops : List XOp} {rds : List RV} {works : List Bool} : ∀ (ths : List (List Ins)) (o : RO), (refRunO ops rds works ths o).regs.length = o.regs.length + ths.length ∧ (refRunO ops rds works ths o).left.length = o.left.length + ths.length
  | [], o => ⟨rfl, rfl⟩
  | l :: r, o => by
    have := refRunO_len (ops := ops) (rds := rds) (works := works) r (refStepO ops rds works l o)
    rw [refRunO]
    simp only [refStepO, List.length_append, List.length_cons, List.length_nil] at this ⊢
    omega
theorem both_of {T : Tst} (h : chkErr T = 0) (reads : List Vl) (works : List Bool) : Both (nOps T) (flowOf T reads works) (refFlow T (rvl reads) works) := by
  have ho := flow_same h reads works
  have hb := refFlow_bd (good_len h).2 (rvl reads) works
  have hlen : (refFlow T (rvl reads) works).regs.length = T.ths.length := by unfold refFlow; rw [(refRunO_len _ _).1]; simp
  have hlen2 : (refFlow T (rvl reads) works).left.length = T.ths.length := by unfold refFlow; rw [(refRunO_len _ _).2]; simp
  have h4 := (good_len h).1
  generalize flowOf T reads works = F at *
  generalize refFlow T (rvl reads) works = G at *
  have ok := ho.f.ok
  refine ⟨ho.whole, ok.l1, ok.l2, ok.l3, ok.l4, ok.l5, ok.l6, ho.f.len, ho.ll, ho.rl, by omega, by omega, fun i y hy => ?_, fun i y hy => ?_, fun i y hy => hb.f y (List.mem_of_getElem? hy), fun i a ha => ?_, fun i g hg => ?_⟩
  · have hi : i < nOps T := by have := (List.getElem?_eq_some_iff.1 hy).1; rw [ho.f.len] at this; exact this
    have h1 := ho.f.all i hi
    have e : G.facts.getD i rf0 = y := by simp [List.getD, hy]
    rw [e] at h1
    exact ⟨of_getD ok.l1 hi h1.s, of_getD ok.l2 hi h1.w, of_getD ok.l3 hi h1.p, of_getD ok.l4 hi h1.pl.eq, of_getD ok.l5 hi h1.va.eq, of_getD ok.l6 hi h1.ph.eq⟩
  · have hi : i < nOps T := by have := (List.getElem?_eq_some_iff.1 hy).1; rw [ho.f.len] at this; exact this
    have h1 := ho.f.all i hi
    have e : G.facts.getD i rf0 = y := by simp [List.getD, hy]
    rw [e] at h1
    exact ⟨h1.pl.lt, h1.va.lt, h1.ph.lt⟩
  · have hi := (List.getElem?_eq_some_iff.1 ha).1
    obtain ⟨m, hm⟩ := some_at (l := F.left) (i := i) (by rw [ho.ll]; exact hi)
    have := ho.left i m a hm ha
    exact ⟨by rw [hm, this.eq], this.lt, hb.l a (List.mem_of_getElem? ha)⟩
  · have hi := (List.getElem?_eq_some_iff.1 hg).1
    obtain ⟨m, hm⟩ := some_at (l := F.regs) (i := i) (by rw [ho.rl]; exact hi)
    exact ⟨m, hm, ho.regs i m g hm hg⟩
theorem ops_same (t : List (List Ins)) {i : Nat} {p : XOp} (h : (xopsT 0 t)[i]? = some p) : (opsT 0 t)[i]? = some (p.1, p.2.1) := by rw [← xopsT_ops, List.getElem?_map, h]; rfl
theorem get_of {α : Type} {l : List α} {i : Nat} {x : α} (h : l[i]? = some x) (h' : i < l.length) : l[i] = x := by
  rw [List.getElem?_eq_getElem h'] at h
  exact Option.some.inj h
@[go_sem] theorem opsC_get (l : List (Nat × Nat)) (i : Nat) (h : i < (opsC l).length) : (opsC l)[i] = .agg [iV ((l[i]'(by simpa [opsC] using h)).1 : Nat), iV ((l[i]'(by simpa [opsC] using h)).2 : Nat)] := by simp [opsC, opC]
@[go_sem] theorem regsRows_at (l : List (Nat → Vl)) (i : Nat) : (regsRows l)[i]? = l[i]?.map fun g => V.agg (regsC g) := List.getElem?_map ..
@[go_sem] theorem regsRows_get (l : List (Nat → Vl)) (i : Nat) (h : i < (regsRows l).length) : (regsRows l)[i] = .agg (regsC (l[i]'(by simpa [regsRows] using h))) := by simp [regsRows]
@[go_sem ↓ high] theorem rlefts_cells (l : List (Option (List Nat))) (m : Nat) : ((rlefts l).getD m .any).cells = [(rlefts l).getD m .any] := by
  unfold rlefts
  simp only [List.getD, List.getElem?_map]
  cases l[m]? with
  | none => rfl
  | some o => exact on_cells o
end Go.Proofs.Ytokdphmnlcmbbaa
/- The document's answer: the walk of FlowOf. -/
namespace Go.Proofs.Ytokdphmnlcmbbaa
open Go Go.Sl Go.Proofs.Try

theorem maskO_pf (o : Option (List Nat)) (hl : (o.getD []).length ≤ 6561) (h64 : ∀ k ∈ o.getD [], k < 64) : Pf Try.prog 18 [onV o] (uV ((maskN (o.getD []) : Nat) : Int)) :=
  Pf.seen (.cons (seen_on o) .nil) (mask_pf _ (by omega) h64)
theorem few_nm2 {t : Tst} : ∀ l ∈ (few t).locs, l.name.size ≤ 1000000 := fun l hl => by
  obtain ⟨x, _, rfl⟩ := List.mem_map.1 hl
  exact Nat.le_trans (cutS_le _ _) (by omega)
theorem of_two {T : Tst} (hc : chkErr T = 0) (hw : tstWf T) (reads : List Vl) (hrd : ∀ v ∈ reads, In64 v.v) (works : List Bool) : ∃ (F : Os') (G : RO), Pf Try.prog 10 [.rp T.cs 0, .ro 2 (vls (givA reads (nOps T))), .ro 1 (bVs (givB works (nOps T)))] (.rp F.cs 0) ∧
    Pf Try.prog 17 [.agg T.cs, .ro 3 (rvs (givA reads (nOps T))), .ro 1 (bVs (givB works (nOps T)))] (.agg G.cs) ∧ Both (nOps T) F G := by
  obtain ⟨g1, g2, g3⟩ := good_ok hc hw
  have hla := givA_len reads (nOps T)
  have hlb := givB_len works (nOps T)
  refine ⟨_, _, flow_pf T g1 g2 g3 _ _ (by omega) (by omega), ?_, both_of hc _ _⟩
  rw [rvs_rrs]
  refine refFlow_pf T g1 (good_len hc).2 (fun l hl x hx => ⟨g3 l hl x hx, hw l hl x hx, good_op hc hl hx⟩) _ _ (by simp [rvl, hla]) (by omega) fun q => ?_
  have e := rvl_reads (givA reads (nOps T)) q
  have e2 : ((rvl (givA reads (nOps T))).getD q ⟨false, 0, none⟩).v = ((givA reads (nOps T)).getD q zV).v := by rw [e]; rfl
  rw [e2]
  have z : In64 zV.v := ⟨by decide, by decide⟩
  by_cases hq : q < nOps T
  · unfold givA
    rw [tab_getD hq]
    unfold gaN giv
    rw [if_pos hq]
    split
    · by_cases hr : q < reads.length
      · have : reads.getD q zV = reads[q] := by simp [List.getD, List.getElem?_eq_getElem hr]
        rw [this]; exact hrd _ (List.getElem_mem hr)
      · have : reads.getD q zV = zV := by simp [List.getD, List.getElem?_eq_none (Nat.le_of_not_lt hr)]
        rw [this]; exact z
    · exact z
  · have : (givA reads (nOps T)).getD q zV = zV := by rw [List.getD, List.getElem?_eq_none (by omega)]; rfl
    rw [this]; exact z

set_option maxRecDepth 100000 in
set_option maxHeartbeats 16000000 in
theorem flowOf_pf (t : Tst) (hs : ∀ l ∈ t.locs, l.name.size ≤ 9223372036854775807) (hwf : tstWf t) (reads : List Vl) (hrd : ∀ v ∈ reads, In64 v.v) (works : List Bool) : Pf Try.prog 5 [.agg t.cs, .ro 2 (vls reads), .ro 1 (bVs works)] (bV true) := by
  refine Pf.of_fn (.cons (.agg (nl_tst t)) (.cons (nl_vls _) (.cons (nl_bVs _) .nil))) (.val _) ?_
  have hnm : ∀ l ∈ (few t).locs, l.name.size ≤ 1000000 := few_nm2
  have hfew := few_pf t hs
  have hwT := few_wf hwf
  generalize few t = T at hnm hfew hwT
  refine fn_in T_ok func5 rfl rfl ntmps5 rfl (by simp) ?_
  refine region_k T_ok (by decide) fun K hK => ?_
  simp [go_sem, Tst.cs]
  refine hK _ ?_; clear hK K
  refine region_k T_ok (by decide) fun K hK => ?_
  simp [go_sem]
  refine call_pf (hfew) ?_
  simp [go_sem, Tst.cs]
  refine hK _ ?_; clear hK K
  refine seq_k fun K1 hK1 => ?_
  refine Tr.weaken (Weaker.fz (H' := []) (t' := [(1, .ro 2 (vls reads)), (2, .ro 1 (bVs works)), (3, .rp T.cs 0)]) 1 0 ?_ ?_ ?_) ?_
  · simp [go_sem, Tst.cs]
  · simp
  · simp
  refine region_k T_ok (by decide) fun K hK => ?_
  simp [go_sem]
  refine call_pf (awake13) ?_
  simp [go_sem]
  refine call_pf (Check_pf T hnm) ?_
  simp [go_sem]
  refine hK _ ?_; clear hK K
  refine cond_k rfl (fun h => ?_) (fun h => ?_)
  · skip
    refine region_k T_ok (by decide) fun K hK => ?_
    simp [go_sem]
    refine call_pf (awake13) ?_
    simp [go_sem]
    refine hK _ ?_; clear hK K
    refine tr_ret ⟨.inr rfl, ?_⟩
    simp [go_sem]
  · have hc : chkErr T = 0 := by simpa using h
    obtain ⟨g1, g2, g3⟩ := good_ok hc hwT
    obtain ⟨s0, s1, s2, s3, s4, s5⟩ := sizeErr_zero (chkErr_zero.1 hc).1
    obtain ⟨F, G, hF, hG, hB⟩ := of_two hc hwT reads hrd works
    have hgiv := given_pf T g1 g2 reads works
    have hn32 := good_nOps hc
    have htold := told_pf T (by omega) g1 g2 (by omega)
    have hops := ops_pf T g1 g2
    have hrops := refOps_pf T g1 g2
    have hol : (opsT 0 T.ths).length = nOps T := opsT_len 0 _
    have hxl : (xopsT 0 T.ths).length = nOps T := by rw [xopsT_len, opsT_len]; rfl
    have hsame : ∀ (i : Nat) (p : XOp), (xopsT 0 T.ths)[i]? = some p → (opsT 0 T.ths)[i]? = some (p.1, p.2.1) := fun i p h => ops_same _ h
    generalize nOps T = n at *
    generalize opsT 0 T.ths = OPS at *
    generalize xopsT 0 T.ths = XS at *
    generalize givA reads n = a at *
    generalize givB works n = b at *
    clear hc g1 g2 g3 s0 s1 s2 s3 s4 s5 hwT
    refine tr_skip ?_
    refine hK1 _ ?_; try clear hK1 K1
    refine region_k T_ok (by decide) fun K hK => ?_
    simp [go_sem, Tst.cs]
    refine call_pf (htold) ?_
    simp [go_sem, Tst.cs]
    refine hK _ ?_; clear hK K
    refine draw_k T_ok (by kernel_rfl) 2 [[], [], [0, 1], [0, 1, 2], [0, 1, 2, 3]] [] (by decide) (by decide) (by decide) fun K hK => ?_
    first | dsimp only [List.take, List.drop] | dsimp [List.take, List.drop]
    simp [go_sem, Tst.cs]
    refine callD_of (hops) ?_
    simp [go_sem, Tst.cs]
    refine call_pf (hrops) ?_
    simp [go_sem]
    refine hK _ ?_; clear hK K
    refine seq_k fun K2 hK2 => ?_
    refine region_k T_ok (by decide) fun K hK => ?_
    simp [go_sem, hol, hxl]
    refine hK _ ?_; clear hK K
    refine cond_k rfl (fun h => ?_) (fun h => ?_)
    · simp at h
    · clear h
      refine tr_skip ?_
      refine hK2 _ ?_; try clear hK2 K2
      refine seq_k fun K3 hK3 => ?_
      refine region_k T_ok (by decide) fun K hK => ?_
      simp [go_sem, hxl]
      refine hK _ ?_; clear hK K
      refine tr_block ?_
      refine loop_p (α := Nat × Nat) (fun q => ⟨273, [(1, .ro 2 (vls reads)), (2, .ro 1 (bVs works)), (3, .rp T.cs 0), (7, .ptr 1 0 0), (8, .ro 2 (opsC OPS)), (9, .ro 15 (xopsC XS)), (43, .ro 15 (xopsC XS)), (44, iV (n : Nat)), (45, iV (q.1 : Nat))], [(1, .rows 3 [.agg T.cs])], q.2⟩) (fun q => q.1 ≤ n ∧ 1 < q.2) (fun q => n - q.1) (0, 10) ?_ ?_ ?_
      · dsimp only; omega
      · refine Weaker.fzk 1 0 (by first | omega | (dsimp only; omega)) ?_ ?_ ?_
        · simp [go_sem, hxl, Tst.cs]
        · first | (simp; done) | (simp; omega)
        · simp [go_sem, Tst.cs]
      rintro ⟨i, J⟩ ⟨hi, hJ⟩
      dsimp only at hi hJ ⊢
      refine region_k T_ok (by decide) fun K hK => ?_
      simp [go_sem]
      refine hK _ ?_; clear hK K
      refine seq_k fun K4 hK4 => ?_
      refine cond_k rfl (fun h => ?_) (fun h => ?_)
      · simp at h
        have hI : (i : Int) < (n : Nat) := by omega
        have h' : i < n := by omega
        clear h
        have hi0 : (0 : Int) ≤ (i : Nat) := by omega
        have hw : IntKind.i64.wrap ((i : Nat) + 1) = (i : Nat) + 1 := wrap_i64 (by omega) (by omega)
        obtain ⟨p, hp⟩ := some_at (l := XS) (i := i) (by omega)
        have hp' := get_of hp
        have hq := hsame i p hp
        have hq' := get_of hq
        refine tr_skip ?_
        refine hK4 _ ?_; try clear hK4 K4
        refine seq_k fun K5 hK5 => ?_
        refine tr_block ?_
        refine region_k T_ok (by decide) fun K hK => ?_
        simp [go_sem]
        refine hK _ ?_; clear hK K
        refine draw_k T_ok (by kernel_rfl) 22 [[], [], [0, 1], [0, 1, 2], [0, 1, 2, 3], [], [], [5, 6], [5, 6, 7], [5, 6, 7, 8], [0, 1, 2, 3, 4, 5, 6, 7, 8, 9], [0, 1, 2, 3, 4, 5, 6, 7, 8, 9, 10], [0, 1, 2, 3, 4, 5, 6, 7, 8, 9, 10, 11], [0, 1, 2, 3, 4, 5, 6, 7, 8, 9, 10, 11], [0, 1, 2, 3, 4, 5, 6, 7, 8, 9, 10, 11, 12, 13], [0, 1, 2, 3, 4, 5, 6, 7, 8, 9, 10, 11, 12, 13, 14], [0, 1, 2, 3, 4, 5, 6, 7, 8, 9, 10, 11, 12, 13, 14, 15], [0, 1, 2, 3, 4, 5, 6, 7, 8, 9, 10, 11], [0, 1, 2, 3, 4, 5, 6, 7, 8, 9, 10, 11], [0, 1, 2, 3, 4, 5, 6, 7, 8, 9, 10, 11, 17, 18], [0, 1, 2, 3, 4, 5, 6, 7, 8, 9, 10, 11, 17, 18, 19], [0, 1, 2, 3, 4, 5, 6, 7, 8, 9, 10, 11, 17, 18, 19, 20], [0, 1, 2, 3, 4, 5, 6, 7, 8, 9, 10, 11, 12, 13, 14, 15, 16, 17, 18, 19, 20, 21], [0, 1, 2, 3, 4, 5, 6, 7, 8, 9, 10, 11, 12, 13, 14, 15, 16, 17, 18, 19, 20, 21, 22]] [] (by decide) (by decide) (by decide) fun K hK => ?_
        first | dsimp only [List.take, List.drop] | dsimp [List.take, List.drop]
        simp [go_sem, hI, hi0, h', hol, hxl, hp, hp', hq, hq']
        refine hK _ ?_; clear hK K
        refine cond_k rfl (fun h => ?_) (fun h => ?_)
        · simp at h
        · clear h
          refine tr_skip ?_
          refine hK5 _ ?_; try clear hK5 K5
          refine region_e T_ok (by decide) fun K hK => ?_
          simp [go_sem, hw]
          refine hK _ ?_; clear hK K
          refine ⟨(i + 1, J + 200), ?_, ?_, ?_⟩
          · dsimp only; omega
          · dsimp only; omega
          · refine Weaker.fzk 1 0 (by first | omega | (dsimp only; omega)) ?_ ?_ ?_
            · simp [go_sem]
            · first | (simp; done) | (simp; omega)
            simp [go_sem]
      · simp at h
        have g0 : ¬ J = 1 := by omega
        have gq0 : ¬ 1 = J := by omega
        refine tr_exit ?_
        refine hK3 _ ?_; try clear hK3 K3
        refine region_k T_ok (by decide) fun K hK => ?_
        simp [go_sem, Tst.cs]
        refine call_pf (hgiv) ?_
        simp [go_sem]
        refine hK _ ?_; clear hK K
        refine region_k T_ok (by decide) fun K hK => ?_
        simp [go_sem]
        refine call_pf (hF) ?_
        simp [go_sem]
        refine hK _ ?_; clear hK K
        refine region_k T_ok (by decide) fun K hK => ?_
        simp [go_sem, Tst.cs, g0, gq0]
        refine call_pf (hG) ?_
        simp [go_sem, g0, gq0, Tst.cs]
        refine hK _ ?_; clear hK K
        refine seq_k fun K6 hK6 => ?_
        refine draw_k T_ok (by kernel_rfl) 34 [[], [0], [0, 1], [0, 1, 2], [0, 1, 2, 3], [0, 1, 2, 3, 4], [0, 1, 2, 3, 4, 5], [0, 1, 2, 3, 4, 5, 6], [0, 1, 2, 3, 4, 5, 6, 7], [0, 1, 2, 3, 4, 5, 6, 7, 8], [0, 1, 2, 3, 4, 5, 6, 7, 8, 9], [0, 1, 2, 3, 4, 5, 6], [0, 1, 2, 3, 4, 5, 6, 11], [0, 1, 2, 3, 4, 5, 6, 7, 8, 9, 10, 11, 12], [0, 1, 2, 3, 4, 5, 6, 7, 8, 9, 10, 11, 12, 13], [0, 1, 2, 3, 4, 5, 6, 7, 8, 9, 10, 11, 12, 13, 14], [0, 1, 2, 3, 4, 5, 6, 7, 8, 9, 10, 11, 12, 13, 14, 15], [0, 1, 2, 3, 4, 5, 6, 7, 8, 9, 10, 11, 12, 13, 14, 15, 16], [0, 1, 2, 3, 4, 5, 6, 7, 8, 9, 10, 11, 12, 13, 14, 15, 16, 17], [0, 1, 2, 3, 4, 5, 6, 7, 8, 9, 10, 11, 12, 13, 14, 15, 16, 17, 18], [0, 1, 2, 3, 4, 5, 6, 7, 8, 9, 10, 11, 12, 13, 14, 15, 16, 17, 18, 19], [0, 1, 2, 3, 4, 5, 6, 7, 8, 9, 10, 11, 12, 13, 14, 15], [0, 1, 2, 3, 4, 5, 6, 7, 8, 9, 10, 11, 12, 13, 14, 15, 21], [0, 1, 2, 3, 4, 5, 6, 7, 8, 9, 10, 11, 12, 13, 14, 15, 16, 17, 18, 19, 20, 21, 22], [0, 1, 2, 3, 4, 5, 6, 7, 8, 9, 10, 11, 12, 13, 14, 15, 16, 17, 18, 19, 20, 21, 22, 23], [0, 1, 2, 3, 4, 5, 6, 7, 8, 9, 10, 11, 12, 13, 14, 15, 16, 17, 18, 19, 20, 21, 22, 23, 24], [0, 1, 2, 3, 4, 5, 6, 7, 8, 9, 10, 11, 12, 13, 14, 15, 16, 17, 18, 19, 20, 21, 22, 23, 24, 25], [0, 1, 2, 3, 4, 5, 6, 7, 8, 9, 10, 11, 12, 13, 14, 15, 16, 17, 18, 19, 20, 21, 22, 23, 24, 25, 26], [0, 1, 2, 3, 4, 5, 6, 7, 8, 9, 10, 11, 12, 13, 14, 15, 16, 17, 18, 19, 20, 21, 22, 23, 24, 25, 26, 27], [0, 1, 2, 3, 4, 5, 6, 7, 8, 9, 10, 11, 12, 13, 14, 15, 16, 17, 18, 19, 20, 21, 22, 23, 24, 25, 26, 27, 28], [0, 1, 2, 3, 4, 5, 6, 7, 8, 9, 10, 11, 12, 13, 14, 15, 16, 17, 18, 19, 20, 21, 22, 23, 24, 25, 26, 27, 28, 29], [0, 1, 2, 3, 4, 5, 6, 7, 8, 9, 10, 11, 12, 13, 14, 15, 16, 17, 18, 19, 20, 21, 22, 23, 24, 25], [0, 1, 2, 3, 4, 5, 6, 7, 8, 9, 10, 11, 12, 13, 14, 15, 16, 17, 18, 19, 20, 21, 22, 23, 24, 25, 31], [0, 1, 2, 3, 4, 5, 6, 7, 8, 9, 10, 11, 12, 13, 14, 15, 16, 17, 18, 19, 20, 21, 22, 23, 24, 25, 31, 32], [0, 1, 2, 3, 4, 5, 6, 7, 8, 9, 10, 11, 12, 13, 14, 15, 16, 17, 18, 19, 20, 21, 22, 23, 24, 25, 26, 27, 28, 29, 30, 31, 32, 33], [0, 1, 2, 3, 4, 5, 6, 7, 8, 9, 10, 11, 12, 13, 14, 15, 16, 17, 18, 19, 20, 21, 22, 23, 24, 25, 26, 27, 28, 29, 30, 31, 32, 33, 34]] [] (by decide) (by decide) (by decide) fun K hK => ?_
        first | dsimp only [List.take, List.drop] | dsimp [List.take, List.drop]
        simp [go_sem]
        refine callD_of (awake13) ?_
        simp [go_sem, hB.whole, hB.l1, hB.rl, hxl]
        refine hK _ ?_; clear hK K
        refine cond_k rfl (fun h => ?_) (fun h => ?_)
        · simp at h
        · clear h
          refine tr_skip ?_
          refine hK6 _ ?_; try clear hK6 K6
          refine seq_k fun K7 hK7 => ?_
          refine region_k T_ok (by decide) fun K hK => ?_
          simp [go_sem, hB.lf]
          refine hK _ ?_; clear hK K
          refine tr_block ?_
          have r1 := hB.l1
          have r2 := hB.l2
          have r3 := hB.l3
          have r4 := hB.l4
          have r5 := hB.l5
          have r6 := hB.l6
          refine loop_p (α := Nat × Nat) (fun q => ⟨273, [(9, .ro 15 (xopsC XS)), (14, .rp F.cs 0), (15, .ptr J 0 0), (125, .ro 8 (rfs G.facts)), (126, iV (n : Nat)), (127, iV (q.1 : Nat))], [(J, .rows 4 [.agg G.cs])], q.2⟩) (fun q => q.1 ≤ n ∧ J < q.2) (fun q => n - q.1) (0, J + 50) ?_ ?_ ?_
          · dsimp only; omega
          · refine Weaker.fzk 1 0 (by first | omega | (dsimp only; omega)) ?_ ?_ ?_
            · simp [go_sem, hB.lf]
            · first | (simp; done) | (simp; omega)
            · simp [go_sem]
          rintro ⟨i, j⟩ ⟨hi, hj⟩
          dsimp only at hi hj ⊢
          refine region_k T_ok (by decide) fun K hK => ?_
          simp [go_sem]
          refine hK _ ?_; clear hK K
          refine seq_k fun K8 hK8 => ?_
          refine cond_k rfl (fun h => ?_) (fun h => ?_)
          · simp at h
            have hI : (i : Int) < (n : Nat) := by omega
            have h' : i < n := by omega
            clear h
            have hi0 : (0 : Int) ≤ (i : Nat) := by omega
            have hw : IntKind.i64.wrap ((i : Nat) + 1) = (i : Nat) + 1 := wrap_i64 (by omega) (by omega)
            obtain ⟨y, hy⟩ := some_at (l := G.facts) (i := i) (by rw [hB.lf]; omega)
            have hy' := get_of hy
            obtain ⟨e1, e2, e3, e4, e5, e6⟩ := hB.at_ i y hy
            obtain ⟨q1, q2, q3⟩ := hB.lt i y hy
            obtain ⟨b1, b2, b3⟩ := hB.bd i y hy
            have e1' := get_of e1
            have e2' := get_of e2
            have e3' := get_of e3
            have e4' := get_of e4
            have e5' := get_of e5
            have e6' := get_of e6
            have e0 : ¬ j = J := by omega
            have eq0 : ¬ J = j := by omega
            have e2 : ¬ j = 1 := by omega
            have eq2 : ¬ 1 = j := by omega
            refine tr_skip ?_
            refine hK8 _ ?_; try clear hK8 K8
            refine seq_k fun K9 hK9 => ?_
            refine tr_block ?_
            refine region_k T_ok (by decide) fun K hK => ?_
            simp [go_sem, hI, hi0, h', hB.lf, hy, hy', e1, e2, e3, e4, e5, e6, e1', e2', e3', e4', e5', e6', e0, eq0, e2, eq2]
            refine hK _ ?_; clear hK K
            refine draw_k T_ok (by kernel_rfl) 76 [[], [0], [0, 1], [0, 1, 2], [], [0, 1, 2, 3, 4], [0, 1, 2, 3, 4, 5], [], [7], [0, 1, 2, 3, 4, 5, 6, 7, 8], [0, 1, 2, 3, 4, 5, 6, 7, 8, 9], [0, 1, 2, 3, 4, 5, 6, 7, 8, 9, 10], [0, 1, 2, 3, 4, 5, 6, 7, 8, 9, 10, 11], [0, 1, 2, 3, 4, 5, 6, 7, 8, 9, 10, 11, 12], [0, 1, 2, 3, 4, 5, 6, 7, 8, 9, 10, 11, 12, 13], [0, 1, 2, 3, 4, 5, 6, 7, 8, 9, 10], [0, 1, 2, 3, 4, 5, 6, 7, 8, 9, 10, 11, 12, 13, 14, 15], [0, 1, 2, 3, 4, 5, 6, 7, 8, 9, 10, 11, 12, 13, 14, 15, 16], [0, 1, 2, 3, 4, 5, 6, 7, 8, 9, 10], [0, 1, 2, 3, 4, 5, 6, 7, 8, 9, 10, 18], [0, 1, 2, 3, 4, 5, 6, 7, 8, 9, 10, 11, 12, 13, 14, 15, 16, 17, 18, 19], [0, 1, 2, 3, 4, 5, 6, 7, 8, 9, 10, 11, 12, 13, 14, 15, 16, 17, 18, 19, 20], [0, 1, 2, 3, 4, 5, 6, 7, 8, 9, 10, 11, 12, 13, 14, 15, 16, 17, 18, 19, 20, 21], [0, 1, 2, 3, 4, 5, 6, 7, 8, 9, 10, 11, 12, 13, 14, 15, 16, 17, 18, 19, 20, 21, 22], [0, 1, 2, 3, 4, 5, 6, 7, 8, 9, 10, 11, 12, 13, 14, 15, 16, 17, 18, 19, 20, 21, 22, 23], [0, 1, 2, 3, 4, 5, 6, 7, 8, 9, 10, 11, 12, 13, 14, 15, 16, 17, 18, 19, 20, 21, 22, 23, 24], [0, 1, 2, 3, 4, 5, 6, 7, 8, 9, 10, 11, 12, 13, 14, 15, 16, 17, 18, 19, 20, 21, 22, 23, 24, 25], [0, 1, 2, 3, 4, 5, 6, 7, 8, 9, 10, 11, 12, 13, 14, 15, 16, 17, 18, 19, 20, 21, 22], [0, 1, 2, 3, 4, 5, 6, 7, 8, 9, 10, 11, 12, 13, 14, 15, 16, 17, 18, 19, 20, 21, 22, 23, 24, 25, 26, 27], [0, 1, 2, 3, 4, 5, 6, 7, 8, 9, 10, 11, 12, 13, 14, 15, 16, 17, 18, 19, 20, 21, 22, 23, 24, 25, 26, 27, 28], [0, 1, 2, 3, 4, 5, 6, 7, 8, 9, 10, 11, 12, 13, 14, 15, 16, 17, 18, 19, 20, 21, 22], [0, 1, 2, 3, 4, 5, 6, 7, 8, 9, 10, 11, 12, 13, 14, 15, 16, 17, 18, 19, 20, 21, 22, 30], [0, 1, 2, 3, 4, 5, 6, 7, 8, 9, 10, 11, 12, 13, 14, 15, 16, 17, 18, 19, 20, 21, 22, 30, 31], [0, 1, 2, 3, 4, 5, 6, 7, 8, 9, 10, 11, 12, 13, 14, 15, 16, 17, 18, 19, 20, 21, 22], [0, 1, 2, 3, 4, 5, 6, 7, 8, 9, 10, 11, 12, 13, 14, 15, 16, 17, 18, 19, 20, 21, 22, 33], [0, 1, 2, 3, 4, 5, 6, 7, 8, 9, 10, 11, 12, 13, 14, 15, 16, 17, 18, 19, 20, 21, 22, 33, 34], [0, 1, 2, 3, 4, 5, 6, 7, 8, 9, 10, 11, 12, 13, 14, 15, 16, 17, 18, 19, 20, 21, 22, 30, 31, 32, 33, 34, 35], [0, 1, 2, 3, 4, 5, 6, 7, 8, 9, 10, 11, 12, 13, 14, 15, 16, 17, 18, 19, 20, 21, 22, 23, 24, 25, 26, 27, 28, 29, 30, 31, 32, 33, 34, 35, 36], [0, 1, 2, 3, 4, 5, 6, 7, 8, 9, 10, 11, 12, 13, 14, 15, 16, 17, 18, 19, 20, 21, 22, 23, 24, 25, 26, 27, 28, 29, 30, 31, 32, 33, 34, 35, 36, 37], [0, 1, 2, 3, 4, 5, 6, 7, 8, 9, 10, 11, 12, 13, 14, 15, 16, 17, 18, 19, 20, 21, 22, 23, 24, 25, 26, 27, 28, 29, 30, 31, 32, 33, 34, 35, 36, 37, 38], [0, 1, 2, 3, 4, 5, 6, 7, 8, 9, 10, 11, 12, 13, 14, 15, 16, 17, 18, 19, 20, 21, 22, 23, 24, 25, 26, 27, 28, 29, 30, 31, 32, 33, 34, 35, 36, 37, 38, 39], [0, 1, 2, 3, 4, 5, 6, 7, 8, 9, 10, 11, 12, 13, 14, 15, 16, 17, 18, 19, 20, 21, 22, 23, 24, 25, 26, 27, 28, 29, 30, 31, 32, 33, 34, 35, 36, 37, 38, 39, 40], [0, 1, 2, 3, 4, 5, 6, 7, 8, 9, 10, 11, 12, 13, 14, 15, 16, 17, 18, 19, 20, 21, 22, 23, 24, 25, 26, 27, 28, 29, 30, 31, 32, 33, 34, 35, 36, 37, 38, 39, 40, 41], [0, 1, 2, 3, 4, 5, 6, 7, 8, 9, 10, 11, 12, 13, 14, 15, 16, 17, 18, 19, 20, 21, 22, 23, 24, 25, 26, 27, 28, 29, 30, 31, 32, 33, 34, 35, 36, 37, 38, 39, 40, 41, 42], [0, 1, 2, 3, 4, 5, 6, 7, 8, 9, 10, 11, 12, 13, 14, 15, 16, 17, 18, 19, 20, 21, 22, 23, 24, 25, 26, 27, 28, 29, 30, 31, 32, 33, 34, 35, 36, 37, 38, 39], [0, 1, 2, 3, 4, 5, 6, 7, 8, 9, 10, 11, 12, 13, 14, 15, 16, 17, 18, 19, 20, 21, 22, 23, 24, 25, 26, 27, 28, 29, 30, 31, 32, 33, 34, 35, 36, 37, 38, 39, 40, 41, 42, 43, 44], [0, 1, 2, 3, 4, 5, 6, 7, 8, 9, 10, 11, 12, 13, 14, 15, 16, 17, 18, 19, 20, 21, 22, 23, 24, 25, 26, 27, 28, 29, 30, 31, 32, 33, 34, 35, 36, 37, 38, 39, 40, 41, 42, 43, 44, 45], [0, 1, 2, 3, 4, 5, 6, 7, 8, 9, 10, 11, 12, 13, 14, 15, 16, 17, 18, 19, 20, 21, 22, 23, 24, 25, 26, 27, 28, 29, 30, 31, 32, 33, 34, 35, 36, 37, 38, 39], [0, 1, 2, 3, 4, 5, 6, 7, 8, 9, 10, 11, 12, 13, 14, 15, 16, 17, 18, 19, 20, 21, 22, 23, 24, 25, 26, 27, 28, 29, 30, 31, 32, 33, 34, 35, 36, 37, 38, 39, 47], [0, 1, 2, 3, 4, 5, 6, 7, 8, 9, 10, 11, 12, 13, 14, 15, 16, 17, 18, 19, 20, 21, 22, 23, 24, 25, 26, 27, 28, 29, 30, 31, 32, 33, 34, 35, 36, 37, 38, 39, 47, 48], [0, 1, 2, 3, 4, 5, 6, 7, 8, 9, 10, 11, 12, 13, 14, 15, 16, 17, 18, 19, 20, 21, 22, 23, 24, 25, 26, 27, 28, 29, 30, 31, 32, 33, 34, 35, 36, 37, 38, 39, 40, 41, 42, 43, 44, 45, 46, 47, 48, 49], [0, 1, 2, 3, 4, 5, 6, 7, 8, 9, 10, 11, 12, 13, 14, 15, 16, 17, 18, 19, 20, 21, 22, 23, 24, 25, 26, 27, 28, 29, 30, 31, 32, 33, 34, 35, 36, 37, 38, 39, 40, 41, 42, 43, 44, 45, 46, 47, 48, 49, 50], [0, 1, 2, 3, 4, 5, 6, 7, 8, 9, 10, 11, 12, 13, 14, 15, 16, 17, 18, 19, 20, 21, 22, 23, 24, 25, 26, 27, 28, 29, 30, 31, 32, 33, 34, 35, 36, 37, 38, 39, 40, 41, 42, 43, 44, 45, 46, 47, 48, 49, 50, 51], [0, 1, 2, 3, 4, 5, 6, 7, 8, 9, 10, 11, 12, 13, 14, 15, 16, 17, 18, 19, 20, 21, 22, 23, 24, 25, 26, 27, 28, 29, 30, 31, 32, 33, 34, 35, 36, 37, 38, 39, 40, 41, 42, 43, 44, 45, 46, 47, 48, 49, 50, 51, 52], [0, 1, 2, 3, 4, 5, 6, 7, 8, 9, 10, 11, 12, 13, 14, 15, 16, 17, 18, 19, 20, 21, 22, 23, 24, 25, 26, 27, 28, 29, 30, 31, 32, 33, 34, 35, 36, 37, 38, 39, 40, 41, 42, 43, 44, 45, 46, 47, 48, 49, 50, 51, 52, 53], [0, 1, 2, 3, 4, 5, 6, 7, 8, 9, 10, 11, 12, 13, 14, 15, 16, 17, 18, 19, 20, 21, 22, 23, 24, 25, 26, 27, 28, 29, 30, 31, 32, 33, 34, 35, 36, 37, 38, 39, 40, 41, 42, 43, 44, 45, 46, 47, 48, 49, 50, 51, 52, 53, 54], [0, 1, 2, 3, 4, 5, 6, 7, 8, 9, 10, 11, 12, 13, 14, 15, 16, 17, 18, 19, 20, 21, 22, 23, 24, 25, 26, 27, 28, 29, 30, 31, 32, 33, 34, 35, 36, 37, 38, 39, 40, 41, 42, 43, 44, 45, 46, 47, 48, 49, 50, 51, 52, 53, 54, 55], [0, 1, 2, 3, 4, 5, 6, 7, 8, 9, 10, 11, 12, 13, 14, 15, 16, 17, 18, 19, 20, 21, 22, 23, 24, 25, 26, 27, 28, 29, 30, 31, 32, 33, 34, 35, 36, 37, 38, 39, 40, 41, 42, 43, 44, 45, 46, 47, 48, 49, 50, 51, 52], [0, 1, 2, 3, 4, 5, 6, 7, 8, 9, 10, 11, 12, 13, 14, 15, 16, 17, 18, 19, 20, 21, 22, 23, 24, 25, 26, 27, 28, 29, 30, 31, 32, 33, 34, 35, 36, 37, 38, 39, 40, 41, 42, 43, 44, 45, 46, 47, 48, 49, 50, 51, 52, 53, 54, 55, 56, 57], [0, 1, 2, 3, 4, 5, 6, 7, 8, 9, 10, 11, 12, 13, 14, 15, 16, 17, 18, 19, 20, 21, 22, 23, 24, 25, 26, 27, 28, 29, 30, 31, 32, 33, 34, 35, 36, 37, 38, 39, 40, 41, 42, 43, 44, 45, 46, 47, 48, 49, 50, 51, 52, 53, 54, 55, 56, 57, 58], [0, 1, 2, 3, 4, 5, 6, 7, 8, 9, 10, 11, 12, 13, 14, 15, 16, 17, 18, 19, 20, 21, 22, 23, 24, 25, 26, 27, 28, 29, 30, 31, 32, 33, 34, 35, 36, 37, 38, 39, 40, 41, 42, 43, 44, 45, 46, 47, 48, 49, 50, 51, 52], [0, 1, 2, 3, 4, 5, 6, 7, 8, 9, 10, 11, 12, 13, 14, 15, 16, 17, 18, 19, 20, 21, 22, 23, 24, 25, 26, 27, 28, 29, 30, 31, 32, 33, 34, 35, 36, 37, 38, 39, 40, 41, 42, 43, 44, 45, 46, 47, 48, 49, 50, 51, 52, 60], [0, 1, 2, 3, 4, 5, 6, 7, 8, 9, 10, 11, 12, 13, 14, 15, 16, 17, 18, 19, 20, 21, 22, 23, 24, 25, 26, 27, 28, 29, 30, 31, 32, 33, 34, 35, 36, 37, 38, 39, 40, 41, 42, 43, 44, 45, 46, 47, 48, 49, 50, 51, 52, 60, 61], [0, 1, 2, 3, 4, 5, 6, 7, 8, 9, 10, 11, 12, 13, 14, 15, 16, 17, 18, 19, 20, 21, 22, 23, 24, 25, 26, 27, 28, 29, 30, 31, 32, 33, 34, 35, 36, 37, 38, 39, 40, 41, 42, 43, 44, 45, 46, 47, 48, 49, 50, 51, 52, 53, 54, 55, 56, 57, 58, 59, 60, 61, 62], [0, 1, 2, 3, 4, 5, 6, 7, 8, 9, 10, 11, 12, 13, 14, 15, 16, 17, 18, 19, 20, 21, 22, 23, 24, 25, 26, 27, 28, 29, 30, 31, 32, 33, 34, 35, 36, 37, 38, 39, 40, 41, 42, 43, 44, 45, 46, 47, 48, 49, 50, 51, 52, 53, 54, 55, 56, 57, 58, 59, 60, 61, 62, 63], [0, 1, 2, 3, 4, 5, 6, 7, 8, 9, 10, 11, 12, 13, 14, 15, 16, 17, 18, 19, 20, 21, 22, 23, 24, 25, 26, 27, 28, 29, 30, 31, 32, 33, 34, 35, 36, 37, 38, 39, 40, 41, 42, 43, 44, 45, 46, 47, 48, 49, 50, 51, 52, 53, 54, 55, 56, 57, 58, 59, 60, 61, 62, 63, 64], [0, 1, 2, 3, 4, 5, 6, 7, 8, 9, 10, 11, 12, 13, 14, 15, 16, 17, 18, 19, 20, 21, 22, 23, 24, 25, 26, 27, 28, 29, 30, 31, 32, 33, 34, 35, 36, 37, 38, 39, 40, 41, 42, 43, 44, 45, 46, 47, 48, 49, 50, 51, 52, 53, 54, 55, 56, 57, 58, 59, 60, 61, 62, 63, 64, 65], [0, 1, 2, 3, 4, 5, 6, 7, 8, 9, 10, 11, 12, 13, 14, 15, 16, 17, 18, 19, 20, 21, 22, 23, 24, 25, 26, 27, 28, 29, 30, 31, 32, 33, 34, 35, 36, 37, 38, 39, 40, 41, 42, 43, 44, 45, 46, 47, 48, 49, 50, 51, 52, 53, 54, 55, 56, 57, 58, 59, 60, 61, 62, 63, 64, 65, 66], [0, 1, 2, 3, 4, 5, 6, 7, 8, 9, 10, 11, 12, 13, 14, 15, 16, 17, 18, 19, 20, 21, 22, 23, 24, 25, 26, 27, 28, 29, 30, 31, 32, 33, 34, 35, 36, 37, 38, 39, 40, 41, 42, 43, 44, 45, 46, 47, 48, 49, 50, 51, 52, 53, 54, 55, 56, 57, 58, 59, 60, 61, 62, 63, 64, 65, 66, 67], [0, 1, 2, 3, 4, 5, 6, 7, 8, 9, 10, 11, 12, 13, 14, 15, 16, 17, 18, 19, 20, 21, 22, 23, 24, 25, 26, 27, 28, 29, 30, 31, 32, 33, 34, 35, 36, 37, 38, 39, 40, 41, 42, 43, 44, 45, 46, 47, 48, 49, 50, 51, 52, 53, 54, 55, 56, 57, 58, 59, 60, 61, 62, 63, 64, 65, 66, 67, 68], [0, 1, 2, 3, 4, 5, 6, 7, 8, 9, 10, 11, 12, 13, 14, 15, 16, 17, 18, 19, 20, 21, 22, 23, 24, 25, 26, 27, 28, 29, 30, 31, 32, 33, 34, 35, 36, 37, 38, 39, 40, 41, 42, 43, 44, 45, 46, 47, 48, 49, 50, 51, 52, 53, 54, 55, 56, 57, 58, 59, 60, 61, 62, 63, 64, 65], [0, 1, 2, 3, 4, 5, 6, 7, 8, 9, 10, 11, 12, 13, 14, 15, 16, 17, 18, 19, 20, 21, 22, 23, 24, 25, 26, 27, 28, 29, 30, 31, 32, 33, 34, 35, 36, 37, 38, 39, 40, 41, 42, 43, 44, 45, 46, 47, 48, 49, 50, 51, 52, 53, 54, 55, 56, 57, 58, 59, 60, 61, 62, 63, 64, 65, 66, 67, 68, 69, 70], [0, 1, 2, 3, 4, 5, 6, 7, 8, 9, 10, 11, 12, 13, 14, 15, 16, 17, 18, 19, 20, 21, 22, 23, 24, 25, 26, 27, 28, 29, 30, 31, 32, 33, 34, 35, 36, 37, 38, 39, 40, 41, 42, 43, 44, 45, 46, 47, 48, 49, 50, 51, 52, 53, 54, 55, 56, 57, 58, 59, 60, 61, 62, 63, 64, 65, 66, 67, 68, 69, 70, 71], [0, 1, 2, 3, 4, 5, 6, 7, 8, 9, 10, 11, 12, 13, 14, 15, 16, 17, 18, 19, 20, 21, 22, 23, 24, 25, 26, 27, 28, 29, 30, 31, 32, 33, 34, 35, 36, 37, 38, 39, 40, 41, 42, 43, 44, 45, 46, 47, 48, 49, 50, 51, 52, 53, 54, 55, 56, 57, 58, 59, 60, 61, 62, 63, 64, 65], [0, 1, 2, 3, 4, 5, 6, 7, 8, 9, 10, 11, 12, 13, 14, 15, 16, 17, 18, 19, 20, 21, 22, 23, 24, 25, 26, 27, 28, 29, 30, 31, 32, 33, 34, 35, 36, 37, 38, 39, 40, 41, 42, 43, 44, 45, 46, 47, 48, 49, 50, 51, 52, 53, 54, 55, 56, 57, 58, 59, 60, 61, 62, 63, 64, 65, 73], [0, 1, 2, 3, 4, 5, 6, 7, 8, 9, 10, 11, 12, 13, 14, 15, 16, 17, 18, 19, 20, 21, 22, 23, 24, 25, 26, 27, 28, 29, 30, 31, 32, 33, 34, 35, 36, 37, 38, 39, 40, 41, 42, 43, 44, 45, 46, 47, 48, 49, 50, 51, 52, 53, 54, 55, 56, 57, 58, 59, 60, 61, 62, 63, 64, 65, 73, 74], [0, 1, 2, 3, 4, 5, 6, 7, 8, 9, 10, 11, 12, 13, 14, 15, 16, 17, 18, 19, 20, 21, 22, 23, 24, 25, 26, 27, 28, 29, 30, 31, 32, 33, 34, 35, 36, 37, 38, 39, 40, 41, 42, 43, 44, 45, 46, 47, 48, 49, 50, 51, 52, 53, 54, 55, 56, 57, 58, 59, 60, 61, 62, 63, 64, 65, 66, 67, 68, 69, 70, 71, 72, 73, 74, 75], [0, 1, 2, 3, 4, 5, 6, 7, 8, 9, 10, 11, 12, 13, 14, 15, 16, 17, 18, 19, 20, 21, 22, 23, 24, 25, 26, 27, 28, 29, 30, 31, 32, 33, 34, 35, 36, 37, 38, 39, 40, 41, 42, 43, 44, 45, 46, 47, 48, 49, 50, 51, 52, 53, 54, 55, 56, 57, 58, 59, 60, 61, 62, 63, 64, 65, 66, 67, 68, 69, 70, 71, 72, 73, 74, 75, 76]] [] (by decide) (by decide) (by decide) fun K hK => ?_
            first | dsimp only [List.take, List.drop] | dsimp [List.take, List.drop]
            simp [go_sem, hI, hi0, h', r1, r2, r3, r4, r5, r6, hy, hy', e1, e2, e3, e4, e5, e6, e1', e2', e3', e4', e5', e6', e0, eq0, e2, eq2]
            refine callD_of (maskO_pf y.place b1 q1) ?_
            simp [go_sem, hI, hi0, h', r1, r2, r3, r4, r5, r6, hy, hy', e1, e2, e3, e4, e5, e6, e1', e2', e3', e4', e5', e6', e0, eq0, e2, eq2]
            refine callD_of (maskO_pf y.value b2 q2) ?_
            simp [go_sem, hI, hi0, h', r1, r2, r3, r4, r5, r6, hy, hy', e1, e2, e3, e4, e5, e6, e1', e2', e3', e4', e5', e6', e0, eq0, e2, eq2]
            refine callD_of (maskO_pf y.path b3 q3) ?_
            simp [go_sem, hI, hi0, h', r1, r2, r3, r4, r5, r6, hy, hy', e1, e2, e3, e4, e5, e6, e1', e2', e3', e4', e5', e6', e0, eq0, e2, eq2]
            refine hK _ ?_; clear hK K
            refine cond_k rfl (fun h => ?_) (fun h => ?_)
            · simp at h
            · clear h
              refine tr_skip ?_
              refine hK9 _ ?_; try clear hK9 K9
              refine region_e T_ok (by decide) fun K hK => ?_
              simp [go_sem, hw]
              refine hK _ ?_; clear hK K
              refine ⟨(i + 1, j + 200), ?_, ?_, ?_⟩
              · dsimp only; omega
              · dsimp only; omega
              · refine Weaker.fzk 1 0 (by first | omega | (dsimp only; omega)) ?_ ?_ ?_
                · simp [go_sem, e0, eq0, e2, eq2]
                · first | (simp; done) | (simp; omega)
                simp [go_sem, e0, eq0, e2, eq2]
          · simp at h
            refine tr_exit ?_
            refine hK7 _ ?_; try clear hK7 K7
            refine seq_k fun K10 hK10 => ?_
            refine region_k T_ok (by decide) fun K hK => ?_
            simp [go_sem]
            refine hK _ ?_; clear hK K
            refine tr_block ?_
            refine loop_p (α := Nat × Nat) (fun q => ⟨273, [(9, .ro 15 (xopsC XS)), (14, .rp F.cs 0), (15, .ptr J 0 0), (212, .ro 1 (rlefts G.left)), (213, iV (G.left.length : Nat)), (214, iV (q.1 : Nat))], [(J, .rows 4 [.agg G.cs])], q.2⟩) (fun q => q.1 ≤ G.left.length ∧ J < q.2) (fun q => G.left.length - q.1) (0, j) ?_ ?_ ?_
            · dsimp only; omega
            · refine Weaker.fzk 1 0 (by first | omega | (dsimp only; omega)) ?_ ?_ ?_
              · simp [go_sem]
              · first | (simp; done) | (simp; omega)
              · simp [go_sem]
            rintro ⟨i, j⟩ ⟨hi, hj⟩
            dsimp only at hi hj ⊢
            refine region_k T_ok (by decide) fun K hK => ?_
            simp [go_sem]
            refine hK _ ?_; clear hK K
            refine seq_k fun K11 hK11 => ?_
            refine cond_k rfl (fun h => ?_) (fun h => ?_)
            · have hlb := hB.lb
              simp at h
              have h' : i < G.left.length := by omega
              have hI : (i : Int) < (G.left.length : Nat) := by omega
              clear h
              have hi0 : (0 : Int) ≤ (i : Nat) := by omega
              have hw : IntKind.i64.wrap ((i : Nat) + 1) = (i : Nat) + 1 := wrap_i64 (by omega) (by omega)
              obtain ⟨o, ho⟩ := some_at h'
              have ho' := get_of ho
              obtain ⟨e1, q1, b1⟩ := hB.left i o ho
              have e1' := get_of e1
              refine tr_skip ?_
              refine hK11 _ ?_; try clear hK11 K11
              refine seq_k fun K12 hK12 => ?_
              refine tr_block ?_
              refine region_k T_ok (by decide) fun K hK => ?_
              simp [go_sem, hI, hi0, h', ho, ho']
              refine hK _ ?_; clear hK K
              refine draw_k T_ok (by kernel_rfl) 19 [[], [0], [0, 1], [0, 1, 2], [0, 1, 2, 3], [], [5], [5, 6], [0, 1, 2, 3, 4, 5, 6, 7], [0, 1, 2, 3, 4, 5, 6, 7, 8], [0, 1, 2, 3, 4, 5, 6, 7, 8, 9], [0, 1, 2, 3, 4, 5, 6, 7, 8, 9, 10], [0, 1, 2, 3, 4, 5, 6, 7, 8, 9, 10, 11], [0, 1, 2, 3, 4, 5, 6, 7, 8, 9, 10, 11, 12], [0, 1, 2, 3, 4, 5, 6, 7, 8, 9], [0, 1, 2, 3, 4, 5, 6, 7, 8, 9, 10, 11, 12, 13, 14], [0, 1, 2, 3, 4, 5, 6, 7, 8, 9, 10, 11, 12, 13, 14, 15], [0, 1, 2, 3, 4, 5, 6, 7, 8, 9], [0, 1, 2, 3, 4, 5, 6, 7, 8, 9, 17], [0, 1, 2, 3, 4, 5, 6, 7, 8, 9, 10, 11, 12, 13, 14, 15, 16, 17, 18], [0, 1, 2, 3, 4, 5, 6, 7, 8, 9, 10, 11, 12, 13, 14, 15, 16, 17, 18, 19]] [] (by decide) (by decide) (by decide) fun K hK => ?_
              first | dsimp only [List.take, List.drop] | dsimp [List.take, List.drop]
              simp [go_sem, hI, hi0, h', hB.ll, e1, e1']
              refine callD_of (maskO_pf o b1 q1) ?_
              simp [go_sem]
              refine hK _ ?_; clear hK K
              refine cond_k rfl (fun h => ?_) (fun h => ?_)
              · simp at h
              · clear h
                refine tr_skip ?_
                refine hK12 _ ?_; try clear hK12 K12
                refine region_e T_ok (by decide) fun K hK => ?_
                simp [go_sem, hw]
                refine hK _ ?_; clear hK K
                refine ⟨(i + 1, j + 200), ?_, ?_, ?_⟩
                · dsimp only; omega
                · dsimp only; omega
                · refine Weaker.fzk 1 0 (by first | omega | (dsimp only; omega)) ?_ ?_ ?_
                  · simp [go_sem]
                  · first | (simp; done) | (simp; omega)
                  simp [go_sem]
            · simp at h
              refine tr_exit ?_
              refine hK10 _ ?_; try clear hK10 K10
              refine seq_k fun K13 hK13 => ?_
              refine region_k T_ok (by decide) fun K hK => ?_
              simp [go_sem]
              refine hK _ ?_; clear hK K
              refine tr_block ?_
              refine loop_p (α := Nat × Nat) (fun q => ⟨273, [(9, .ro 15 (xopsC XS)), (14, .rp F.cs 0), (15, .ptr J 0 0), (242, .ro 1 (rgss G.regs)), (243, iV (G.regs.length : Nat)), (244, iV (q.1 : Nat))], [(J, .rows 4 [.agg G.cs])], q.2⟩) (fun q => q.1 ≤ G.regs.length ∧ J < q.2) (fun q => G.regs.length - q.1) (0, j) ?_ ?_ ?_
              · dsimp only; omega
              · refine Weaker.fzk 1 0 (by first | omega | (dsimp only; omega)) ?_ ?_ ?_
                · simp [go_sem]
                · first | (simp; done) | (simp; omega)
                · simp [go_sem]
              rintro ⟨i, j⟩ ⟨hi, hj⟩
              dsimp only at hi hj ⊢
              refine region_k T_ok (by decide) fun K hK => ?_
              simp [go_sem]
              refine hK _ ?_; clear hK K
              refine seq_k fun K14 hK14 => ?_
              refine cond_k rfl (fun h => ?_) (fun h => ?_)
              · have hrb := hB.rb
                simp at h
                have h' : i < G.regs.length := by omega
                have hI : (i : Int) < (G.regs.length : Nat) := by omega
                clear h
                have hi0 : (0 : Int) ≤ (i : Nat) := by omega
                have hw : IntKind.i64.wrap ((i : Nat) + 1) = (i : Nat) + 1 := wrap_i64 (by omega) (by omega)
                obtain ⟨u, hu⟩ := some_at h'
                have hu' := get_of hu
                obtain ⟨g, hg, hgr⟩ := hB.regs i u hu
                have hg' := get_of hg
                refine tr_skip ?_
                refine hK14 _ ?_; try clear hK14 K14
                refine seq_k fun K15 hK15 => ?_
                refine tr_block ?_
                refine region_k T_ok (by decide) fun K hK => ?_
                simp [go_sem, hI, hi0, h', hu, hu']
                refine hK _ ?_; clear hK K
                refine region_k T_ok (by decide) fun K hK => ?_
                simp [go_sem]
                refine hK _ ?_; clear hK K
                refine tr_block ?_
                refine loop_p (α := Nat × Nat) (fun q => ⟨273, [(9, .ro 15 (xopsC XS)), (14, .rp F.cs 0), (15, .ptr J 0 0), (242, .ro 1 (rgss G.regs)), (243, iV (G.regs.length : Nat)), (244, iV (i : Nat)), (20, iV (i : Nat)), (249, .ro 3 (rregs u)), (250, iV 8), (251, iV (q.1 : Nat))], [(J, .rows 4 [.agg G.cs])], q.2⟩) (fun q => q.1 ≤ 8 ∧ J < q.2) (fun q => 8 - q.1) (0, j) ?_ ?_ ?_
                · dsimp only; omega
                · refine Weaker.fzk 1 0 (by first | omega | (dsimp only; omega)) ?_ ?_ ?_
                  · simp [go_sem]
                  · first | (simp; done) | (simp; omega)
                  · simp [go_sem]
                rintro ⟨r, j⟩ ⟨hr, hj⟩
                dsimp only at hr hj ⊢
                refine region_k T_ok (by decide) fun K hK => ?_
                simp [go_sem]
                refine hK _ ?_; clear hK K
                refine seq_k fun K16 hK16 => ?_
                refine cond_k rfl (fun h => ?_) (fun h => ?_)
                · simp at h
                  have hI2 : (r : Int) < 8 := by omega
                  have h2' : r < 8 := by omega
                  clear h
                  have hi2 : (0 : Int) ≤ (r : Nat) := by omega
                  have hw2 : IntKind.i64.wrap ((r : Nat) + 1) = (r : Nat) + 1 := wrap_i64 (by omega) (by omega)
                  have hra := rregs_at u h2'
                  have hb16 : r * 2 + 2 ≤ 16 := by omega
                  have e0 : ¬ j = J := by omega
                  have eq0 : ¬ J = j := by omega
                  have e2 : ¬ j = 1 := by omega
                  have eq2 : ¬ 1 = j := by omega
                  refine tr_skip ?_
                  refine hK16 _ ?_; try clear hK16 K16
                  refine seq_k fun K17 hK17 => ?_
                  refine tr_block ?_
                  refine region_k T_ok (by decide) fun K hK => ?_
                  simp [go_sem, hI2, hi2, h2', hra, e0, eq0, e2, eq2]
                  refine hK _ ?_; clear hK K
                  refine draw_k T_ok (by kernel_rfl) 14 [[], [0], [0, 1], [0, 1, 2], [], [], [0, 1, 2, 3, 4], [0, 1, 2, 3, 4, 5, 6], [0, 1, 2, 3, 4, 5, 6, 7], [], [9], [], [11], [9, 10, 11, 12], [0, 1, 2, 3, 4, 5, 6, 7, 8, 9, 10, 11, 12, 13]] [] (by decide) (by decide) (by decide) fun K hK => ?_
                  first | dsimp only [List.take, List.drop] | dsimp [List.take, List.drop]
                  simp [go_sem, hI2, hi2, h2', hI, hi0, h', hB.rl, hg, hg', hgr, hb16, e0, eq0, e2, eq2]
                  refine hK _ ?_; clear hK K
                  refine cond_k rfl (fun h => ?_) (fun h => ?_)
                  · simp at h
                  · clear h
                    refine tr_skip ?_
                    refine hK17 _ ?_; try clear hK17 K17
                    refine region_e T_ok (by decide) fun K hK => ?_
                    simp [go_sem, hw2]
                    refine hK _ ?_; clear hK K
                    refine ⟨(r + 1, j + 200), ?_, ?_, ?_⟩
                    · dsimp only; omega
                    · dsimp only; omega
                    · refine Weaker.fzk 1 0 (by first | omega | (dsimp only; omega)) ?_ ?_ ?_
                      · simp [go_sem, e0, eq0, e2, eq2]
                      · first | (simp; done) | (simp; omega)
                      simp [go_sem, e0, eq0, e2, eq2]
                · simp at h
                  obtain rfl : r = 8 := by omega
                  refine tr_exit ?_
                  refine hK15 _ ?_; try clear hK15 K15
                  refine region_e T_ok (by decide) fun K hK => ?_
                  simp [go_sem, hw]
                  refine hK _ ?_; clear hK K
                  refine ⟨(i + 1, j), ?_, ?_, ?_⟩
                  · dsimp only; omega
                  · dsimp only; omega
                  · refine Weaker.fzk 1 0 (by first | omega | (dsimp only; omega)) ?_ ?_ ?_
                    · simp [go_sem]
                    · first | (simp; done) | (simp; omega)
                    simp [go_sem]
              · simp at h
                refine tr_exit ?_
                refine hK13 _ ?_; try clear hK13 K13
                refine region_k T_ok (by decide) fun K hK => ?_
                simp [go_sem]
                refine hK _ ?_; clear hK K
                refine tr_ret ⟨.inr rfl, ?_⟩
                simp [go_sem]

end Go.Proofs.Ytokdphmnlcmbbaa
/- What the readings of litmus tests say. -/
namespace Go.Proofs.Ytokdphmnlcmbbaa
open Go Go.Sl Go.Proofs.Try

theorem ownKnob16 : ownKnob Try.prog.godebug = none := by kernel_rfl
theorem laidOut16 : laidOutB Try.prog = true := by kernel_rfl
theorem ImpAs.to {P : Program} {t : TypeId} {α β : Type} {ok : α → Prop} {f : α → List V} {ok' : β → Prop} {f' : β → List V} (φ : α → β) (h : ImpAs P t ok f) (hok : ∀ a, ok a → ok' (φ a)) (hs : ∀ a, ok a → SeenAll (f a) (f' (φ a))) (hnl : ∀ b, NLs (f' b))
    (hone : ∀ b, (f' b).all V.one = true) (hlen : ∀ b, (f' b).length = P.cellsOf t) : ImpAs P t ok' f' where
  nl := hnl
  one b _ := hone b
  len b _ := hlen b
  imp hr := by
    obtain ⟨a, ha, hv⟩ := h.imp hr
    exact ⟨φ a, hok a ha, (hs a ha).rels hv⟩

/-- a slice, nil or not -/
theorem imp_list {P : Program} {t e : TypeId} {α : Type} {ok : α → Prop} {f : α → List V} {sz : Nat} (el : α → V) (ht : P.underlying t = some (.slice e)) (hc : P.cellsOf t = 1) (hsz : P.cellsOf e = sz) (hpos : 0 < sz) (hel : ∀ a, (el a).cells = f a) (hnl : ∀ a, NLs (el a).cells)
    (h : ImpAs P e ok f) : ImpAs P t (fun l : List α => l.length ≤ maxLen ∧ ∀ a ∈ l, ok a) fun l => [V.ro sz (l.map el)] :=
  ImpAs.to (fun o : Option (List α) => o.getD []) (imp_slice el ht hc hsz hpos (fun a _ => hel a) hnl h)
    (fun o ho => by cases o with | none => exact ⟨Nat.zero_le _, fun a ha => absurd ha (List.not_mem_nil)⟩ | some l => exact ho l rfl)
    (fun o ho => .cons (seen_slice sz el o) .nil)
    (fun l => .cons (.ro fun v hv => by obtain ⟨a, _, rfl⟩ := List.mem_map.1 hv; exact hnl a) .nil) (fun l => rfl) (fun l => hc.symm)

theorem iI : ImpAs Try.prog 3 (fun n : Int => (Lit.int .i64 n).wf = true) fun n => [.val (.int .i64 n)] := imp_int Try.underlying3 (by kernel_rfl)
theorem iB : ImpAs Try.prog 4 (fun _ : Bool => True) fun b => [.val (.bool b)] := imp_bool Try.underlying4 (by kernel_rfl)
theorem iU : ImpAs Try.prog 22 (fun n : Int => (Lit.int .u64 n).wf = true) fun n => [.val (.int .u64 n)] := imp_int Try.underlying22 (by kernel_rfl)
set_option maxRecDepth 100000 in
theorem imp_arg : ImpAs Try.prog 27 (fun p : Bool × Int => True ∧ (Lit.int .u64 p.2).wf = true) fun p => [.val (.bool p.1)] ++ [.val (.int .u64 p.2)] :=
  imp_struct (tot := 2) Try.underlying27 (by kernel_rfl) (impF_cons rfl (o' := 1) (by kernel_rfl) (imp_bool Try.underlying4 (by kernel_rfl)) (impF_last rfl (by kernel_rfl) (imp_int Try.underlying22 (by kernel_rfl))))

set_option maxRecDepth 100000 in
theorem imp_ins : ImpAs Try.prog 32 (fun _ : Ins => True) Ins.cs :=
  ImpAs.to (fun p : Int × Int × Int × (Bool × Int) × (Bool × Int) × Bool × Bool × Int × Int × Int × Int => ⟨p.1, p.2.1, p.2.2.1, p.2.2.2.1.1, p.2.2.2.1.2, p.2.2.2.2.1.1, p.2.2.2.2.1.2, p.2.2.2.2.2.1, p.2.2.2.2.2.2.1, p.2.2.2.2.2.2.2.1, p.2.2.2.2.2.2.2.2.1, p.2.2.2.2.2.2.2.2.2.1, p.2.2.2.2.2.2.2.2.2.2⟩)
    (imp_struct (tot := 13) Try.underlying32 (by kernel_rfl) (impF_cons rfl (o' := 1) (by kernel_rfl) iI (impF_cons rfl (o' := 2) (by kernel_rfl) iI (impF_cons rfl (o' := 3) (by kernel_rfl) iI (impF_cons rfl (o' := 5) (by kernel_rfl) imp_arg (impF_cons rfl (o' := 7) (by kernel_rfl) imp_arg (impF_cons rfl (o' := 8) (by kernel_rfl) iB (impF_cons rfl (o' := 9) (by kernel_rfl) iB (impF_cons rfl (o' := 10) (by kernel_rfl) iI (impF_cons rfl (o' := 11) (by kernel_rfl) iI (impF_cons rfl (o' := 12) (by kernel_rfl) iI (impF_last rfl (by kernel_rfl) iI))))))))))))
    (fun _ _ => trivial) (fun p _ => SeenAll.refl _) nl_ins (fun _ => rfl) (fun _ => by kernel_rfl)

set_option maxRecDepth 100000 in
theorem imp_atm : ImpAs Try.prog 100 (fun _ : Atm => True) Atm.cs :=
  ImpAs.to (fun p : Int × Int × Int => ⟨p.1, p.2.1, p.2.2⟩)
    (imp_struct (tot := 3) Try.underlying100 (by kernel_rfl) (impF_cons rfl (o' := 1) (by kernel_rfl) iI (impF_cons rfl (o' := 2) (by kernel_rfl) iI (impF_last rfl (by kernel_rfl) iU))))
    (fun _ _ => trivial) (fun p _ => SeenAll.refl _) nl_atm (fun _ => rfl) (fun _ => by kernel_rfl)

def iniOk (x : Ini) : Prop := x.name.size ≤ 9223372036854775807
set_option maxRecDepth 100000 in
theorem imp_ini : ImpAs Try.prog 29 iniOk Ini.cs :=
  ImpAs.to (fun p : ByteArray × Int => ⟨p.1, p.2⟩)
    (imp_struct (tot := 2) Try.underlying29 (by kernel_rfl) (impF_cons rfl (o' := 1) (by kernel_rfl) (imp_string Try.underlying9 (by kernel_rfl)) (impF_last rfl (by kernel_rfl) iU)))
    (fun p h => h.1) (fun p _ => SeenAll.refl _) nl_ini (fun _ => rfl) (fun _ => by kernel_rfl)

theorem imp_inis : ImpAs Try.prog 30 (fun l : List Ini => l.length ≤ maxLen ∧ ∀ a ∈ l, iniOk a) fun l => [V.ro 2 (inis l)] := imp_list iniC Try.underlying30 (by kernel_rfl) (by kernel_rfl) (by omega) (fun _ => rfl) nl_ini imp_ini
theorem imp_atms : ImpAs Try.prog 35 (fun l : List Atm => l.length ≤ maxLen ∧ ∀ a ∈ l, True) fun l => [V.ro 3 (atms l)] := imp_list atmC Try.underlying35 (by kernel_rfl) (by kernel_rfl) (by omega) (fun _ => rfl) nl_atm imp_atm
theorem imp_inss : ImpAs Try.prog 33 (fun l : List Ins => l.length ≤ maxLen ∧ ∀ a ∈ l, True) fun l => [V.ro 13 (inss l)] := imp_list insC Try.underlying33 (by kernel_rfl) (by kernel_rfl) (by omega) (fun _ => rfl) nl_ins imp_ins
theorem imp_thrs : ImpAs Try.prog 34 (fun l : List (List Ins) => l.length ≤ maxLen ∧ ∀ a ∈ l, a.length ≤ maxLen ∧ ∀ b ∈ a, True) fun l => [V.ro 1 (thrs l)] :=
  imp_list (fun x => .ro 13 (inss x)) Try.underlying34 (by kernel_rfl) (by kernel_rfl) (by omega) (fun _ => rfl) (fun x => .cons (nl_inss x) .nil) imp_inss

def tstOk (t : Tst) : Prop := ∀ l ∈ t.locs, iniOk l
set_option maxRecDepth 100000 in
theorem imp_tst : ImpAs Try.prog 37 tstOk Tst.cs :=
  ImpAs.to (fun p : List Ini × List (List Ins) × List Atm => ⟨p.1, p.2.1, p.2.2⟩)
    (imp_struct (tot := 3) Try.underlying37 (by kernel_rfl) (impF_cons rfl (o' := 1) (by kernel_rfl) imp_inis (impF_cons rfl (o' := 2) (by kernel_rfl) imp_thrs (impF_last rfl (by kernel_rfl) imp_atms))))
    (fun p h => h.1.2) (fun p _ => SeenAll.refl _) nl_tst (fun _ => rfl) (fun _ => by kernel_rfl)

end Go.Proofs.Ytokdphmnlcmbbaa
