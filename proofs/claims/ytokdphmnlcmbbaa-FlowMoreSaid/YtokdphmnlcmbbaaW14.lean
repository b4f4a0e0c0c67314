/- What threads do: the steps of Of. -/
import Derived.Test.YtokdphmnlcmbbaaW13
set_option linter.unusedVariables false
set_option linter.unusedSimpArgs false
namespace Go.Proofs.Ytokdphmnlcmbbaa
open Go Go.Sl

def wkI (b : Nat) : Wk := { regs := fun r => ⟨decide (r < b), 0⟩, hangs := fun _ => 0, path := 0, left := 0, lr := 0, lrLoc := 0 }
@[go_sem high] theorem wkI_zero (f : V) : V.agg [f, bV false, uV 0, bV false, uV 0, bV false, uV 0, bV false, uV 0, bV false, uV 0, bV false, uV 0, bV false, uV 0, bV false, uV 0, uV 0, uV 0, uV 0, uV 0, uV 0, uV 0, uV 0, uV 0, uV 0, uV 0, iV 0, iV 0] = .agg (wkC f (wkI 0)) := Eq.trans rfl rfl
theorem wkI_step (f : V) (b : Nat) : wkC f { regs := fun q => if q = b then ⟨true, ((wkI b).regs b).v⟩ else (wkI b).regs q, hangs := (wkI b).hangs, path := (wkI b).path, left := (wkI b).left, lr := (wkI b).lr, lrLoc := (wkI b).lrLoc } = wkC f (wkI (b + 1)) := by
  congr 1
  unfold wkI
  simp only [Wk.mk.injEq, and_true]
  funext q
  by_cases h : q = b
  · subst h; simp
  · rw [if_neg h]
    simp only [Vl.mk.injEq, and_true]
    rw [Bool.eq_iff_iff, decide_eq_true_eq, decide_eq_true_eq]; omega
theorem wk_one {f : V} {x : Wk} (hf : f.one = true) : ∀ c ∈ wkC f x, c.one = true := (fits_iff.1 (wk_fits (x := x) hf)).2
theorem regs_one (g : Nat → Vl) : ∀ c ∈ regsC g, c.one = true := (fits_iff.1 (regsC_fits (g := g))).2
theorem wkI_8 (f : V) : wkC f (wkI 8) = wkC f w0 := rfl
def allP (g : Nat → Vl) (b : Nat) : Bool := (List.range b).all fun r => (g r).k
theorem allP_zero (g : Nat → Vl) : allP g 0 = true := rfl
theorem allP_step (g : Nat → Vl) (b : Nat) : allP g (b + 1) = (allP g b && (g b).k) := by unfold allP; rw [List.range_succ, List.all_append]; simp
theorem allP_8 (g : Nat → Vl) : allP g 8 = allK g := rfl
def whP (s r : Bool) (g : Nat → Vl) (b : Nat) : Bool := s && r && allP g b
theorem whP_zero (s r : Bool) (g : Nat → Vl) : whP s r g 0 = (s && r) := by simp [whP, allP_zero]
theorem whP_step (s r : Bool) (g : Nat → Vl) (b : Nat) : whP s r g (b + 1) = (whP s r g b && (g b).k) := by simp [whP, allP_step, Bool.and_assoc]
theorem whP_8 (s r : Bool) (g : Nat → Vl) : whP s r g 8 = (s && r && allK g) := rfl
/-- the number of the next Op -/
def kP (k : Nat) (l : List Ins) (b : Nat) : Nat := k + memL (l.take b)
theorem kP_zero (k : Nat) (l : List Ins) : kP k l 0 = k := by simp [kP, memL]
theorem memL_take {l : List Ins} {b : Nat} {x : Ins} (h : l[b]? = some x) : memL (l.take (b + 1)) = memL (l.take b) + if memI x then 1 else 0 := by
  unfold memL
  rw [takeAt h, List.countP_append, List.countP_cons]
  simp
theorem kP_yes {k : Nat} {l : List Ins} {b : Nat} {x : Ins} (h : l[b]? = some x) (hm : memI x = true) : kP k l (b + 1) = kP k l b + 1 := by unfold kP; rw [memL_take h, if_pos hm]; omega
theorem kP_no {k : Nat} {l : List Ins} {b : Nat} {x : Ins} (h : l[b]? = some x) (hm : memI x = false) : kP k l (b + 1) = kP k l b := by unfold kP; rw [memL_take h, hm]; simp
theorem kP_all (k : Nat) (l : List Ins) : kP k l l.length = k + memL l := by unfold kP; rw [List.take_length]
theorem kP_le (k : Nat) (l : List Ins) (b : Nat) : kP k l b ≤ k + l.length := by
  unfold kP
  have := memL_le (l.take b)
  rw [List.length_take] at this; omega

theorem runT_ok {m : Nat} {reads : List Vl} {works : List Bool} : ∀ (i : Nat) (l : List Ins) (s : Ts), FlOk m s.f → FlOk m (runT reads works i l s).1.f
  | _, [], _, h => h
  | i, x :: l, s, h => by
    unfold runT
    split
    · exact runT_ok (i + 1) l _ (stepT_ok h)
    · exact stepT_ok h
theorem stepO_ok {m : Nat} {reads : List Vl} {works : List Bool} {l : List Ins} {s : Os'} (h : FlOk m s.f) : FlOk m (stepO reads works l s).f := runT_ok _ _ _ h
theorem f0_ok (n : Nat) : FlOk n (f0 n) := ⟨by simp [f0], by simp [f0], by simp [f0], by simp [f0], by simp [f0], by simp [f0]⟩
def leftOps (t : Tst) (i : Nat) : Nat := ((t.ths.drop i).map memL).sum
theorem leftOps_step {t : Tst} {i : Nat} {l : List Ins} (h : t.ths[i]? = some l) : leftOps t i = memL l + leftOps t (i + 1) := by unfold leftOps; rw [drop_cons h]; simp
theorem runO_step {t : Tst} {reads : List Vl} {works : List Bool} {i : Nat} {l : List Ins} {s : Os'} (h : t.ths[i]? = some l) : runO reads works (t.ths.drop i) s = runO reads works (t.ths.drop (i + 1)) (stepO reads works l s) := by rw [drop_cons h, runO]
@[go_sem] theorem regsRows_len (l : List (Nat → Vl)) : (regsRows l).length = l.length := List.length_map ..
@[go_sem] theorem regsRows_take (l : List (Nat → Vl)) (n : Nat) : (regsRows l).take n = regsRows (l.take n) := (List.map_take ..).symm
theorem regsRows_append (l : List (Nat → Vl)) (g : Nat → Vl) : regsRows l ++ [V.agg (regsC g)] = regsRows (l ++ [g]) := by simp [regsRows]
theorem regsRows_nil : regsRows [] = [] := rfl
@[go_sem] theorem uVs_take (l : List Int) (n : Nat) : (uVs l).take n = uVs (l.take n) := (List.map_take ..).symm
@[go_sem] theorem iVs_take (l : List Int) (n : Nat) : (iVs l).take n = iVs (l.take n) := (List.map_take ..).symm
@[go_sem] theorem vls_take (l : List Vl) (n : Nat) : (vls l).take n = vls (l.take n) := (List.map_take ..).symm
theorem uVs_append (l : List Int) (n : Int) : uVs l ++ [uV n] = uVs (l ++ [n]) := by simp [uVs]
theorem uVs_nil : uVs [] = [] := rfl
theorem nl_rows (l : List (Nat → Vl)) : NL (.ro 16 (regsRows l)) := .ro fun v hv => by obtain ⟨g, _, rfl⟩ := List.mem_map.1 hv; exact nl_regs g
theorem nl_flow (s : Os') : NL (.rp s.cs 0) := .rp (.cons (nl_iVs _) (.cons (nl_vls _) (.cons (nl_iVs _) (.cons (nl_uVs _) (.cons (nl_uVs _) (.cons (nl_uVs _) (.cons (nl_uVs _) (.cons (nl_rows _) (.cons (.val _) .nil)))))))))
end Go.Proofs.Ytokdphmnlcmbbaa
