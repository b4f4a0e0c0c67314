/- Texts put together, in order: Goutb, Gtsoe, Gtsof, Gseqe, Gtsog, Gseqf, Gtsoh, Gtsoi, Glitd, Glite, Glitc, Glitf, Gtsoj, Glitj, Gtsok, Gtsol, Gtsom, Gtson, Gseqg, Gseqi, Gclitr, Gclitw. -/
import Derived.Test.YtflooghnoljpcaaRows
import Derived.Test.YtflooghnoljpcaaChecked
import Derived.KernelRfl
import Derived.Test.YtflooghnoljpcaaM4
set_option linter.unusedVariables false
set_option linter.unusedSimpArgs false
namespace Go.Proofs.Ytflooghnoljpcaa
open Go Go.Sl Go.Proofs.Try
set_option maxHeartbeats 4000000 in
theorem slots_pf (t : Tst) (ht : t.ths.length ≤ 1000) (hl : ∀ x ∈ t.ths, x.length ≤ 1000) (hr : ∀ l ∈ t.ths, ∀ x ∈ l, setB x.op = true → 0 ≤ x.rd ∧ x.rd < 8) (hlo : t.locs.length ≤ 1000) : Pf Try.prog 69 [.rp t.cs 0] (.ro 2 (sloV (slotsT t))) := by
 refine Pf.of_fz 1 (.cons (nl_rp t) .nil) (nl_slo _) ?_
 refine fn_in T_ok func69 rfl rfl ntmps69 rfl (by simp) ?_
 refine region_k T_ok (by decide) fun K hK => ?_
 simp [go_sem]
 refine hK _ ?_; clear hK K
 refine region_k T_ok (by decide) fun K hK => ?_
 simp [go_sem]
 refine hK _ ?_; clear hK K
 refine seq_k fun K1 hK1 => ?_
 refine region_k T_ok (by decide) fun K hK => ?_
 simp [go_sem, Tst.cs]
 refine hK _ ?_; clear hK K
 refine tr_block ?_
 refine Tr.weaken (Weaker.ghost 3 2 rfl) ?_
 refine loop_p (α := Nat × Nat × Nat) (fun a => ⟨47, [(0, .rp t.cs 0), (11, .ro 1 (thrs t.ths)), (12, iV (t.ths.length : Nat)), (13, iV (a.1 : Nat)), (3, .sl a.2.1 0 (slO t.ths a.1).length)], [(a.2.1, .rows 2 (sloV (slO t.ths a.1)))], a.2.1 + a.2.2 + 1⟩) (fun a => a.1 ≤ t.ths.length) (fun a => t.ths.length - a.1) (0, 0, 0) ?_ ?_ ?_
 ·dsimp only; omega
 ·refine Weaker.fz 1 0 ?_ ?_ ?_
  ·simp [go_sem, slO_zero, Tst.cs]
  ·first | (simp; done) | (simp; omega)
  ·simp [go_sem, slO_zero, sloV_nil]
 rintro ⟨i, r, c⟩ hi
 dsimp only at hi ⊢
 refine region_k T_ok (by decide) fun K hK => ?_
 simp [go_sem]
 refine hK _ ?_; clear hK K
 refine seq_k fun K2 hK2 => ?_
 refine cond_k rfl (fun h => ?_) (fun h => ?_)
 ·simp at h
  have hI := h
  clear h
  have h' : i < (t.ths).length := by omega
  obtain ⟨l, hx, hx'⟩ := getAt h'
  have hi0 : (0 : Int) ≤ (i : Nat) := by omega
  have hlm := List.mem_of_getElem? hx
  have hw : IntKind.i64.wrap ((i : Nat) + 1) = (i : Nat) + 1 := wrap_i64 (by omega) (by omega)
  refine tr_skip ?_
  refine hK2 _ ?_; try clear hK2 K2
  refine seq_k fun K3 hK3 => ?_
  refine tr_block ?_
  refine region_k T_ok (by decide) fun K hK => ?_
  simp [go_sem]
  refine hK _ ?_; clear hK K
  refine region_k T_ok (by decide) fun K hK => ?_
  simp [go_sem]
  refine call_pf (regs_pf t i l hx (hl l hlm) (hr l hlm)) ?_
  simp [go_sem]
  refine hK _ ?_; clear hK K
  refine tr_block ?_
  refine loop_p (α := Nat × Nat × Nat) (fun b => ⟨47, [(0, .rp t.cs 0), (11, .ro 1 (thrs t.ths)), (12, iV (t.ths.length : Nat)), (13, iV (i : Nat)), (4, iV (i : Nat)), (18, .ro 1 (natV (upTo (setR l) 8))), (19, iV ((upTo (setR l) 8).length : Nat)), (20, iV (b.1 : Nat)), (3, .sl b.2.1 0 (slP t.ths i l b.1).length)], [(b.2.1, .rows 2 (sloV (slP t.ths i l b.1)))], b.2.1 + b.2.2 + 1⟩) (fun b => b.1 ≤ (upTo (setR l) 8).length) (fun b => (upTo (setR l) 8).length - b.1) (0, r, c) ?_ ?_ ?_
  ·dsimp only; omega
  ·refine Weaker.fz 1 0 ?_ ?_ ?_
   ·simp [go_sem, slP_zero]
   ·first | (simp; done) | (simp; omega)
   ·simp [go_sem, slP_zero]
  rintro ⟨b, r, c⟩ hib
  dsimp only at hib ⊢
  refine region_k T_ok (by decide) fun K hK => ?_
  simp [go_sem]
  refine hK _ ?_; clear hK K
  refine seq_k fun K4 hK4 => ?_
  refine cond_k rfl (fun h => ?_) (fun h => ?_)
  ·have hul := upTo_len (setR l) 8
   simp at h
   have hI2 := h
   clear h
   have h'2 : b < ((upTo (setR l) 8)).length := by omega
   obtain ⟨m, hx2, hx'2⟩ := getAt h'2
   have hi02 : (0 : Int) ≤ (b : Nat) := by omega
   have hw2 : IntKind.i64.wrap ((b : Nat) + 1) = (b : Nat) + 1 := wrap_i64 (by omega) (by omega)
   have hpl := slP_len t.ths i l b
   refine tr_skip ?_
   refine hK4 _ ?_; try clear hK4 K4
   refine seq_k fun K5 hK5 => ?_
   refine tr_block ?_
   refine region_k T_ok (by decide) fun K hK => ?_
   simp [go_sem, hI2, hx2, hx'2, hi02, h'2]
   refine hK _ ?_; clear hK K
   refine region_e T_ok (by decide) fun K hK => ?_
   simp [go_sem]
   refine ⟨by omega, ?_⟩
   refine hK _ ?_; clear hK K
   refine hK5 _ ?_; try clear hK5 K5
   refine region_e T_ok (by decide) fun K hK => ?_
   simp [go_sem, hw2]
   refine hK _ ?_; clear hK K
   refine ⟨(b + 1, r + c + 2, 0), ?_, ?_, ?_⟩
   ·dsimp only; omega
   ·dsimp only; omega
   ·refine Weaker.fz 1 0 ?_ ?_ ?_
    ·simp [go_sem, slP_step hx2]
    ·first | (simp; done) | (simp; omega)
    simp [go_sem, slP_step hx2, sloV_append]
  ·simp at h
   obtain rfl : b = (upTo (setR l) 8).length := by omega
   refine tr_exit ?_
   refine hK3 _ ?_; try clear hK3 K3
   refine region_e T_ok (by decide) fun K hK => ?_
   simp [go_sem, hw]
   refine hK _ ?_; clear hK K
   refine ⟨(i + 1, r, c), ?_, ?_, ?_⟩
   ·dsimp only; omega
   ·dsimp only; omega
   ·refine Weaker.fz 1 0 ?_ ?_ ?_
    ·simp [go_sem, slP_all hx]
    ·first | (simp; done) | (simp; omega)
    simp [go_sem, slP_all hx]
 ·simp at h
  obtain rfl : i = t.ths.length := by omega
  refine tr_exit ?_
  refine hK1 _ ?_; try clear hK1 K1
  refine seq_k fun K6 hK6 => ?_
  refine region_k T_ok (by decide) fun K hK => ?_
  simp [go_sem, Tst.cs]
  refine hK _ ?_; clear hK K
  refine tr_block ?_
  refine loop_p (α := Nat × Nat × Nat) (fun a => ⟨47, [(0, .rp t.cs 0), (36, iV (t.locs.length : Nat)), (37, iV (a.1 : Nat)), (3, .sl a.2.1 0 (slQ t a.1).length)], [(a.2.1, .rows 2 (sloV (slQ t a.1)))], a.2.1 + a.2.2 + 1⟩) (fun a => a.1 ≤ t.locs.length) (fun a => t.locs.length - a.1) (0, r, c) ?_ ?_ ?_
  ·dsimp only; omega
  ·refine Weaker.fz 1 0 ?_ ?_ ?_
   ·simp [go_sem, slO_all, Tst.cs]
   ·first | (simp; done) | (simp; omega)
   ·simp [go_sem, slO_all]
  rintro ⟨b, r, c⟩ hib
  dsimp only at hib ⊢
  refine region_k T_ok (by decide) fun K hK => ?_
  simp [go_sem]
  refine hK _ ?_; clear hK K
  refine seq_k fun K7 hK7 => ?_
  refine cond_k rfl (fun h => ?_) (fun h => ?_)
  ·simp at h
   have hql := slQ_len t b
   have hw3 : IntKind.i64.wrap ((b : Nat) + 1) = (b : Nat) + 1 := wrap_i64 (by omega) (by omega)
   refine tr_skip ?_
   refine hK7 _ ?_; try clear hK7 K7
   refine seq_k fun K8 hK8 => ?_
   refine tr_block ?_
   refine region_k T_ok (by decide) fun K hK => ?_
   simp [go_sem]
   refine hK _ ?_; clear hK K
   refine region_e T_ok (by decide) fun K hK => ?_
   simp [go_sem]
   refine ⟨by omega, ?_⟩
   refine hK _ ?_; clear hK K
   refine hK8 _ ?_; try clear hK8 K8
   refine region_e T_ok (by decide) fun K hK => ?_
   simp [go_sem, hw3]
   refine hK _ ?_; clear hK K
   refine ⟨(b + 1, r + c + 2, 0), ?_, ?_, ?_⟩
   ·dsimp only; omega
   ·dsimp only; omega
   ·refine Weaker.fz 1 0 ?_ ?_ ?_
    ·simp [go_sem, slQ_step]
    ·first | (simp; done) | (simp; omega)
    simp [go_sem, slQ_step, sloV_append]
  ·simp at h
   obtain rfl : b = t.locs.length := by omega
   refine tr_exit ?_
   refine hK6 _ ?_; try clear hK6 K6
   refine region_k T_ok (by decide) fun K hK => ?_
   simp [go_sem]
   refine hK _ ?_; clear hK K
   refine tr_ret ⟨.inr rfl, ?_⟩
   simp [go_sem, slQ_all, List.take_of_length_le]
set_option maxHeartbeats 4000000 in
theorem made_pf (t : Tst) (ht : t.ths.length ≤ 4) (hl : ∀ x ∈ t.ths, x.length ≤ 1000) (hr : ∀ l ∈ t.ths, ∀ x ∈ l, setB x.op = true → 0 ≤ x.rd ∧ x.rd < 8) (hlo : t.locs.length ≤ 8) (g : List (Nat → Int)) (hg : g.length = t.ths.length) (f : Nat → Int) : Pf Try.prog 114 [.rp t.cs 0, .ro 8 (usRows g), .agg (hangC f)] (.agg (stK (madeK t g f))) := by
 refine Pf.of_fz 1 (.cons (nl_rp t) (.cons (nl_usRows g) (.cons (.agg (nl_hang f)) .nil))) (.agg (nl_stK _)) ?_
 have hs40 := slotsT_len ht hlo
 have hml := madeL_len t g f
 have hslots := slots_pf t (by omega) hl hr (by omega)
 refine fn_in T_ok func114 rfl rfl ntmps114 rfl (by simp) ?_
 refine region_k T_ok (by decide) fun K hK => ?_
 simp [go_sem, uVs_zeros40]
 refine hK _ ?_; clear hK K
 refine region_k T_ok (by decide) fun K hK => ?_
 simp [go_sem, uVs_zeros40]
 refine hK _ ?_; clear hK K
 refine seq_k fun K1 hK1 => ?_
 refine region_k T_ok (by decide) fun K hK => ?_
 simp [go_sem]
 refine call_pf hslots ?_
 simp [go_sem]
 refine hK _ ?_; clear hK K
 refine tr_block ?_
 refine loop_p (α := Nat × Nat) (fun a => ⟨46, [(1, .ro 8 (usRows g)), (5, .ptr 0 0 0), (6, .ptr 1 0 0), (7, .ptr 2 0 0), (11, .ro 2 (sloV (slotsT t))), (12, iV ((slotsT t).length : Nat)), (13, iV (a.1 : Nat))], [(2, .rows 41 [.agg (iV (a.1 : Nat) :: uVs (padT ((madeL t g f).take a.1)))]), (0, .rows 8 [.agg (hangC f)]), (1, .rows 41 [.agg (iV 0 :: uVs (List.replicate 40 0))])], a.2⟩) (fun a => a.1 ≤ (slotsT t).length ∧ 2 < a.2) (fun a => (slotsT t).length - a.1) (0, 3) ?_ ?_ ?_
 ·dsimp only; omega
 ·refine Weaker.fzk 1 0 (by first | omega | (dsimp only; omega)) ?_ ?_ ?_
  ·simp [go_sem]
  ·first | (simp; done) | (simp; omega)
  ·simp [go_sem, padT, uVs]
 rintro ⟨i, j⟩ ⟨hi, hj⟩
 dsimp only at hi hj ⊢
 refine region_k T_ok (by decide) fun K hK => ?_
 simp [go_sem]
 refine hK _ ?_; clear hK K
 refine seq_k fun K2 hK2 => ?_
 refine cond_k rfl (fun h => ?_) (fun h => ?_)
 ·simp at h
  have hI := h
  clear h
  have h' : i < (slotsT t).length := by omega
  obtain ⟨p, hx, hx'⟩ := getAt h'
  have hi0 : (0 : Int) ≤ (i : Nat) := by omega
  obtain ⟨a, b⟩ := p
  have hmem := slots_mem (List.mem_of_getElem? hx)
  have hm : (madeL t g f)[i]? = some (madeN g f (a, b)) := by unfold madeL; rw [List.getElem?_map, hx]; rfl
  have hpl : (padT ((madeL t g f).take i)).length = 40 := padT_len (by rw [List.length_take]; omega)
  have hi40 : i < 40 := by omega
  have hI40 : (i : Int) < 40 := by omega
  have hst := padT_step hm (by omega)
  have hw : IntKind.i64.wrap ((i : Nat) + 1) = (i : Nat) + 1 := wrap_i64 (by omega) (by omega)
  have e0 : ¬ j = 0 := by omega
  have eq0 : ¬ 0 = j := by omega
  have e2 : ¬ j = 1 := by omega
  have eq2 : ¬ 1 = j := by omega
  have e4 : ¬ j = 2 := by omega
  have eq4 : ¬ 2 = j := by omega
  refine tr_skip ?_
  refine hK2 _ ?_; try clear hK2 K2
  refine seq_k fun K3 hK3 => ?_
  refine tr_block ?_
  refine region_k T_ok (by decide) fun K hK => ?_
  simp [go_sem, hI, hx, hx', hi0, h', e0, eq0, e2, eq2, e4, eq4]
  refine hK _ ?_; clear hK K
  refine seq_to ⟨46, [(1, .ro 8 (usRows g)), (5, .ptr 0 0 0), (6, .ptr 1 0 0), (7, .ptr 2 0 0), (11, .ro 2 (sloV (slotsT t))), (12, iV ((slotsT t).length : Nat)), (13, iV (i : Nat))], [(2, .rows 41 [.agg (iV (i : Nat) :: uVs (padT ((madeL t g f).take (i + 1))))]), (0, .rows 8 [.agg (hangC f)]), (1, .rows 41 [.agg (iV 0 :: uVs (List.replicate 40 0))])], j + 40⟩ ?_ ?_
  ·skip
   refine region_k T_ok (by decide) fun K hK => ?_
   simp [go_sem, e0, eq0, e2, eq2, e4, eq4]
   refine hK _ ?_; clear hK K
   refine cond_k rfl (fun h => ?_) (fun h => ?_)
   ·have ha : a < 0 := by simpa using h
    obtain ⟨n, hn, hn8⟩ : ∃ n : Nat, b = n ∧ n < 8 := by
     rcases hmem with ⟨n, hn, h2⟩ | ⟨q, r, hn, h2, h3⟩
     ·cases hn; exact ⟨n, rfl, by omega⟩
     ·cases hn; omega
    subst hn
    have hnI : (n : Int) < 8 := by omega
    have hn0 : (0 : Int) ≤ (n : Nat) := by omega
    have hmv : madeN g f (a, (n : Int)) = f n := by simp [madeN, ha]
    rw [hmv] at hst
    refine draw_e T_ok (by kernel_rfl) 7 [[], [0], [], [2], [2, 3], [2, 3, 4], [], [0, 1, 2, 3, 4, 5, 6], [0, 1, 2, 3, 4, 5, 6, 7]] [] (by decide) (by decide) (by decide) fun K hK => ?_
    first | dsimp only [List.take, List.drop] | dsimp [List.take, List.drop]
    simp [go_sem, hnI, hn0, hn8, hangC_part f hn8, hI40, hi40, hi0, hpl, put_stV, hst, e0, eq0, e2, eq2, e4, eq4]
    refine ⟨by omega, by omega, ?_⟩
    refine hK _ ?_; clear hK K
    refine Weaker.fzk 1 0 (by omega) ?_ ?_ ?_
    ·simp [go_sem, e0, eq0, e2, eq2, e4, eq4]
    ·first | (simp; done) | (simp; omega)
    ·simp [go_sem, e0, eq0, e2, eq2, e4, eq4]
   ·have ha : ¬ a < 0 := by simpa using h
    obtain ⟨q, r, hq, hr2, hq2, hr8⟩ : ∃ q r : Nat, a = q ∧ b = r ∧ q < g.length ∧ r < 8 := by
     rcases hmem with ⟨n, hn, h2⟩ | ⟨q, r, hn, h2, h3⟩
     ·cases hn; omega
     ·cases hn; exact ⟨q, r, rfl, rfl, by omega, h3⟩
    subst hq hr2
    obtain ⟨gf, hgf, hgf'⟩ := getAt hq2
    have hrI : (r : Int) < 8 := by omega
    have hr0 : (0 : Int) ≤ (r : Nat) := by omega
    have hqI : (q : Int) < (g.length : Nat) := by omega
    have hq0 : (0 : Int) ≤ (q : Nat) := by omega
    have hmv : madeN g f ((q : Int), (r : Int)) = gf r := by unfold madeN; rw [if_neg ha]; simp [hgf]
    rw [hmv] at hst
    refine draw_e T_ok (by kernel_rfl) 11 [[], [0], [], [], [3], [], [5], [2, 3, 4], [2, 3, 4, 5, 6, 7], [2, 3, 4, 5, 6, 7, 8], [], [0, 1, 2, 3, 4, 5, 6, 7, 8, 9, 10], [0, 1, 2, 3, 4, 5, 6, 7, 8, 9, 10, 11]] [] (by decide) (by decide) (by decide) fun K hK => ?_
    first | dsimp only [List.take, List.drop] | dsimp [List.take, List.drop]
    simp [go_sem, hrI, hr0, hr8, hqI, hq0, hq2, hgf, hgf', hangC_part gf hr8, hI40, hi40, hi0, hpl, put_stV, hst, e0, eq0, e2, eq2, e4, eq4]
    refine ⟨by omega, by omega, ?_⟩
    refine hK _ ?_; clear hK K
    refine Weaker.fzk 1 0 (by omega) ?_ ?_ ?_
    ·simp [go_sem, e0, eq0, e2, eq2, e4, eq4]
    ·first | (simp; done) | (simp; omega)
    ·simp [go_sem, e0, eq0, e2, eq2, e4, eq4]
  ·skip
   refine region_e T_ok (by decide) fun K hK => ?_
   simp [go_sem, hw, put_stN, e0, eq0, e2, eq2, e4, eq4]
   refine hK _ ?_; clear hK K
   refine hK3 _ ?_; try clear hK3 K3
   refine region_e T_ok (by decide) fun K hK => ?_
   simp [go_sem, hw]
   refine hK _ ?_; clear hK K
   refine ⟨(i + 1, j + 100), ?_, ?_, ?_⟩
   ·dsimp only; omega
   ·dsimp only; omega
   ·refine Weaker.fzk 1 0 (by first | omega | (dsimp only; omega)) ?_ ?_ ?_
    ·simp [go_sem, e0, eq0, e2, eq2, e4, eq4]
    ·first | (simp; done) | (simp; omega)
    simp [go_sem, e0, eq0, e2, eq2, e4, eq4]
 ·simp at h
  obtain rfl : i = (slotsT t).length := by omega
  have hpe : (padT (madeL t g f)).length = 40 := padT_len (by omega)
  have htk : (madeL t g f).take (slotsT t).length = madeL t g f := List.take_of_length_le (by omega)
  refine tr_exit ?_
  refine hK1 _ ?_; try clear hK1 K1
  refine region_k T_ok (by decide) fun K hK => ?_
  simp [go_sem, htk, hpe, us_ones, List.take_of_length_le]
  refine hK _ ?_; clear hK K
  refine tr_ret ⟨.inr rfl, ?_⟩
  simp [go_sem, madeK, stK_cons, hml, htk, hpe, uVs_nil, List.take_of_length_le]
open Go Go.Sl Go.Proofs.Try
theorem hang_drop (f : Nat → Int) : List.drop 8 (hangC f) = [] := rfl
theorem hang_frz (f : Nat → Int) (S : List Nat) (H : Heap) (d : Nat) : (hangC f).map (frz S H d) = hangC f := by cases d <;> rfl
theorem us_elem (g : List (Nat → Int)) (S : List Nat) (H : Heap) (d : Nat) : (usRows g).map (elemF (frz S H d)) = usRows g := by
 simp only [usRows, List.map_map]
 exact List.map_congr_left fun f _ => by simp only [Function.comp, elemF, hang_frz]
open Go Go.Sl Go.Proofs.Try
theorem setB_rd {t : Tst} (ht : TTOk t) : ∀ l ∈ t.ths, ∀ x ∈ l, setB x.op = true → 0 ≤ x.rd ∧ x.rd < 8 := fun l hl x hx _ => by
 obtain ⟨i, hi⟩ := List.getElem?_of_mem hl
 obtain ⟨p, hp⟩ := List.getElem?_of_mem hx
 have := (ht.thr i l hi).2 p x hp
 exact ⟨this.rd0, this.rd8⟩
theorem thr_len {t : Tst} (ht : TTOk t) : ∀ x ∈ t.ths, x.length ≤ 1000 := fun l hl => by
 obtain ⟨i, hi⟩ := List.getElem?_of_mem hl
 have := (ht.thr i l hi).1
 omega
open Go Go.Sl Go.Proofs.Try
theorem uss_take (k : List Int) (n : Nat) : List.take n (usRows (gAs k n)) = usRows (gAs k n) := List.take_of_length_le (by simp [usRows, gAs])
theorem steps_len {t : Tst} (ht : TSOk t) {k : List Int} (hk : WOk t k) (s : Ws) {i : Nat} (hi : i ≤ t.ths.length) : (stepsS t k i s).1.length ≤ s.1.length + 8 := by
 obtain ⟨l, e, h2, _⟩ := stepsS_grown ht hk s i hi
 rw [e, List.length_append]
 have := ht.tt.ths
 omega
theorem ends_same {t : Tst} {k : List Int} (s : Ws) : ∀ i, (stepsS t k i s).2.2 = s.2.2
 | 0 => rfl
 | i + 1 => by
  rw [stepsS]
  have : ∀ (l : List (List Int)) (s : Ws), (addsS l s).2.2 = s.2.2 := by
   intro l
   induction l with
   | nil => intro s; rfl
   | cons a l ih => intro s; exact (ih _).trans (addS_sub a s).2.2
  rw [this]; exact ends_same s i
set_option maxHeartbeats 8000000 in
set_option maxRecDepth 100000 in
theorem next_fn (t : Tst) (ht : TSOk t) (k : List Int) (hk : WOk t k) (s : Ws) (hs : SOk t s) (hl9 : s.1.length ≤ 700) (m : Nat) (js : List V) (n : Nat) (hm2 : 2 < m) (hmn : m < n) : Sl.Fn Try.prog 95 [.ptr 2 0 0, .agg (wV k)] (seH t s m js) n fun u H k' => ∃ a : Nat × List V, (2 < a.1 ∧ a.1 < k' ∧ (a.1 = m ∨ n ≤ a.1)) ∧ u = .tup [] ∧ H = seH t (nextS t k s) a.1 a.2 := by
 refine Fn.view ?_
 have nn0 : ¬ m = 0 := by omega
 have mm0 : ¬ 0 = m := by omega
 have nn1 : ¬ m = 1 := by omega
 have mm1 : ¬ 1 = m := by omega
 have nn2 : ¬ m = 2 := by omega
 have mm2 : ¬ 2 = m := by omega
 have nn3 : ¬ m = n := by omega
 have mm3 : ¬ n = m := by omega
 have nn4 : ¬ n = 0 := by omega
 have mm4 : ¬ 0 = n := by omega
 have nn5 : ¬ n = 1 := by omega
 have mm5 : ¬ 1 = n := by omega
 have nn6 : ¬ n = 2 := by omega
 have mm6 : ¬ 2 = n := by omega
 have hkl : (wV k).length = 52 := wV_52 hk.wk.len
 have hko := wV_one k
 have hkt : List.take 52 (wV k) = wV k := List.take_of_length_le (by omega)
 have ht4 := ht.tt.ths
 have hn0 : (0 : Int) ≤ (t.ths.length : Nat) := by omega
 unfold seH
 refine fn_in T_ok func95 rfl rfl ntmps95 rfl (by simp) ?_
 refine region_k T_ok (by decide) fun K hK => ?_
 simp [go_sem, hkl, hkt, nn0, mm0, nn1, mm1, nn2, mm2, nn3, mm3, nn4, mm4, nn5, mm5, nn6, mm6]
 refine ⟨hko, ?_⟩
 refine hK _ ?_; clear hK K
 refine region_k T_ok (by decide) fun K hK => ?_
 simp [go_sem]
 refine hK _ ?_; clear hK K
 refine seq_k fun K1 hK1 => ?_
 refine region_k T_ok (by decide) fun K hK => ?_
 simp [go_sem, nn0, mm0, nn1, mm1, nn2, mm2, nn3, mm3, nn4, mm4, nn5, mm5, nn6, mm6, Tst.cs, hn0]
 refine hK _ ?_; clear hK K
 refine tr_block ?_
 refine loop_p (α := Nat × Nat × Nat × List V) (fun a => ⟨73, [(0, .ptr 2 0 0), (3, .ptr n 0 0), (15, .ro 1 (thrs t.ths)), (16, iV (t.ths.length : Nat)), (17, iV (a.1 : Nat)), (4, bV (overS t k a.1))], [(n, .rows 52 [.agg (wV k)]), (2, .rows 4 [.agg [.rp t.cs 0, .sl a.2.2.1 0 (stepsS t k a.1 s).1.length, .map 0, .map 1]]), (0, .map (seenW (stepsS t k a.1 s).2.1)), (1, .map (seenM (stepsS t k a.1 s).2.2)), (a.2.2.1, .rows 52 (todoR (stepsS t k a.1 s).1 ++ a.2.2.2))], a.2.1⟩) (fun a => a.1 ≤ t.ths.length ∧ n < a.2.1 ∧ 2 < a.2.2.1 ∧ a.2.2.1 < a.2.1 ∧ (a.2.2.1 = m ∨ n < a.2.2.1)) (fun a => t.ths.length - a.1) (0, n + 1, m, js) ?_ ?_ ?_
 ·dsimp only; omega
 ·refine Weaker.fzk 1 0 (by first | omega | (dsimp only; omega)) ?_ ?_ ?_
  ·simp [go_sem, overS, Tst.cs, nn0, mm0, nn1, mm1, nn2, mm2, nn3, mm3, nn4, mm4, nn5, mm5, nn6, mm6]
  ·first | (simp; done) | (simp; omega)
  ·simp [go_sem, stepsS, Tst.cs, nn0, mm0, nn1, mm1, nn2, mm2, nn3, mm3, nn4, mm4, nn5, mm5, nn6, mm6]
 rintro ⟨i, j, m1, js1⟩ ⟨hi, hnj, hm12, hm1j, hm1⟩
 dsimp only at hi hnj hm12 hm1j hm1 ⊢
 have nn100 : ¬ m1 = 0 := by omega
 have mm100 : ¬ 0 = m1 := by omega
 have nn101 : ¬ m1 = 1 := by omega
 have mm101 : ¬ 1 = m1 := by omega
 have nn102 : ¬ m1 = 2 := by omega
 have mm102 : ¬ 2 = m1 := by omega
 have nn103 : ¬ m1 = n := by omega
 have mm103 : ¬ n = m1 := by omega
 refine region_k T_ok (by decide) fun K hK => ?_
 simp [go_sem, nn0, mm0, nn1, mm1, nn2, mm2, nn3, mm3, nn4, mm4, nn5, mm5, nn6, mm6, nn100, mm100, nn101, mm101, nn102, mm102, nn103, mm103]
 refine hK _ ?_; clear hK K
 refine seq_k fun K2 hK2 => ?_
 refine cond_k rfl (fun h => ?_) (fun h => ?_)
 ·simp at h
  have hin : i < t.ths.length := by omega
  clear h
  have hinI : (i : Int) < (t.ths.length : Nat) := by omega
  have hi4 : i < 4 := by omega
  have hi4I : (i : Int) < 4 := by omega
  have hi0 : (0 : Int) ≤ (i : Nat) := by omega
  have hib : i * 11 ≤ 33 := by omega
  have hw : IntKind.i64.wrap ((i : Nat) + 1) = (i : Nat) + 1 := wrap_i64 (by omega) (by omega)
  obtain ⟨p, hp, hpl⟩ := hk.pc i hi4
  have hx : t.ths[i]? = some (lth t i) := by rw [lth, List.getD, List.getElem?_eq_getElem hin]; rfl
  have hx' : t.ths[i] = lth t i := (List.getElem?_eq_some_iff.1 hx).2
  have hl8 : (lth t i).length ≤ 8 := (ht.tt.thr i _ hx).1
  have hpw : IntKind.i64.wrap (p : Nat) = (p : Nat) := wrap_i64 (by omega) (by omega)
  refine tr_skip ?_
  refine hK2 _ ?_; try clear hK2 K2
  refine seq_k fun K3 hK3 => ?_
  refine tr_block ?_
  refine region_k T_ok (by decide) fun K hK => ?_
  simp [go_sem, hin, hinI, hx, hx', hi0, nn0, mm0, nn1, mm1, nn2, mm2, nn3, mm3, nn4, mm4, nn5, mm5, nn6, mm6, nn100, mm100, nn101, mm101, nn102, mm102, nn103, mm103]
  refine hK _ ?_; clear hK K
  refine region_k T_ok (by decide) fun K hK => ?_
  simp [go_sem, hkl, wV_pc hk.wk.len hi4, hp, hpw, hi4, hi4I, hi0, hib, nn0, mm0, nn1, mm1, nn2, mm2, nn3, mm3, nn4, mm4, nn5, mm5, nn6, mm6, nn100, mm100, nn101, mm101, nn102, mm102, nn103, mm103]
  repeat refine ⟨by omega, ?_⟩
  refine hK _ ?_; clear hK K
  refine cond_k rfl (fun h => ?_) (fun h => ?_)
  ·have hpn : p < (lth t i).length := by simpa using h
   obtain ⟨x, hg, hg'⟩ := getAt hpn
   have hok := (ht.tt.thr i _ hx).2 p x hg
   have hloc := ht.loc i _ hx p x hg
   have hov : overS t k (i + 1) = false := by rw [overS_succ, hp]; simp; omega
   refine region_k T_ok (by decide) fun K hK => ?_
   simp [go_sem, nn0, mm0, nn1, mm1, nn2, mm2, nn3, mm3, nn4, mm4, nn5, mm5, nn6, mm6, nn100, mm100, nn101, mm101, nn102, mm102, nn103, mm103]
   refine hK _ ?_; clear hK K
   refine region_e T_ok (by decide) fun K hK => ?_
   simp [go_sem, hkl, hkt, nn0, mm0, nn1, mm1, nn2, mm2, nn3, mm3, nn4, mm4, nn5, mm5, nn6, mm6, nn100, mm100, nn101, mm101, nn102, mm102, nn103, mm103]
   refine call_ex (sstep_fn t k hk.wk hk.held i hi4 (lth t i) hx hl8 p hp x hg hok hloc (stepsS t k i s) (fun q hq => ((stepsS_ok ht hk i hi hs).seen q hq).wk) (by have := steps_len ht hk s hi; omega) m1 js1 _ hm12 (by omega)) (by simp [seH, nn0, mm0, nn1, mm1, nn2, mm2, nn3, mm3, nn4, mm4, nn5, mm5, nn6, mm6, nn100, mm100, nn101, mm101, nn102, mm102, nn103, mm103]) (by simp [seH, go_sem, nn0, mm0, nn1, mm1, nn2, mm2, nn3, mm3, nn4, mm4, nn5, mm5, nn6, mm6, nn100, mm100, nn101, mm101, nn102, mm102, nn103, mm103]) fun k2 a2 hk2 ha2 => ?_
   obtain ⟨m2, js2⟩ := a2
   obtain ⟨ha3, ha4, ha5⟩ := ha2
   dsimp only at ha3 ha4 ha5
   have nn200 : ¬ m2 = 0 := by omega
   have mm200 : ¬ 0 = m2 := by omega
   have nn201 : ¬ m2 = 1 := by omega
   have mm201 : ¬ 1 = m2 := by omega
   have nn202 : ¬ m2 = 2 := by omega
   have mm202 : ¬ 2 = m2 := by omega
   have nn203 : ¬ m2 = n := by omega
   have mm203 : ¬ n = m2 := by omega
   simp [go_sem, seH, nn0, mm0, nn1, mm1, nn2, mm2, nn3, mm3, nn4, mm4, nn5, mm5, nn6, mm6, nn100, mm100, nn101, mm101, nn102, mm102, nn103, mm103, nn200, mm200, nn201, mm201, nn202, mm202, nn203, mm203]
   have hss : stepsS t k (i + 1) s = addsS (doS x i (incS k i)) (stepsS t k i s) := by rw [stepsS, succS_some hp hg]
   refine hK _ ?_; clear hK K
   refine hK3 _ ?_; try clear hK3 K3
   refine region_e T_ok (by decide) fun K hK => ?_
   simp [go_sem, hw]
   refine hK _ ?_; clear hK K
   refine ⟨(i + 1, k2, m2, js2), ?_, ?_, ?_⟩
   ·dsimp only; omega
   ·dsimp only; omega
   ·refine Weaker.fzk 1 0 (by first | omega | (dsimp only; omega)) ?_ ?_ ?_
    ·simp [go_sem, hov, nn0, mm0, nn1, mm1, nn2, mm2, nn3, mm3, nn4, mm4, nn5, mm5, nn6, mm6, nn100, mm100, nn101, mm101, nn102, mm102, nn103, mm103]
    ·first | (simp; done) | (simp; omega)
    simp [go_sem, hss, nn0, mm0, nn1, mm1, nn2, mm2, nn3, mm3, nn4, mm4, nn5, mm5, nn6, mm6, nn200, mm200, nn201, mm201, nn202, mm202, nn203, mm203]
  ·have hpn : (lth t i).length ≤ p := by simpa using h
   have hov : overS t k (i + 1) = overS t k i := by rw [overS_succ, hp]; simp; omega
   have hss : stepsS t k (i + 1) s = stepsS t k i s := by rw [stepsS, succS_none (by rw [hp]; omega)]; rfl
   refine tr_skip ?_
   refine hK3 _ ?_; try clear hK3 K3
   refine region_e T_ok (by decide) fun K hK => ?_
   simp [go_sem, hw]
   refine hK _ ?_; clear hK K
   refine ⟨(i + 1, j, m1, js1), ?_, ?_, ?_⟩
   ·dsimp only; omega
   ·dsimp only; omega
   ·refine Weaker.fzk 1 0 (by first | omega | (dsimp only; omega)) ?_ ?_ ?_
    ·simp [go_sem, hov, nn0, mm0, nn1, mm1, nn2, mm2, nn3, mm3, nn4, mm4, nn5, mm5, nn6, mm6, nn100, mm100, nn101, mm101, nn102, mm102, nn103, mm103]
    ·first | (simp; done) | (simp; omega)
    simp [go_sem, hss, nn0, mm0, nn1, mm1, nn2, mm2, nn3, mm3, nn4, mm4, nn5, mm5, nn6, mm6, nn100, mm100, nn101, mm101, nn102, mm102, nn103, mm103]
 ·simp at h
  obtain rfl : i = t.ths.length := by omega
  clear h
  refine tr_exit ?_
  refine hK1 _ ?_; try clear hK1 K1
  refine seq_k fun K4 hK4 => ?_
  refine region_k T_ok (by decide) fun K hK => ?_
  simp [go_sem, nn0, mm0, nn1, mm1, nn2, mm2, nn3, mm3, nn4, mm4, nn5, mm5, nn6, mm6, nn100, mm100, nn101, mm101, nn102, mm102, nn103, mm103]
  refine hK _ ?_; clear hK K
  refine cond_k rfl (fun h => ?_) (fun h => ?_)
  ·have hov : overS t k t.ths.length = false := by simpa using h
   have hnx := nextS_go (s := s) hov
   refine tr_ret ⟨.inr rfl, ?_⟩
   simp [go_sem, hnx]
   exact ⟨_, _, View.del n _, m1, ⟨by omega, by omega, by omega⟩, rfl, js1, by simp [Sl.del, nn0, mm0, nn1, mm1, nn2, mm2, nn3, mm3, nn4, mm4, nn5, mm5, nn6, mm6, nn100, mm100, nn101, mm101, nn102, mm102, nn103, mm103]⟩
  ·have hov : overS t k t.ths.length = true := by simpa using h
   have hnx := nextS_over (s := s) hov
   have hss := over_steps (s := s) _ hov
   rw [hss]
   refine tr_skip ?_
   refine hK4 _ ?_; try clear hK4 K4
   refine region_k T_ok (by decide) fun K hK => ?_
   simp [go_sem, nn0, mm0, nn1, mm1, nn2, mm2, nn3, mm3, nn4, mm4, nn5, mm5, nn6, mm6, nn100, mm100, nn101, mm101, nn102, mm102, nn103, mm103, Tst.cs, hn0]
   repeat refine ⟨by omega, ?_⟩
   have nn300 : ¬ j = 0 := by omega
   have mm300 : ¬ 0 = j := by omega
   have nn301 : ¬ j = 1 := by omega
   have mm301 : ¬ 1 = j := by omega
   have nn302 : ¬ j = 2 := by omega
   have mm302 : ¬ 2 = j := by omega
   have nn303 : ¬ j = n := by omega
   have mm303 : ¬ n = j := by omega
   have nn304 : ¬ j = m1 := by omega
   have mm304 : ¬ m1 = j := by omega
   refine hK _ ?_; clear hK K
   refine seq_k fun K5 hK5 => ?_
   refine region_k T_ok (by decide) fun K hK => ?_
   simp [go_sem]
   refine hK _ ?_; clear hK K
   refine tr_block ?_
   refine loop_p (α := Nat) (fun a => ⟨73, [(0, .ptr 2 0 0), (3, .ptr n 0 0), (7, .sl j 0 t.ths.length), (48, iV (t.ths.length : Nat)), (49, iV (a : Nat))], [(j, .rows 8 (usRows (gIs k t.ths.length a))), (n, .rows 52 [.agg (wV k)]), (2, .rows 4 [.agg [.rp t.cs 0, .sl m1 0 s.1.length, .map 0, .map 1]]), (0, .map (seenW s.2.1)), (1, .map (seenM s.2.2)), (m1, .rows 52 (todoR s.1 ++ js1))], j + 1⟩) (fun a => a ≤ t.ths.length) (fun a => t.ths.length - a) 0 ?_ ?_ ?_
   ·exact Nat.zero_le _
   ·refine Weaker.fz 1 0 ?_ ?_ ?_
    ·simp [go_sem, nn0, mm0, nn1, mm1, nn2, mm2, nn3, mm3, nn4, mm4, nn5, mm5, nn6, mm6, nn100, mm100, nn101, mm101, nn102, mm102, nn103, mm103, nn300, mm300, nn301, mm301, nn302, mm302, nn303, mm303, nn304, mm304, gIs_zero, Tst.cs, List.replicate_succ]
    ·first | (simp; done) | (simp; omega)
    ·simp [go_sem, nn0, mm0, nn1, mm1, nn2, mm2, nn3, mm3, nn4, mm4, nn5, mm5, nn6, mm6, nn100, mm100, nn101, mm101, nn102, mm102, nn103, mm103, nn300, mm300, nn301, mm301, nn302, mm302, nn303, mm303, nn304, mm304, gIs_zero, Tst.cs, List.replicate_succ]
   rintro i hi
   skip
   refine region_k T_ok (by decide) fun K hK => ?_
   simp [go_sem]
   refine hK _ ?_; clear hK K
   refine seq_k fun K6 hK6 => ?_
   refine cond_k rfl (fun h => ?_) (fun h => ?_)
   ·simp at h
    have hin : i < t.ths.length := by omega
    clear h
    have hinI : (i : Int) < (t.ths.length : Nat) := by omega
    have hi4 : i < 4 := by omega
    have hi4I : (i : Int) < 4 := by omega
    have hi0 : (0 : Int) ≤ (i : Nat) := by omega
    have hw : IntKind.i64.wrap ((i : Nat) + 1) = (i : Nat) + 1 := wrap_i64 (by omega) (by omega)
    refine tr_skip ?_
    refine hK6 _ ?_; try clear hK6 K6
    refine seq_k fun K7 hK7 => ?_
    refine tr_block ?_
    refine region_k T_ok (by decide) fun K hK => ?_
    simp [go_sem]
    refine hK _ ?_; clear hK K
    refine region_e T_ok (by decide) fun K hK => ?_
    simp [go_sem, nn0, mm0, nn1, mm1, nn2, mm2, nn3, mm3, nn4, mm4, nn5, mm5, nn6, mm6, nn100, mm100, nn101, mm101, nn102, mm102, nn103, mm103, nn300, mm300, nn301, mm301, nn302, mm302, nn303, mm303, nn304, mm304, hin, hinI, hi4, hi4I, hi0, hkl, wV_regs hk.wk.len hi4, gIs_len, hang_drop, gIs_set hin]
    repeat refine ⟨by omega, ?_⟩
    refine hK _ ?_; clear hK K
    refine hK7 _ ?_; try clear hK7 K7
    refine region_e T_ok (by decide) fun K hK => ?_
    simp [go_sem, hw]
    refine hK _ ?_; clear hK K
    refine ⟨i + 1, ?_, ?_, ?_⟩
    ·omega
    ·omega
    ·refine Weaker.fz 1 0 ?_ ?_ ?_
     ·simp [go_sem, nn0, mm0, nn1, mm1, nn2, mm2, nn3, mm3, nn4, mm4, nn5, mm5, nn6, mm6, nn100, mm100, nn101, mm101, nn102, mm102, nn103, mm103, nn300, mm300, nn301, mm301, nn302, mm302, nn303, mm303, nn304, mm304, gIs_zero, Tst.cs, List.replicate_succ]
     ·first | (simp; done) | (simp; omega)
     simp [go_sem, nn0, mm0, nn1, mm1, nn2, mm2, nn3, mm3, nn4, mm4, nn5, mm5, nn6, mm6, nn100, mm100, nn101, mm101, nn102, mm102, nn103, mm103, nn300, mm300, nn301, mm301, nn302, mm302, nn303, mm303, nn304, mm304, gIs_zero, Tst.cs, List.replicate_succ]
   ·simp at h
    obtain rfl : i = t.ths.length := by omega
    clear h
    refine tr_exit ?_
    refine hK5 _ ?_; try clear hK5 K5
    have hmk : Pf Try.prog 114 [.rp t.cs 0, .ro 8 (usRows (gAs k t.ths.length)), .agg (hangC (fS k))] (.agg (stK (endS t k))) := made_pf t ht4 (thr_len ht.tt) (setB_rd ht.tt) ht.tt.locs (gAs k t.ths.length) (gAs_len _ _) (fS k)
    have hke := endS_len ht k
    have he : eqCells [EK.int, EK.int, EK.int, EK.int, EK.int, EK.int, EK.int, EK.int, EK.int, EK.int, EK.int, EK.int, EK.int, EK.int, EK.int, EK.int, EK.int, EK.int, EK.int, EK.int, EK.int, EK.int, EK.int, EK.int, EK.int, EK.int, EK.int, EK.int, EK.int, EK.int, EK.int, EK.int, EK.int, EK.int, EK.int, EK.int, EK.int, EK.int, EK.int, EK.int, EK.int] (stK (endS t k)) (stK (endS t k)) = _ := eq_stK hke hke
    have hi2 : insV [EK.int, EK.int, EK.int, EK.int, EK.int, EK.int, EK.int, EK.int, EK.int, EK.int, EK.int, EK.int, EK.int, EK.int, EK.int, EK.int, EK.int, EK.int, EK.int, EK.int, EK.int, EK.int, EK.int, EK.int, EK.int, EK.int, EK.int, EK.int, EK.int, EK.int, EK.int, EK.int, EK.int, EK.int, EK.int, EK.int, EK.int, EK.int, EK.int, EK.int, EK.int] (stK (endS t k)) (bV true) (seenM s.2.2) = _ := ins_seen hke hs.ends
    have ha : (if endS t k ∈ s.2.2 then s.2.2 else s.2.2 ++ [endS t k]) = addK (endS t k) s.2.2 := rfl
    rw [ha] at hi2
    refine draw_e T_ok (by kernel_rfl) 12 [[], [0], [0, 1], [0, 1, 2], [], [4], [4, 5], [4, 5, 6], [], [], [9], [4, 5, 6, 7, 8, 9, 10], [0, 1, 2, 3, 4, 5, 6, 7, 8, 9, 10, 11]] [] (by decide) (by decide) (by decide) fun K hK => ?_
    first | dsimp only [List.take, List.drop] | dsimp [List.take, List.drop]
    simp [go_sem, nn0, mm0, nn1, mm1, nn2, mm2, nn3, mm3, nn4, mm4, nn5, mm5, nn6, mm6, nn100, mm100, nn101, mm101, nn102, mm102, nn103, mm103, nn300, mm300, nn301, mm301, nn302, mm302, nn303, mm303, nn304, mm304, hkl, wV_mems hk.wk.len]
    refine callD_lendP hmk (pure_agg (stK_vals _)) 2 (by simp [go_sem, gIs_all, gAs_len, us_elem, uss_take, hang_frz, nn0, mm0, nn1, mm1, nn2, mm2, nn3, mm3, nn4, mm4, nn5, mm5, nn6, mm6, nn100, mm100, nn101, mm101, nn102, mm102, nn103, mm103, nn300, mm300, nn301, mm301, nn302, mm302, nn303, mm303, nn304, mm304]) ?_
    simp [go_sem, he, hi2, nn0, mm0, nn1, mm1, nn2, mm2, nn3, mm3, nn4, mm4, nn5, mm5, nn6, mm6, nn100, mm100, nn101, mm101, nn102, mm102, nn103, mm103, nn300, mm300, nn301, mm301, nn302, mm302, nn303, mm303, nn304, mm304]
    refine hK _ ?_; clear hK K
    refine ⟨.inl rfl, ?_⟩
    simp [go_sem, hnx]
    exact ⟨_, _, (View.del j _).trans (View.del n _), m1, ⟨by omega, by omega, by omega⟩, rfl, js1, by simp [Sl.del, nn0, mm0, nn1, mm1, nn2, mm2, nn3, mm3, nn4, mm4, nn5, mm5, nn6, mm6, nn100, mm100, nn101, mm101, nn102, mm102, nn103, mm103, nn300, mm300, nn301, mm301, nn302, mm302, nn303, mm303, nn304, mm304]⟩
open Go Go.Sl Go.Proofs.Try
open Go Go.Sl Go.Proofs.Try
theorem initS_succ {t : Tst} {i : Nat} {l : Ini} (h : t.locs[i]? = some l) : initS t (i + 1) = (initS t i).set (44 + i) l.v := by rw [initS, List.getD, h]; rfl
theorem run_step (t : Tst) (n : Nat) (ys : List (List Int)) (k : List Int) (r : List (List Int) × List (List Int)) : runS t (n + 1) (ys ++ [k], r) = runS t n (nextS t k (ys, r)) := by
 rw [runS]
 simp only [List.getLast?_append, List.getLast?_singleton, Option.some_or, List.dropLast_concat]
theorem run_done (t : Tst) (n : Nat) (r : List (List Int) × List (List Int)) : runS t n ([], r) = ([], r) := by cases n <;> rfl
theorem next_nodup {t : Tst} {k : List Int} {s : Ws} (h : s.2.2.Nodup) : (nextS t k s).2.2.Nodup := by
 unfold nextS; split
 ·exact addK_nodup h
 ·rw [ends_same]; exact h
def fuelS (t : Tst) : Nat := 9 ^ muS t (startS t) + 1
def beginS (t : Tst) : Ws := ([startS t], [startS t], [])
theorem begin_eq (t : Tst) : addS (startS t) ([], [], []) = beginS t := by unfold addS beginS; simp
theorem begin_ok (t : Tst) : SOk t (beginS t) := by
 refine ⟨fun q hq => ?_, fun q hq => ?_, fun q hq => ?_⟩
 ·simp [beginS] at hq; subst hq; exact startS_ok t
 ·simp [beginS] at hq; subst hq; exact startS_ok t
 ·cases hq
theorem begin_low {t : Tst} (ht : TTOk t) : Low t (beginS t).1 := fun p q hq => by
 have h1 := muS_le ht (startS_ok t)
 match p with
 | 0 => cases hq; omega
 | p + 1 => cases hq
theorem last_of {α : Type} {l : List α} (h : 0 < l.length) : ∃ ys k, l = ys ++ [k] := by
 refine ⟨l.dropLast, l.getLast (by intro e; rw [e] at h; exact absurd h (Nat.lt_irrefl _)), ?_⟩
 rw [List.dropLast_concat_getLast]
theorem todoR_last (ys : List (List Int)) (k : List Int) (js : List V) : todoR (ys ++ [k]) ++ js = todoR ys ++ (.agg (wV k) :: js) := by rw [todoR_add]; simp
theorem todoR_at (ys : List (List Int)) (v : V) (js : List V) : (todoR ys ++ (v :: js))[ys.length]? = some v := by
 rw [List.getElem?_append_right (by rw [todoR_len]; omega), todoR_len, Nat.sub_self]; rfl
theorem todoR_get (ys : List (List Int)) (v : V) (js : List V) (h : ys.length < (todoR ys ++ (v :: js)).length) : (todoR ys ++ (v :: js))[ys.length] = v := by
 have := todoR_at ys v js; rw [List.getElem?_eq_getElem h] at this; exact Option.some.inj this
set_option maxHeartbeats 8000000 in
set_option maxRecDepth 100000 in
theorem seqc_pf (t : Tst) (ht : TSOk t) (hb : (seqEnds t).length ≤ 400000000000) : Pf Try.prog 61 [.rp t.cs 0] (.ro 41 (stR (setOf (seqEnds t)))) := by
 refine Pf.of_fn (.cons (nl_rp t) .nil) (nl_stR _) ?_
 have hl8 := ht.tt.locs
 have ht4 := ht.tt.ths
 refine fn_in T_ok func61 rfl rfl ntmps61 rfl (by simp) ?_
 refine region_k T_ok (by decide) fun K hK => ?_
 simp [go_sem]
 refine hK _ ?_; clear hK K
 refine region_k T_ok (by decide) fun K hK => ?_
 simp [go_sem]
 refine hK _ ?_; clear hK K
 refine region_k T_ok (by decide) fun K hK => ?_
 simp [go_sem, Tst.cs]
 refine hK _ ?_; clear hK K
 refine seq_k fun K1 hK1 => ?_
 refine region_k T_ok (by decide) fun K hK => ?_
 simp [go_sem, Tst.cs]
 refine hK _ ?_; clear hK K
 refine tr_block ?_
 refine loop_p (α := Nat × Nat) (fun a => ⟨72, [(0, .rp t.cs 0), (3, .ptr 2 0 0), (4, .ptr 3 0 0), (16, .ro 2 (inis t.locs)), (17, iV (t.locs.length : Nat)), (18, iV (a.1 : Nat))], [(3, .rows 52 [.agg (wV (initS t a.1))]), (2, .rows 4 [.agg [.rp t.cs 0, .val (.slice none 0 0), .map 0, .map 1]]), (1, .map []), (0, .map [])], a.2⟩) (fun a => a.1 ≤ t.locs.length ∧ 3 < a.2) (fun a => t.locs.length - a.1) (0, 4) ?_ ?_ ?_
 ·dsimp only; omega
 ·refine Weaker.fzk 1 0 (by first | omega | (dsimp only; omega)) ?_ ?_ ?_
  ·simp [go_sem, Tst.cs]
  ·first | (simp; done) | (simp; omega)
  ·simp [go_sem, Tst.cs]; rfl
 rintro ⟨i, jn⟩ ⟨hi, hjn⟩
 dsimp only at hi hjn ⊢
 have nn0 : ¬ jn = 0 := by omega
 have mm0 : ¬ 0 = jn := by omega
 have nn1 : ¬ jn = 1 := by omega
 have mm1 : ¬ 1 = jn := by omega
 have nn2 : ¬ jn = 2 := by omega
 have mm2 : ¬ 2 = jn := by omega
 have nn3 : ¬ jn = 3 := by omega
 have mm3 : ¬ 3 = jn := by omega
 refine region_k T_ok (by decide) fun K hK => ?_
 simp [go_sem]
 refine hK _ ?_; clear hK K
 refine seq_k fun K2 hK2 => ?_
 refine cond_k rfl (fun h => ?_) (fun h => ?_)
 ·simp at h
  have hin : i < t.locs.length := by omega
  clear h
  have hinI : (i : Int) < (t.locs.length : Nat) := by omega
  obtain ⟨l, hx, hx'⟩ := getAt hin
  have hi8 : i < 8 := by omega
  have hi8I : (i : Int) < 8 := by omega
  have hi0 : (0 : Int) ≤ (i : Nat) := by omega
  have hw : IntKind.i64.wrap ((i : Nat) + 1) = (i : Nat) + 1 := wrap_i64 (by omega) (by omega)
  refine tr_skip ?_
  refine hK2 _ ?_; try clear hK2 K2
  refine seq_k fun K3 hK3 => ?_
  refine tr_block ?_
  refine region_k T_ok (by decide) fun K hK => ?_
  simp [go_sem, hin, hinI, hx, hx', hi0, iniC, Ini.cs, nn0, mm0, nn1, mm1, nn2, mm2, nn3, mm3]
  refine hK _ ?_; clear hK K
  refine region_e T_ok (by decide) fun K hK => ?_
  simp [go_sem, iniC, Ini.cs, hi8, hi8I, hi0, wV_52 (initS_len t i), putW_mem (initS_len t i) hi8, nn0, mm0, nn1, mm1, nn2, mm2, nn3, mm3]
  repeat refine ⟨by omega, ?_⟩
  refine hK _ ?_; clear hK K
  refine hK3 _ ?_; try clear hK3 K3
  refine region_e T_ok (by decide) fun K hK => ?_
  simp [go_sem, hw]
  refine hK _ ?_; clear hK K
  refine ⟨(i + 1, jn + 50), ?_, ?_, ?_⟩
  ·dsimp only; omega
  ·dsimp only; omega
  ·refine Weaker.fzk 1 0 (by first | omega | (dsimp only; omega)) ?_ ?_ ?_
   ·simp [go_sem, nn0, mm0, nn1, mm1, nn2, mm2, nn3, mm3]
   ·first | (simp; done) | (simp; omega)
   simp [go_sem, initS_succ hx, nn0, mm0, nn1, mm1, nn2, mm2, nn3, mm3]
 ·simp at h
  obtain rfl : i = t.locs.length := by omega
  clear h
  refine tr_exit ?_
  refine hK1 _ ?_; try clear hK1 K1
  have hsl : (wV (startS t)).length = 52 := wV_52 (startS_ok t).wk.len
  have hst : List.take 52 (wV (startS t)) = wV (startS t) := List.take_of_length_le (by omega)
  have hs0 : initS t t.locs.length = startS t := rfl
  rw [hs0]
  refine Tr.weaken (Weaker.ghostH (sz := 4) (es := [.agg [.rp t.cs 0, .val (.slice none 0 0), .map 0, .map 1]]) 2 52 [.agg [.rp t.cs 0, .sl jn 0 0, .map 0, .map 1]] (by simp [Sl.look]) (by simp) (by simp) (by simp [V.fits, V.cells, V.one]) (by simp only [List.flatMap_cons, List.flatMap_nil, V.cells, List.append_nil]; exact .same (.to (.same (.same .nil))))) ?_
  simp only [Sl.put, if_true, if_false, Nat.reduceEqDiff, reduceIte]
  refine region_k T_ok (by decide) fun K hK => ?_
  simp [go_sem, nn0, mm0, nn1, mm1, nn2, mm2, nn3, mm3, hsl, hst]
  refine call_ex (add_fn t (startS t) (startS_ok t).wk ([], [], []) (fun q hq => by cases hq) (by simp) jn [] _ (by omega) (by omega)) (by simp [seH, nn0, mm0, nn1, mm1, nn2, mm2, nn3, mm3]) (by simp [seH, go_sem, seenW, seenM, todoR, nn0, mm0, nn1, mm1, nn2, mm2, nn3, mm3]) fun k1 a1 hk1 ha1 => ?_
  obtain ⟨m1, js1⟩ := a1
  obtain ⟨ha2, ha3, ha4⟩ := ha1
  dsimp only at ha2 ha3 ha4
  have nn80 : ¬ m1 = 0 := by omega
  have mm80 : ¬ 0 = m1 := by omega
  have nn81 : ¬ m1 = 1 := by omega
  have mm81 : ¬ 1 = m1 := by omega
  have nn82 : ¬ m1 = 2 := by omega
  have mm82 : ¬ 2 = m1 := by omega
  have nn83 : ¬ m1 = 3 := by omega
  have mm83 : ¬ 3 = m1 := by omega
  rw [begin_eq]
  simp [go_sem, seH, nn0, mm0, nn1, mm1, nn2, mm2, nn3, mm3, nn80, mm80, nn81, mm81, nn82, mm82, nn83, mm83]
  refine hK _ ?_; clear hK K
  refine seq_k fun K4 hK4 => ?_
  refine tr_block ?_
  refine loop_p (α := Nat × Ws × Nat × Nat × List V) (fun a => ⟨72, [(3, .ptr 2 0 0)], [(2, .rows 4 [.agg [.rp t.cs 0, .sl a.2.2.2.1 0 a.2.1.1.length, .map 0, .map 1]]), (0, .map (seenW a.2.1.2.1)), (1, .map (seenM a.2.1.2.2)), (a.2.2.2.1, .rows 52 (todoR a.2.1.1 ++ a.2.2.2.2))], a.2.2.1⟩) (fun a => SOk t a.2.1 ∧ Low t a.2.1.1 ∧ a.2.1.2.2.Nodup ∧ wtS t a.2.1.1 < a.1 ∧ runS t a.1 a.2.1 = runS t (fuelS t) (beginS t) ∧ 2 < a.2.2.2.1 ∧ a.2.2.2.1 < a.2.2.1) (fun a => a.1) (fuelS t, beginS t, k1, m1, js1) ?_ ?_ ?_
  ·exact ⟨begin_ok t, begin_low ht.tt, List.nodup_nil, by simp [beginS, wtS, fuelS], rfl, ha2, ha3⟩
  ·refine Weaker.fzk 1 0 (by first | omega | (dsimp only; omega)) ?_ ?_ ?_
   ·simp [go_sem, nn80, mm80, nn81, mm81, nn82, mm82, nn83, mm83]
   ·first | (simp; done) | (simp; omega)
   ·simp [go_sem, beginS, nn80, mm80, nn81, mm81, nn82, mm82, nn83, mm83]
  rintro ⟨f, s, j, m, js⟩ ⟨hS, hL, hN, hW, hR, hm2, hmj⟩
  dsimp only at hS hL hN hW hR hm2 hmj ⊢
  have nn120 : ¬ m = 0 := by omega
  have mm120 : ¬ 0 = m := by omega
  have nn121 : ¬ m = 1 := by omega
  have mm121 : ¬ 1 = m := by omega
  have nn122 : ¬ m = 2 := by omega
  have mm122 : ¬ 2 = m := by omega
  have nn123 : ¬ m = j := by omega
  have mm123 : ¬ j = m := by omega
  have nn124 : ¬ j = 0 := by omega
  have mm124 : ¬ 0 = j := by omega
  have nn125 : ¬ j = 1 := by omega
  have mm125 : ¬ 1 = j := by omega
  have nn126 : ¬ j = 2 := by omega
  have mm126 : ¬ 2 = j := by omega
  refine seq_k fun K5 hK5 => ?_
  refine region_k T_ok (by decide) fun K hK => ?_
  simp [go_sem, nn120, mm120, nn121, mm121, nn122, mm122, nn123, mm123, nn124, mm124, nn125, mm125, nn126, mm126]
  refine hK _ ?_; clear hK K
  refine cond_k rfl (fun h => ?_) (fun h => ?_)
  ·have hpos : 0 < s.1.length := by simpa using h
   clear h
   obtain ⟨td, r⟩ := s
   dsimp only at hS hL hN hW hR hpos ⊢
   obtain ⟨ys, k, rfl⟩ := last_of hpos
   have hlow := low_len hL
   have hkk : WOk t k := hS.todo k (by simp)
   have hly : (ys ++ [k]).length = ys.length + 1 := by simp
   have hlyI : (((ys ++ [k]).length : Nat) : Int) = (ys.length : Int) + 1 := by omega
   have hwm : IntKind.i64.wrap (ys.length : Nat) = (ys.length : Nat) := wrap_i64 (by omega) (by omega)
   have hy0 : (0 : Int) ≤ (ys.length : Nat) := by omega
   have hkl : (wV k).length = 52 := wV_52 hkk.wk.len
   have hko := wV_one k
   have hkt : List.take 52 (wV k) = wV k := List.take_of_length_le (by omega)
   rw [todoR_last]
   obtain ⟨f, rfl⟩ : ∃ f2, f = f2 + 1 := ⟨f - 1, by omega⟩
   refine tr_skip ?_
   refine hK5 _ ?_; try clear hK5 K5
   refine tr_block ?_
   refine draw_k T_ok (by kernel_rfl) 13 [[], [0], [0, 1], [0, 1, 2], [], [4], [4, 5], [4, 5, 6], [4, 5, 6, 7], [4, 5, 6, 7, 8], [0, 1, 2, 3, 4, 5, 6, 7, 8, 9], [0, 1, 2, 3, 4, 5, 6, 7, 8, 9, 10], [], [0, 1, 2, 3, 4, 5, 6, 7, 8, 9, 10, 11, 12]] [(0, 12), (1, 12), (2, 12), (3, 12), (4, 12), (5, 12), (6, 12), (7, 12), (8, 12), (9, 12), (10, 12), (11, 12)] (by decide) (by decide) (by decide) fun K hK => ?_
   first | dsimp only [List.take, List.drop] | dsimp [List.take, List.drop]
   simp [go_sem, nn120, mm120, nn121, mm121, nn122, mm122, nn123, mm123, nn124, mm124, nn125, mm125, nn126, mm126, hlyI, hwm, hy0, hkl, hkt, todoR_len, todoR_get, todoR_at]
   repeat refine ⟨by omega, ?_⟩
   generalize hqe : j + 1 + 1 + 1 + 1 + 1 + 1 + 1 + 1 + 1 + 1 + 1 + 1 = q
   have hqj : j < q := by omega
   have hqm : m < q := by omega
   have nn160 : ¬ q = 0 := by omega
   have mm160 : ¬ 0 = q := by omega
   have nn161 : ¬ q = 1 := by omega
   have mm161 : ¬ 1 = q := by omega
   have nn162 : ¬ q = 2 := by omega
   have mm162 : ¬ 2 = q := by omega
   have nn163 : ¬ q = m := by omega
   have mm163 : ¬ m = q := by omega
   refine hK _ ?_; clear hK K
   refine draw_k T_ok (by kernel_rfl) 12 [[], [], [1], [1, 2], [1, 2, 3], [], [5], [5, 6], [5, 6, 7], [5, 6, 7, 8], [5, 6, 7, 8, 9], [1, 2, 3, 4, 5, 6, 7, 8, 9, 10], [0, 1, 2, 3, 4, 5, 6, 7, 8, 9, 10, 11], [0, 1, 2, 3, 4, 5, 6, 7, 8, 9, 10, 11, 12], [0, 1, 2, 3, 4, 5, 6, 7, 8, 9, 10, 11, 12, 13]] [] (by decide) (by decide) (by decide) fun K hK => ?_
   first | dsimp only [List.take, List.drop] | dsimp [List.take, List.drop]
   simp [go_sem, nn120, mm120, nn121, mm121, nn122, mm122, nn123, mm123, nn124, mm124, nn125, mm125, nn126, mm126, nn160, mm160, nn161, mm161, nn162, mm162, nn163, mm163, hlyI, hwm, hy0]
   repeat refine ⟨by omega, ?_⟩
   refine hK _ ?_; clear hK K
   refine region_e T_ok (by decide) fun K hK => ?_
   simp [go_sem, nn120, mm120, nn121, mm121, nn122, mm122, nn123, mm123, nn124, mm124, nn125, mm125, nn126, mm126, nn160, mm160, nn161, mm161, nn162, mm162, nn163, mm163, hkl, hkt]
   refine call_ex (next_fn t ht k hkk (ys, r) ⟨fun q hq => hS.todo q (List.mem_append_left _ hq), hS.seen, hS.ends⟩ (by dsimp only; omega) m (.agg (wV k) :: js) _ hm2 (by omega)) (by simp [seH, nn120, mm120, nn121, mm121, nn122, mm122, nn123, mm123, nn124, mm124, nn125, mm125, nn126, mm126, nn160, mm160, nn161, mm161, nn162, mm162, nn163, mm163]) (by simp [seH, go_sem, nn120, mm120, nn121, mm121, nn122, mm122, nn123, mm123, nn124, mm124, nn125, mm125, nn126, mm126, nn160, mm160, nn161, mm161, nn162, mm162, nn163, mm163]) fun k2 a2 hk2 ha4 => ?_
   obtain ⟨m2, js2⟩ := a2
   obtain ⟨ha5, ha6, ha7⟩ := ha4
   dsimp only at ha5 ha6 ha7
   have nn164 : ¬ m2 = 0 := by omega
   have mm164 : ¬ 0 = m2 := by omega
   have nn165 : ¬ m2 = 1 := by omega
   have mm165 : ¬ 1 = m2 := by omega
   have nn166 : ¬ m2 = 2 := by omega
   have mm166 : ¬ 2 = m2 := by omega
   have nn167 : ¬ m2 = q := by omega
   have mm167 : ¬ q = m2 := by omega
   simp [go_sem, seH, nn120, mm120, nn121, mm121, nn122, mm122, nn123, mm123, nn124, mm124, nn125, mm125, nn126, mm126, nn160, mm160, nn161, mm161, nn162, mm162, nn163, mm163, nn164, mm164, nn165, mm165, nn166, mm166, nn167, mm167]
   refine hK _ ?_; clear hK K
   refine ⟨(f, nextS t k (ys, r), k2, m2, js2), ?_, ?_, ?_⟩
   ·dsimp only
    refine ⟨nextS_ok ht hkk ⟨fun q hq => hS.todo q (List.mem_append_left _ hq), hS.seen, hS.ends⟩, ?_, next_nodup hN, ?_, ?_, ha5, ha6⟩
    ·have := low_next ht hS (k := k) (by simp) hL; simpa using this
    ·have := run_less ht hS (k := k) (by simp); simp at this; omega
    ·rw [← hR, run_step]
   ·dsimp only; omega
   ·refine Weaker.fzk 1 0 (by first | omega | (dsimp only; omega)) ?_ ?_ ?_
    ·simp [go_sem, nn120, mm120, nn121, mm121, nn122, mm122, nn123, mm123, nn124, mm124, nn125, mm125, nn126, mm126]
    ·first | (simp; done) | (simp; omega)
    simp [go_sem, nn160, mm160, nn161, mm161, nn162, mm162, nn163, mm163, nn164, mm164, nn165, mm165, nn166, mm166, nn167, mm167]
  ·have hz : s.1.length = 0 := by simpa using h
   obtain ⟨td, sn, en⟩ := s
   dsimp only at hS hL hN hW hR hz ⊢
   obtain rfl : td = [] := List.length_eq_zero_iff.1 hz
   have hE : seqEnds t = en := by show (runS t (fuelS t) (beginS t)).2.2 = en; rw [← hR, run_done]
   refine tr_exit ?_
   refine hK4 _ ?_; try clear hK4 K4
   have hE1 : ∀ q ∈ en, q.length = 41 := hS.ends
   have hbe : en.length ≤ 400000000000 := by rw [← hE]; exact hb
   refine region_k T_ok (by decide) fun K hK => ?_
   simp [go_sem, nn120, mm120, nn121, mm121, nn122, mm122, nn123, mm123, nn124, mm124, nn125, mm125, nn126, mm126]
   refine call_fn ((of_fn en hE1 hN hbe 1 j (by omega)).frame (G := [_, _, _]) (List.perm_middle (l₁ := [_, _]) (l₂ := [_])) ?_)
   rintro v H' k' hk' ⟨rfl, rfl⟩
   simp [go_sem]
   refine hK _ ?_; clear hK K
   refine tr_ret ⟨.inr rfl, ?_⟩
   simp [go_sem, hE]
open Go Go.Sl Go.Proofs.Try
set_option maxRecDepth 100000 in
set_option maxHeartbeats 16000000 in
theorem buffering_pf (f : Bool) : Pf Try.prog 97 [bV f] (.agg (bufT f).cs) := by
 refine Pf.of_fz 2 (.cons (.val _) .nil) (.agg (nl_tst _)) ?_
 refine fn_in T_ok func97 rfl rfl ntmps97 rfl (by simp) ?_
 refine region_k T_ok (by decide) fun K hK => ?_
 simp [go_sem]
 refine hK _ ?_; clear hK K
 refine region_k T_ok (by decide) fun K hK => ?_
 simp [go_sem]
 refine hK _ ?_; clear hK K
 refine seq_k fun K1 hK1 => ?_
 refine region_k T_ok (by decide) fun K hK => ?_
 simp [go_sem]
 refine hK _ ?_; clear hK K
 refine tr_block ?_
 refine Tr.weaken (Weaker.ghostH (sz := 3) (es := [.agg [.sl 1 0 2, .val (.slice none 0 0), .val (.slice none 0 0)]]) 2 3 [.agg [.sl 1 0 2, .val (.slice none 0 0), .sl 3 0 0]] (by simp [Sl.look]) (by simp) (by simp) (by simp [V.fits, V.cells, V.one]) (by simp only [List.flatMap_cons, List.flatMap_nil, V.cells, List.append_nil]; exact .same (.same (.to .nil)))) ?_
 simp only [Sl.put, if_true, if_false, Nat.reduceEqDiff, reduceIte]
 refine Tr.weaken (Weaker.ghostH (sz := 3) (es := [.agg [.sl 1 0 2, .val (.slice none 0 0), .sl 3 0 0]]) 2 1 [.agg [.sl 1 0 2, .sl 4 0 0, .sl 3 0 0]] (by simp [Sl.look]) (by simp) (by simp) (by simp [V.fits, V.cells, V.one]) (by simp only [List.flatMap_cons, List.flatMap_nil, V.cells, List.append_nil]; exact .same (.to (.same .nil)))) ?_
 simp only [Sl.put, if_true, if_false, Nat.reduceEqDiff, reduceIte]
 refine loop_p (α := Nat × Nat × Nat) (fun a => ⟨35, [(0, bV f), (2, .ptr 0 0 0), (3, .ptr 2 0 0), (4, iV (a.1 : Nat))], [(0, .rows 3 [.agg [.val (.slice none 0 0), .val (.slice none 0 0), .val (.slice none 0 0)]]), (1, .rows 2 (inis bufI)), (2, .rows 3 [.agg [.sl 1 0 2, .sl a.2.2 0 a.1, .sl 3 0 0]]), (a.2.2, .rows 1 (thrs (bufP f a.1))), (3, .rows 3 [])], a.2.1⟩) (fun a => a.1 ≤ 2 ∧ 3 < a.2.2 ∧ a.2.2 < a.2.1) (fun a => 2 - a.1) (0, 5, 4) ?_ ?_ ?_
 ·dsimp only; omega
 ·refine Weaker.fzk 1 1 (by first | omega | (dsimp only; omega)) ?_ ?_ ?_
  ·simp [go_sem]
  ·first | (simp; done) | (simp; omega)
  ·simp [go_sem, bufI, inis, iniC, Ini.cs, nmX, nmY, bufP, thrs]
 rintro ⟨i, j, m⟩ ⟨hi, hm1, hm2⟩
 dsimp only at hi hm1 hm2 ⊢
 have nn0 : ¬ m = 0 := by omega
 have mm0 : ¬ 0 = m := by omega
 have nn1 : ¬ m = 1 := by omega
 have mm1 : ¬ 1 = m := by omega
 have nn2 : ¬ m = 2 := by omega
 have mm2 : ¬ 2 = m := by omega
 have nn3 : ¬ m = 3 := by omega
 have mm3 : ¬ 3 = m := by omega
 have nn4 : ¬ m = j := by omega
 have mm4 : ¬ j = m := by omega
 have nn5 : ¬ m = j + 1 := by omega
 have mm5 : ¬ j + 1 = m := by omega
 have nn6 : ¬ m = j + 2 := by omega
 have mm6 : ¬ j + 2 = m := by omega
 have nn7 : ¬ m = j + 3 := by omega
 have mm7 : ¬ j + 3 = m := by omega
 have nn8 : ¬ m = j + 4 := by omega
 have mm8 : ¬ j + 4 = m := by omega
 have nn9 : ¬ m = j + 5 := by omega
 have mm9 : ¬ j + 5 = m := by omega
 have nn10 : ¬ m = j + 6 := by omega
 have mm10 : ¬ j + 6 = m := by omega
 have nn11 : ¬ m = j + 7 := by omega
 have mm11 : ¬ j + 7 = m := by omega
 have nn12 : ¬ m = j + 8 := by omega
 have mm12 : ¬ j + 8 = m := by omega
 have nn13 : ¬ m = j + 9 := by omega
 have mm13 : ¬ j + 9 = m := by omega
 have nn14 : ¬ m = j + 10 := by omega
 have mm14 : ¬ j + 10 = m := by omega
 have nn15 : ¬ m = j + 11 := by omega
 have mm15 : ¬ j + 11 = m := by omega
 have nn16 : ¬ m = j + 12 := by omega
 have mm16 : ¬ j + 12 = m := by omega
 have nn17 : ¬ m = j + 13 := by omega
 have mm17 : ¬ j + 13 = m := by omega
 have nn18 : ¬ m = j + 14 := by omega
 have mm18 : ¬ j + 14 = m := by omega
 have nn19 : ¬ m = j + 15 := by omega
 have mm19 : ¬ j + 15 = m := by omega
 have nn20 : ¬ m = j + 16 := by omega
 have mm20 : ¬ j + 16 = m := by omega
 have nn21 : ¬ m = j + 17 := by omega
 have mm21 : ¬ j + 17 = m := by omega
 have nn22 : ¬ m = j + 18 := by omega
 have mm22 : ¬ j + 18 = m := by omega
 have nn23 : ¬ m = j + 19 := by omega
 have mm23 : ¬ j + 19 = m := by omega
 have nn24 : ¬ m = j + 20 := by omega
 have mm24 : ¬ j + 20 = m := by omega
 have nn25 : ¬ m = j + 21 := by omega
 have mm25 : ¬ j + 21 = m := by omega
 have nn26 : ¬ j = 0 := by omega
 have mm26 : ¬ 0 = j := by omega
 have nn27 : ¬ j = 1 := by omega
 have mm27 : ¬ 1 = j := by omega
 have nn28 : ¬ j = 2 := by omega
 have mm28 : ¬ 2 = j := by omega
 have nn29 : ¬ j = 3 := by omega
 have mm29 : ¬ 3 = j := by omega
 refine seq_k fun K2 hK2 => ?_
 refine region_k T_ok (by decide) fun K hK => ?_
 simp [go_sem]
 refine hK _ ?_; clear hK K
 refine cond_k rfl (fun h => ?_) (fun h => ?_)
 ·have hi2 : i < 2 := by simp at h; omega
  have hw : IntKind.i64.wrap ((i : Nat) + 1) = (i : Nat) + 1 := wrap_i64 (by omega) (by omega)
  have hmi : List.take i (thrs (bufP f i)) = thrs (bufP f i) := List.take_of_length_le (by rw [thrs_len, bufP_len hi]; omega)
  have hw2 : IntKind.i64.wrap (1 - (i : Int)) = 1 - (i : Nat) := wrap_i64 (by omega) (by omega)
  refine tr_skip ?_
  refine hK2 _ ?_; try clear hK2 K2
  refine seq_k fun K3 hK3 => ?_
  refine tr_block ?_
  refine region_k T_ok (by decide) fun K hK => ?_
  simp [go_sem]
  refine hK _ ?_; clear hK K
  refine seq_k fun K4 hK4 => ?_
  refine region_k T_ok (by decide) fun K hK => ?_
  simp [go_sem]
  refine hK _ ?_; clear hK K
  refine cond_k rfl (fun h => ?_) (fun h => ?_)
  ·have hf : f = true := h
   refine region_e T_ok (by decide) fun K hK => ?_
   simp [go_sem]
   refine hK _ ?_; clear hK K
   refine hK4 _ ?_; try clear hK4 K4
   refine draw_e T_ok (by kernel_rfl) 9 [[], [0], [], [], [3], [3, 4], [3, 4, 5], [2, 3, 4, 5, 6], [2, 3, 4, 5, 6, 7], [0, 1, 2, 3, 4, 5, 6, 7, 8], [0, 1, 2, 3, 4, 5, 6, 7, 8, 9], [0, 1, 2, 3, 4, 5, 6, 7, 8, 9, 10]] [(0, 6), (1, 6), (2, 6), (0, 7), (1, 7), (0, 8), (1, 8)] (by decide) (by decide) (by decide) fun K hK => ?_
   first | dsimp only [List.take, List.drop] | dsimp [List.take, List.drop]
   simp [go_sem, hw2, hmi, nn0, mm0, nn1, mm1, nn2, mm2, nn3, mm3, nn4, mm4, nn5, mm5, nn6, mm6, nn7, mm7, nn8, mm8, nn9, mm9, nn10, mm10, nn11, mm11, nn12, mm12, nn13, mm13, nn14, mm14, nn15, mm15, nn16, mm16, nn17, mm17, nn18, mm18, nn19, mm19, nn20, mm20, nn21, mm21, nn22, mm22, nn23, mm23, nn24, mm24, nn25, mm25, nn26, mm26, nn27, mm27, nn28, mm28, nn29, mm29]
   refine ⟨by rw [bufP_len hi]; omega, by omega, ?_⟩
   refine hK _ ?_; clear hK K
   refine hK3 _ ?_; try clear hK3 K3
   refine region_e T_ok (by decide) fun K hK => ?_
   simp [go_sem, hw]
   refine hK _ ?_; clear hK K
   refine ⟨(i + 1, j + 100, j + 12), ?_, ?_, ?_⟩
   ·dsimp only; omega
   ·dsimp only; omega
   ·refine Weaker.fzk 1 1 (by first | omega | (dsimp only; omega)) ?_ ?_ ?_
    ·simp [go_sem, nn0, mm0, nn1, mm1, nn2, mm2, nn3, mm3, nn4, mm4, nn5, mm5, nn6, mm6, nn7, mm7, nn8, mm8, nn9, mm9, nn10, mm10, nn11, mm11, nn12, mm12, nn13, mm13, nn14, mm14, nn15, mm15, nn16, mm16, nn17, mm17, nn18, mm18, nn19, mm19, nn20, mm20, nn21, mm21, nn22, mm22, nn23, mm23, nn24, mm24, nn25, mm25, nn26, mm26, nn27, mm27, nn28, mm28, nn29, mm29]
    ·first | (simp; done) | (simp; omega)
    simp [go_sem, bufP_step hi2, thrs_append, thrs_one, hf, bufL, insS, insL, insF, inss, insC, Ins.cs, nn0, mm0, nn1, mm1, nn2, mm2, nn3, mm3, nn4, mm4, nn5, mm5, nn6, mm6, nn7, mm7, nn8, mm8, nn9, mm9, nn10, mm10, nn11, mm11, nn12, mm12, nn13, mm13, nn14, mm14, nn15, mm15, nn16, mm16, nn17, mm17, nn18, mm18, nn19, mm19, nn20, mm20, nn21, mm21, nn22, mm22, nn23, mm23, nn24, mm24, nn25, mm25, nn26, mm26, nn27, mm27, nn28, mm28, nn29, mm29]
  ·have hf : f = false := h
   refine tr_skip ?_
   refine hK4 _ ?_; try clear hK4 K4
   refine draw_e T_ok (by kernel_rfl) 9 [[], [0], [], [], [3], [3, 4], [3, 4, 5], [2, 3, 4, 5, 6], [2, 3, 4, 5, 6, 7], [0, 1, 2, 3, 4, 5, 6, 7, 8], [0, 1, 2, 3, 4, 5, 6, 7, 8, 9], [0, 1, 2, 3, 4, 5, 6, 7, 8, 9, 10]] [(0, 6), (1, 6), (2, 6), (0, 7), (1, 7), (0, 8), (1, 8)] (by decide) (by decide) (by decide) fun K hK => ?_
   first | dsimp only [List.take, List.drop] | dsimp [List.take, List.drop]
   simp [go_sem, hw2, hmi, nn0, mm0, nn1, mm1, nn2, mm2, nn3, mm3, nn4, mm4, nn5, mm5, nn6, mm6, nn7, mm7, nn8, mm8, nn9, mm9, nn10, mm10, nn11, mm11, nn12, mm12, nn13, mm13, nn14, mm14, nn15, mm15, nn16, mm16, nn17, mm17, nn18, mm18, nn19, mm19, nn20, mm20, nn21, mm21, nn22, mm22, nn23, mm23, nn24, mm24, nn25, mm25, nn26, mm26, nn27, mm27, nn28, mm28, nn29, mm29]
   refine ⟨by rw [bufP_len hi]; omega, by omega, ?_⟩
   refine hK _ ?_; clear hK K
   refine hK3 _ ?_; try clear hK3 K3
   refine region_e T_ok (by decide) fun K hK => ?_
   simp [go_sem, hw]
   refine hK _ ?_; clear hK K
   refine ⟨(i + 1, j + 100, j + 10), ?_, ?_, ?_⟩
   ·dsimp only; omega
   ·dsimp only; omega
   ·refine Weaker.fzk 1 1 (by first | omega | (dsimp only; omega)) ?_ ?_ ?_
    ·simp [go_sem, nn0, mm0, nn1, mm1, nn2, mm2, nn3, mm3, nn4, mm4, nn5, mm5, nn6, mm6, nn7, mm7, nn8, mm8, nn9, mm9, nn10, mm10, nn11, mm11, nn12, mm12, nn13, mm13, nn14, mm14, nn15, mm15, nn16, mm16, nn17, mm17, nn18, mm18, nn19, mm19, nn20, mm20, nn21, mm21, nn22, mm22, nn23, mm23, nn24, mm24, nn25, mm25, nn26, mm26, nn27, mm27, nn28, mm28, nn29, mm29]
    ·first | (simp; done) | (simp; omega)
    simp [go_sem, bufP_step hi2, thrs_append, thrs_one, hf, bufL, insS, insL, insF, inss, insC, Ins.cs, nn0, mm0, nn1, mm1, nn2, mm2, nn3, mm3, nn4, mm4, nn5, mm5, nn6, mm6, nn7, mm7, nn8, mm8, nn9, mm9, nn10, mm10, nn11, mm11, nn12, mm12, nn13, mm13, nn14, mm14, nn15, mm15, nn16, mm16, nn17, mm17, nn18, mm18, nn19, mm19, nn20, mm20, nn21, mm21, nn22, mm22, nn23, mm23, nn24, mm24, nn25, mm25, nn26, mm26, nn27, mm27, nn28, mm28, nn29, mm29]
 ·obtain rfl : i = 2 := by simp at h; omega
  refine tr_exit ?_
  refine hK1 _ ?_; try clear hK1 K1
  refine region_k T_ok (by decide) fun K hK => ?_
  simp [go_sem]
  refine hK _ ?_; clear hK K
  refine tr_ret ⟨.inr rfl, ?_⟩
  simp [go_sem, buf_cs, bufP_all, nn0, mm0, nn1, mm1, nn2, mm2, nn3, mm3, nn4, mm4, nn5, mm5, nn6, mm6, nn7, mm7, nn8, mm8, nn9, mm9, nn10, mm10, nn11, mm11, nn12, mm12, nn13, mm13, nn14, mm14, nn15, mm15, nn16, mm16, nn17, mm17, nn18, mm18, nn19, mm19, nn20, mm20, nn21, mm21, nn22, mm22, nn23, mm23, nn24, mm24, nn25, mm25, nn26, mm26, nn27, mm27, nn28, mm28, nn29, mm29]
  exact ⟨rfl, rfl⟩
set_option maxRecDepth 100000 in
set_option maxHeartbeats 4000000 in
theorem state4_pf  : Pf Try.prog 99 [.ro 1 [uV 0, uV 0, uV 1, uV 1]] (.agg (stK st4)) := by
 refine Pf.of_fn (.cons (.ro (fun v hv => by simp at hv; rcases hv with rfl | rfl <;> exact .cons (.val _) .nil)) .nil) (.agg (nl_stK _)) ?_
 refine fn_in T_ok func99 rfl rfl ntmps99 rfl (by simp) ?_
 refine region_k T_ok (by decide) fun K hK => ?_
 simp [go_sem]
 refine hK _ ?_; clear hK K
 refine region_k T_ok (by decide) fun K hK => ?_
 simp [go_sem]
 refine hK _ ?_; clear hK K
 refine region_k T_ok (by decide) fun K hK => ?_
 simp [go_sem]
 trace_state
 refine hK _ ?_; clear hK K
 refine region_k T_ok (by decide) fun K hK => ?_
 simp [go_sem]
 refine hK _ ?_; clear hK K
 refine tr_ret ⟨.inr rfl, ?_⟩
 simp [go_sem]
 rfl
open Go Go.Sl Go.Proofs.Try
def setT : List (List Int) := setOf (tsoEnds (bufT true))
open Go Go.Sl Go.Proofs.Try
open Go Go.Sl Go.Proofs.Try
open Go Go.Sl Go.Proofs.Try
open Go Go.Sl Go.Proofs.Try
open Go Go.Sl Go.Proofs.Try
open Go Go.Sl Go.Proofs.Try
open Go Go.Sl Go.Proofs.Try
open Go Go.Sl Go.Proofs.Try
open Go Go.Sl Go.Proofs.Try
open Go Go.Sl Go.Proofs.Try
open Go Go.Sl Go.Proofs.Try
set_option maxRecDepth 100000 in
set_option maxHeartbeats 4000000 in
theorem state5_pf  : Pf Try.prog 99 [.ro 1 [uV 1, uV 1, uV 1, uV 1]] (.agg (stK st5)) := by
 refine Pf.of_fn (.cons (.ro (fun v hv => by simp at hv; rcases hv with rfl | rfl <;> exact .cons (.val _) .nil)) .nil) (.agg (nl_stK _)) ?_
 refine fn_in T_ok func99 rfl rfl ntmps99 rfl (by simp) ?_
 refine region_k T_ok (by decide) fun K hK => ?_
 simp [go_sem]
 refine hK _ ?_; clear hK K
 refine region_k T_ok (by decide) fun K hK => ?_
 simp [go_sem]
 refine hK _ ?_; clear hK K
 refine region_k T_ok (by decide) fun K hK => ?_
 simp [go_sem]
 refine hK _ ?_; clear hK K
 refine region_k T_ok (by decide) fun K hK => ?_
 simp [go_sem]
 refine hK _ ?_; clear hK K
 refine tr_ret ⟨.inr rfl, ?_⟩
 simp [go_sem]
 rfl
set_option maxRecDepth 100000 in
set_option maxHeartbeats 8000000 in
theorem awake15  : Pf Try.prog 62 [] (bV true) := by
 refine Pf.of_fn .nil (.val _) ?_
 refine fn_in T_ok func62 rfl rfl ntmps62 rfl (by simp) ?_
 refine region_k T_ok (by decide) fun K hK => ?_
 simp [go_sem]
 refine hK _ ?_; clear hK K
 refine region_k T_ok (by decide) fun K hK => ?_
 simp [go_sem]
 refine call_pf (buffering_pf false) ?_
 simp [go_sem, buf_cs]
 refine hK _ ?_; clear hK K
 refine Tr.weaken (Weaker.fz (t' := [(1, .rp (bufT false).cs 0)]) (H' := []) 1 0 (by simp [go_sem, buf_cs]) (by simp) (by simp)) ?_
 refine region_k T_ok (by decide) fun K hK => ?_
 simp [go_sem]
 refine call_pf (seqc_pf (bufT false) (bufS_ok _) (by rw [endsQ]; decide)) ?_
 simp [go_sem]
 refine hK _ ?_; clear hK K
 refine region_k T_ok (by decide) fun K hK => ?_
 simp [go_sem, setQ_len]
 refine call_lendP state4_pf (pure_agg (stK_vals _)) 2 (by simp [go_sem]) ?_
 simp [go_sem, setQ_len]
 refine call_pf (has_pf _ setQ_41 (rising_setOf _) (by rw [setQ_len]; decide) st4 rfl) ?_
 simp [go_sem, setQ_len, setQ_no]
 refine call_lendP state5_pf (pure_agg (stK_vals _)) 2 (by simp [go_sem]) ?_
 simp [go_sem, setQ_len, setQ_no]
 refine call_pf (has_pf _ setQ_41 (rising_setOf _) (by rw [setQ_len]; decide) st5 rfl) ?_
 simp [go_sem, setQ_len, setQ_no, setQ_has]
 refine hK _ ?_; clear hK K
 refine tr_ret ⟨.inr rfl, ?_⟩
 simp [go_sem]
open Go Go.Sl Go.Proofs.Try
def pairS (v : Int) : List (List Int) := setOf (seqEnds (pairT v))
theorem pairS_41 (v : Int) : ∀ q ∈ pairS v, q.length = 41 := seq41 (pairT_ok v)
theorem pairS_len (v : Int) : (pairS v).length ≤ 400000000000 := by unfold pairS; rw [seqLen]; exact pair_few v
theorem pairS_pos (v : Int) : 0 < (pairS v).length := seq_pos (pairT_ok v)
theorem pairS_at {v : Int} (h0 : 0 ≤ v) (h1 : v < 18446744073709551616) {q : List Int} (h : q ∈ pairS v) : ∃ a0 b0 a1 b1 x : Int, stK q = iV 5 :: uV a0 :: uV b0 :: uV a1 :: uV b1 :: uV x :: (List.replicate 35 0).map uV ∧ x = IntKind.u64.wrap (IntKind.u64.wrap (IntKind.u64.wrap (v + 2) - b0) - b1) := by
 obtain ⟨a0, b0, a1, b1, x, e, hx⟩ := pair_ends h0 h1 (mem_setOf.1 h)
 exact ⟨a0, b0, a1, b1, x, by rw [e]; rfl, hx⟩
set_option maxRecDepth 100000 in
set_option maxHeartbeats 16000000 in
theorem seqcPairs_pf (v : Int) (h0 : 0 ≤ v) (h1 : v < 18446744073709551616) : Pf Try.prog 12 [uV v] (bV true) := by
 refine Pf.of_fn (.cons (.val _) .nil) (.val _) ?_
 have hpos := pairS_pos v
 have hposI : (0 : Int) < ((pairS v).length : Nat) := by omega
 have hne : ¬ ((pairS v).length : Int) = 0 := by omega
 have hlen := pairS_len v
 refine fn_in T_ok func12 rfl rfl ntmps12 rfl (by simp) ?_
 refine region_k T_ok (by decide) fun K hK => ?_
 simp [go_sem]
 refine hK _ ?_; clear hK K
 refine region_k T_ok (by decide) fun K hK => ?_
 simp [go_sem]
 refine hK _ ?_; clear hK K
 refine region_k T_ok (by decide) fun K hK => ?_
 simp [go_sem]
 refine hK _ ?_; clear hK K
 refine region_k T_ok (by decide) fun K hK => ?_
 simp [go_sem]
 refine hK _ ?_; clear hK K
 refine Tr.weaken (Weaker.ghostH (sz := 3) (es := [.agg [.sl 2 0 1, .sl 3 0 2, .val (.slice none 0 0)]]) 4 3 [.agg [.sl 2 0 1, .sl 3 0 2, .sl 5 0 0]] (by simp [Sl.look]) (by simp) (by simp) (by simp [V.fits, V.cells, V.one]) (by simp only [List.flatMap_cons, List.flatMap_nil, V.cells, List.append_nil]; exact .same (.same (.to .nil)))) ?_
 simp only [Sl.put, if_true, if_false, Nat.reduceEqDiff, reduceIte]
 refine Tr.weaken (Weaker.fz (H' := []) (t' := [(0, uV v), (5, .rp (pairT v).cs 0)]) 3 0 ?_ ?_ ?_) ?_
 ·simp [go_sem, pairT, pairL, insLr, insAd, insSc, insC, Ins.cs, inss, thrs, inis, iniC, Ini.cs, nmX, atms, Tst.cs]
 ·simp
 ·simp
 refine region_k T_ok (by decide) fun K hK => ?_
 simp [go_sem]
 refine call_pf (seqc_pf (pairT v) (pairT_ok v) (pair_few v)) ?_
 simp [go_sem]
 refine hK _ ?_; clear hK K
 refine seq_k fun K1 hK1 => ?_
 have hps : setOf (seqEnds (pairT v)) = pairS v := rfl
 rw [hps]
 refine region_k T_ok (by decide) fun K hK => ?_
 simp [go_sem]
 refine hK _ ?_; clear hK K
 refine cond_k rfl (fun h => ?_) (fun h => ?_)
 ·have hz : (((pairS v).length : Nat) : Int) = 0 := eq_of_beq h
  omega
 ·clear h
  refine tr_skip ?_
  refine hK1 _ ?_; try clear hK1 K1
  refine seq_k fun K2 hK2 => ?_
  refine region_k T_ok (by decide) fun K hK => ?_
  simp [go_sem]
  refine hK _ ?_; clear hK K
  refine tr_block ?_
  refine loop_p (α := Nat × Nat) (fun a => ⟨55, [(0, uV v), (28, .ro 41 (stR (pairS v))), (29, iV ((pairS v).length : Nat)), (30, iV (a.1 : Nat))], [], a.2⟩) (fun a => a.1 ≤ (pairS v).length) (fun a => (pairS v).length - a.1) (0, 6) ?_ ?_ ?_
  ·exact Nat.zero_le _
  ·refine Weaker.fz 1 0 ?_ ?_ ?_
   ·simp [go_sem]
   ·first | (simp; done) | (simp; omega)
   ·simp [go_sem]
  rintro ⟨i, j⟩ hi
  dsimp only at hi ⊢
  refine region_k T_ok (by decide) fun K hK => ?_
  simp [go_sem]
  refine hK _ ?_; clear hK K
  refine seq_k fun K3 hK3 => ?_
  refine cond_k rfl (fun h => ?_) (fun h => ?_)
  ·simp at h
   have hin : i < (pairS v).length := by omega
   clear h
   have hinI : (i : Int) < ((pairS v).length : Nat) := by omega
   obtain ⟨q, hx, hx'⟩ := getAt hin
   have hi0 : (0 : Int) ≤ (i : Nat) := by omega
   have hw : IntKind.i64.wrap ((i : Nat) + 1) = (i : Nat) + 1 := wrap_i64 (by omega) (by omega)
   have hqm := List.mem_of_getElem? hx
   have hq41 := pairS_41 v q hqm
   obtain ⟨a0, b0, a1, b1, x, hq, hxe⟩ := pairS_at h0 h1 hqm
   have hsl : (stK q).length = 41 := by rw [stK_len]; exact hq41
   have hst : List.take 41 (stK q) = stK q := List.take_of_length_le (by omega)
   refine tr_skip ?_
   refine hK3 _ ?_; try clear hK3 K3
   refine seq_k fun K4 hK4 => ?_
   refine tr_block ?_
   refine region_k T_ok (by decide) fun K hK => ?_
   simp [go_sem, hin, hinI, hx, hx', hi0, hsl, hst]
   refine ⟨fun x hx => by obtain ⟨y, rfl⟩ := stK_vals q x hx; rfl, ?_⟩
   rw [hq]
   subst hxe
   refine hK _ ?_; clear hK K
   refine region_k T_ok (by decide) fun K hK => ?_
   simp [go_sem]
   refine hK _ ?_; clear hK K
   refine cond_k rfl (fun h => ?_) (fun h => ?_)
   ·simp at h
   ·clear h
    refine tr_skip ?_
    refine hK4 _ ?_; try clear hK4 K4
    refine region_e T_ok (by decide) fun K hK => ?_
    simp [go_sem, hw]
    refine hK _ ?_; clear hK K
    refine ⟨(i + 1, j + 1), ?_, ?_, ?_⟩
    ·dsimp only; omega
    ·dsimp only; omega
    ·refine Weaker.fz 1 0 ?_ ?_ ?_
     ·simp [go_sem]
     ·first | (simp; done) | (simp; omega)
     simp [go_sem]
  ·simp at h
   obtain rfl : i = (pairS v).length := by omega
   clear h
   refine tr_exit ?_
   refine hK2 _ ?_; try clear hK2 K2
   refine region_k T_ok (by decide) fun K hK => ?_
   simp [go_sem]
   refine call_pf (awake15) ?_
   simp [go_sem]
   refine hK _ ?_; clear hK K
   refine tr_ret ⟨.inr rfl, ?_⟩
   simp [go_sem]
open Go Go.Sl Go.Proofs.Try
theorem ownKnob16 : ownKnob Try.prog.godebug = none := by kernel_rfl
theorem laidOut16 : laidOutB Try.prog = true := by kernel_rfl
theorem ImpAs.to {P : Program} {t : TypeId} {α β : Type} {ok : α → Prop} {f : α → List V} {ok' : β → Prop} {f' : β → List V} (φ : α → β) (h : ImpAs P t ok f) (hok : ∀ a, ok a → ok' (φ a)) (hs : ∀ a, ok a → SeenAll (f a) (f' (φ a))) (hnl : ∀ b, NLs (f' b))
    (hone : ∀ b, (f' b).all V.one = true) (hlen : ∀ b, (f' b).length = P.cellsOf t) : ImpAs P t ok' f' where
  nl := hnl
  one b _ := hone b
  len b _ := hlen b
  imp hr := by
    obtain ⟨a, ha, hv⟩ := h.imp hr
    exact ⟨φ a, hok a ha, (hs a ha).rels hv⟩
theorem iU : ImpAs Try.prog 64 (fun n : Int => (Lit.int .u64 n).wf = true) fun n => [.val (.int .u64 n)] := imp_int Try.underlying64 (by kernel_rfl)
open Go Go.Sl Go.Proofs.Try
end Go.Proofs.Ytflooghnoljpcaa
