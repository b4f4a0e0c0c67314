/- Texts put together, in order: Gseqe, Gtsog, Gseqf, Gtsoh, Gtsoi, Glitd, Glite, Glitc, Glitf, Gtsoj, Glitj, Gtsok, Gtsol, Gtsom, Gtson, Gseqg, Gseqh, Gclitr, Gclitw. -/
import Derived.Test.YtflooghnoljpcaaRows
import Derived.Test.YtflooghnoljpcaaChecked
import Derived.KernelRfl
import Derived.Test.YtflooghnoljpcaaM5
set_option linter.unusedVariables false
set_option linter.unusedSimpArgs false
namespace Go.Proofs.Ytflooghnoljpcaa
open Go Go.Sl Go.Proofs.Try
theorem uss_take (k : List Int) (n : Nat) : List.take n (usRows (gAs k n)) = usRows (gAs k n) := List.take_of_length_le (by simp [usRows, gAs])
theorem steps_len {t : Tst} (ht : TSOk t) {k : List Int} (hk : WOk t k) (s : Ws) {i : Nat} (hi : i ≤ t.ths.length) : (stepsS t k i s).1.length ≤ s.1.length + 8 := by
 obtain ⟨l, e, h2, _⟩ := stepsS_grown ht hk s i hi
 rw [e, List.length_append]
 have := ht.tt.ths
 omega
theorem ends_same {t : Tst} {k : List Int} (s : Ws) : ∀ i, (stepsS t k i s).2.2 = s.2.2
 | 0 => rfl
 | i + 1 => by
  rw [stepsS]
  have : ∀ (l : List (List Int)) (s : Ws), (addsS l s).2.2 = s.2.2 := by
   intro l
   induction l with
   | nil => intro s; rfl
   | cons a l ih => intro s; exact (ih _).trans (addS_sub a s).2.2
  rw [this]; exact ends_same s i
set_option maxHeartbeats 8000000 in
set_option maxRecDepth 100000 in
theorem next_fn (t : Tst) (ht : TSOk t) (k : List Int) (hk : WOk t k) (s : Ws) (hs : SOk t s) (hl9 : s.1.length ≤ 700) (m : Nat) (js : List V) (n : Nat) (hm2 : 2 < m) (hmn : m < n) : Sl.Fn Try.prog 95 [.ptr 2 0 0, .agg (wV k)] (seH t s m js) n fun u H k' => ∃ a : Nat × List V, (2 < a.1 ∧ a.1 < k' ∧ (a.1 = m ∨ n ≤ a.1)) ∧ u = .tup [] ∧ H = seH t (nextS t k s) a.1 a.2 := by
 refine Fn.view ?_
 have nn0 : ¬ m = 0 := by omega
 have mm0 : ¬ 0 = m := by omega
 have nn1 : ¬ m = 1 := by omega
 have mm1 : ¬ 1 = m := by omega
 have nn2 : ¬ m = 2 := by omega
 have mm2 : ¬ 2 = m := by omega
 have nn3 : ¬ m = n := by omega
 have mm3 : ¬ n = m := by omega
 have nn4 : ¬ n = 0 := by omega
 have mm4 : ¬ 0 = n := by omega
 have nn5 : ¬ n = 1 := by omega
 have mm5 : ¬ 1 = n := by omega
 have nn6 : ¬ n = 2 := by omega
 have mm6 : ¬ 2 = n := by omega
 have hkl : (wV k).length = 52 := wV_52 hk.wk.len
 have hko := wV_one k
 have hkt : List.take 52 (wV k) = wV k := List.take_of_length_le (by omega)
 have ht4 := ht.tt.ths
 have hn0 : (0 : Int) ≤ (t.ths.length : Nat) := by omega
 unfold seH
 refine fn_in T_ok func95 rfl rfl ntmps95 rfl (by simp) ?_
 refine region_k T_ok (by decide) fun K hK => ?_
 simp [go_sem, hkl, hkt, nn0, mm0, nn1, mm1, nn2, mm2, nn3, mm3, nn4, mm4, nn5, mm5, nn6, mm6]
 refine ⟨hko, ?_⟩
 refine hK _ ?_; clear hK K
 refine region_k T_ok (by decide) fun K hK => ?_
 simp [go_sem]
 refine hK _ ?_; clear hK K
 refine seq_k fun K1 hK1 => ?_
 refine region_k T_ok (by decide) fun K hK => ?_
 simp [go_sem, nn0, mm0, nn1, mm1, nn2, mm2, nn3, mm3, nn4, mm4, nn5, mm5, nn6, mm6, Tst.cs, hn0]
 refine hK _ ?_; clear hK K
 refine tr_block ?_
 refine loop_p (α := Nat × Nat × Nat × List V) (fun a => ⟨73, [(0, .ptr 2 0 0), (3, .ptr n 0 0), (15, .ro 1 (thrs t.ths)), (16, iV (t.ths.length : Nat)), (17, iV (a.1 : Nat)), (4, bV (overS t k a.1))], [(n, .rows 52 [.agg (wV k)]), (2, .rows 4 [.agg [.rp t.cs 0, .sl a.2.2.1 0 (stepsS t k a.1 s).1.length, .map 0, .map 1]]), (0, .map (seenW (stepsS t k a.1 s).2.1)), (1, .map (seenM (stepsS t k a.1 s).2.2)), (a.2.2.1, .rows 52 (todoR (stepsS t k a.1 s).1 ++ a.2.2.2))], a.2.1⟩) (fun a => a.1 ≤ t.ths.length ∧ n < a.2.1 ∧ 2 < a.2.2.1 ∧ a.2.2.1 < a.2.1 ∧ (a.2.2.1 = m ∨ n < a.2.2.1)) (fun a => t.ths.length - a.1) (0, n + 1, m, js) ?_ ?_ ?_
 ·dsimp only; omega
 ·refine Weaker.fzk 1 0 (by first | omega | (dsimp only; omega)) ?_ ?_ ?_
  ·simp [go_sem, overS, Tst.cs, nn0, mm0, nn1, mm1, nn2, mm2, nn3, mm3, nn4, mm4, nn5, mm5, nn6, mm6]
  ·first | (simp; done) | (simp; omega)
  ·simp [go_sem, stepsS, Tst.cs, nn0, mm0, nn1, mm1, nn2, mm2, nn3, mm3, nn4, mm4, nn5, mm5, nn6, mm6]
 rintro ⟨i, j, m1, js1⟩ ⟨hi, hnj, hm12, hm1j, hm1⟩
 dsimp only at hi hnj hm12 hm1j hm1 ⊢
 have nn100 : ¬ m1 = 0 := by omega
 have mm100 : ¬ 0 = m1 := by omega
 have nn101 : ¬ m1 = 1 := by omega
 have mm101 : ¬ 1 = m1 := by omega
 have nn102 : ¬ m1 = 2 := by omega
 have mm102 : ¬ 2 = m1 := by omega
 have nn103 : ¬ m1 = n := by omega
 have mm103 : ¬ n = m1 := by omega
 refine region_k T_ok (by decide) fun K hK => ?_
 simp [go_sem, nn0, mm0, nn1, mm1, nn2, mm2, nn3, mm3, nn4, mm4, nn5, mm5, nn6, mm6, nn100, mm100, nn101, mm101, nn102, mm102, nn103, mm103]
 refine hK _ ?_; clear hK K
 refine seq_k fun K2 hK2 => ?_
 refine cond_k rfl (fun h => ?_) (fun h => ?_)
 ·simp at h
  have hin : i < t.ths.length := by omega
  clear h
  have hinI : (i : Int) < (t.ths.length : Nat) := by omega
  have hi4 : i < 4 := by omega
  have hi4I : (i : Int) < 4 := by omega
  have hi0 : (0 : Int) ≤ (i : Nat) := by omega
  have hib : i * 11 ≤ 33 := by omega
  have hw : IntKind.i64.wrap ((i : Nat) + 1) = (i : Nat) + 1 := wrap_i64 (by omega) (by omega)
  obtain ⟨p, hp, hpl⟩ := hk.pc i hi4
  have hx : t.ths[i]? = some (lth t i) := by rw [lth, List.getD, List.getElem?_eq_getElem hin]; rfl
  have hx' : t.ths[i] = lth t i := (List.getElem?_eq_some_iff.1 hx).2
  have hl8 : (lth t i).length ≤ 8 := (ht.tt.thr i _ hx).1
  have hpw : IntKind.i64.wrap (p : Nat) = (p : Nat) := wrap_i64 (by omega) (by omega)
  refine tr_skip ?_
  refine hK2 _ ?_; try clear hK2 K2
  refine seq_k fun K3 hK3 => ?_
  refine tr_block ?_
  refine region_k T_ok (by decide) fun K hK => ?_
  simp [go_sem, hin, hinI, hx, hx', hi0, nn0, mm0, nn1, mm1, nn2, mm2, nn3, mm3, nn4, mm4, nn5, mm5, nn6, mm6, nn100, mm100, nn101, mm101, nn102, mm102, nn103, mm103]
  refine hK _ ?_; clear hK K
  refine region_k T_ok (by decide) fun K hK => ?_
  simp [go_sem, hkl, wV_pc hk.wk.len hi4, hp, hpw, hi4, hi4I, hi0, hib, nn0, mm0, nn1, mm1, nn2, mm2, nn3, mm3, nn4, mm4, nn5, mm5, nn6, mm6, nn100, mm100, nn101, mm101, nn102, mm102, nn103, mm103]
  repeat refine ⟨by omega, ?_⟩
  refine hK _ ?_; clear hK K
  refine cond_k rfl (fun h => ?_) (fun h => ?_)
  ·have hpn : p < (lth t i).length := by simpa using h
   obtain ⟨x, hg, hg'⟩ := getAt hpn
   have hok := (ht.tt.thr i _ hx).2 p x hg
   have hloc := ht.loc i _ hx p x hg
   have hov : overS t k (i + 1) = false := by rw [overS_succ, hp]; simp; omega
   refine region_k T_ok (by decide) fun K hK => ?_
   simp [go_sem, nn0, mm0, nn1, mm1, nn2, mm2, nn3, mm3, nn4, mm4, nn5, mm5, nn6, mm6, nn100, mm100, nn101, mm101, nn102, mm102, nn103, mm103]
   refine hK _ ?_; clear hK K
   refine region_e T_ok (by decide) fun K hK => ?_
   simp [go_sem, hkl, hkt, nn0, mm0, nn1, mm1, nn2, mm2, nn3, mm3, nn4, mm4, nn5, mm5, nn6, mm6, nn100, mm100, nn101, mm101, nn102, mm102, nn103, mm103]
   refine call_ex (sstep_fn t k hk.wk hk.held i hi4 (lth t i) hx hl8 p hp x hg hok hloc (stepsS t k i s) (fun q hq => ((stepsS_ok ht hk i hi hs).seen q hq).wk) (by have := steps_len ht hk s hi; omega) m1 js1 _ hm12 (by omega)) (by simp [seH, nn0, mm0, nn1, mm1, nn2, mm2, nn3, mm3, nn4, mm4, nn5, mm5, nn6, mm6, nn100, mm100, nn101, mm101, nn102, mm102, nn103, mm103]) (by simp [seH, go_sem, nn0, mm0, nn1, mm1, nn2, mm2, nn3, mm3, nn4, mm4, nn5, mm5, nn6, mm6, nn100, mm100, nn101, mm101, nn102, mm102, nn103, mm103]) fun k2 a2 hk2 ha2 => ?_
   obtain ⟨m2, js2⟩ := a2
   obtain ⟨ha3, ha4, ha5⟩ := ha2
   dsimp only at ha3 ha4 ha5
   have nn200 : ¬ m2 = 0 := by omega
   have mm200 : ¬ 0 = m2 := by omega
   have nn201 : ¬ m2 = 1 := by omega
   have mm201 : ¬ 1 = m2 := by omega
   have nn202 : ¬ m2 = 2 := by omega
   have mm202 : ¬ 2 = m2 := by omega
   have nn203 : ¬ m2 = n := by omega
   have mm203 : ¬ n = m2 := by omega
   simp [go_sem, seH, nn0, mm0, nn1, mm1, nn2, mm2, nn3, mm3, nn4, mm4, nn5, mm5, nn6, mm6, nn100, mm100, nn101, mm101, nn102, mm102, nn103, mm103, nn200, mm200, nn201, mm201, nn202, mm202, nn203, mm203]
   have hss : stepsS t k (i + 1) s = addsS (doS x i (incS k i)) (stepsS t k i s) := by rw [stepsS, succS_some hp hg]
   refine hK _ ?_; clear hK K
   refine hK3 _ ?_; try clear hK3 K3
   refine region_e T_ok (by decide) fun K hK => ?_
   simp [go_sem, hw]
   refine hK _ ?_; clear hK K
   refine ⟨(i + 1, k2, m2, js2), ?_, ?_, ?_⟩
   ·dsimp only; omega
   ·dsimp only; omega
   ·refine Weaker.fzk 1 0 (by first | omega | (dsimp only; omega)) ?_ ?_ ?_
    ·simp [go_sem, hov, nn0, mm0, nn1, mm1, nn2, mm2, nn3, mm3, nn4, mm4, nn5, mm5, nn6, mm6, nn100, mm100, nn101, mm101, nn102, mm102, nn103, mm103]
    ·first | (simp; done) | (simp; omega)
    simp [go_sem, hss, nn0, mm0, nn1, mm1, nn2, mm2, nn3, mm3, nn4, mm4, nn5, mm5, nn6, mm6, nn200, mm200, nn201, mm201, nn202, mm202, nn203, mm203]
  ·have hpn : (lth t i).length ≤ p := by simpa using h
   have hov : overS t k (i + 1) = overS t k i := by rw [overS_succ, hp]; simp; omega
   have hss : stepsS t k (i + 1) s = stepsS t k i s := by rw [stepsS, succS_none (by rw [hp]; omega)]; rfl
   refine tr_skip ?_
   refine hK3 _ ?_; try clear hK3 K3
   refine region_e T_ok (by decide) fun K hK => ?_
   simp [go_sem, hw]
   refine hK _ ?_; clear hK K
   refine ⟨(i + 1, j, m1, js1), ?_, ?_, ?_⟩
   ·dsimp only; omega
   ·dsimp only; omega
   ·refine Weaker.fzk 1 0 (by first | omega | (dsimp only; omega)) ?_ ?_ ?_
    ·simp [go_sem, hov, nn0, mm0, nn1, mm1, nn2, mm2, nn3, mm3, nn4, mm4, nn5, mm5, nn6, mm6, nn100, mm100, nn101, mm101, nn102, mm102, nn103, mm103]
    ·first | (simp; done) | (simp; omega)
    simp [go_sem, hss, nn0, mm0, nn1, mm1, nn2, mm2, nn3, mm3, nn4, mm4, nn5, mm5, nn6, mm6, nn100, mm100, nn101, mm101, nn102, mm102, nn103, mm103]
 ·simp at h
  obtain rfl : i = t.ths.length := by omega
  clear h
  refine tr_exit ?_
  refine hK1 _ ?_; try clear hK1 K1
  refine seq_k fun K4 hK4 => ?_
  refine region_k T_ok (by decide) fun K hK => ?_
  simp [go_sem, nn0, mm0, nn1, mm1, nn2, mm2, nn3, mm3, nn4, mm4, nn5, mm5, nn6, mm6, nn100, mm100, nn101, mm101, nn102, mm102, nn103, mm103]
  refine hK _ ?_; clear hK K
  refine cond_k rfl (fun h => ?_) (fun h => ?_)
  ·have hov : overS t k t.ths.length = false := by simpa using h
   have hnx := nextS_go (s := s) hov
   refine tr_ret ⟨.inr rfl, ?_⟩
   simp [go_sem, hnx]
   exact ⟨_, _, View.del n _, m1, ⟨by omega, by omega, by omega⟩, rfl, js1, by simp [Sl.del, nn0, mm0, nn1, mm1, nn2, mm2, nn3, mm3, nn4, mm4, nn5, mm5, nn6, mm6, nn100, mm100, nn101, mm101, nn102, mm102, nn103, mm103]⟩
  ·have hov : overS t k t.ths.length = true := by simpa using h
   have hnx := nextS_over (s := s) hov
   have hss := over_steps (s := s) _ hov
   rw [hss]
   refine tr_skip ?_
   refine hK4 _ ?_; try clear hK4 K4
   refine region_k T_ok (by decide) fun K hK => ?_
   simp [go_sem, nn0, mm0, nn1, mm1, nn2, mm2, nn3, mm3, nn4, mm4, nn5, mm5, nn6, mm6, nn100, mm100, nn101, mm101, nn102, mm102, nn103, mm103, Tst.cs, hn0]
   repeat refine ⟨by omega, ?_⟩
   have nn300 : ¬ j = 0 := by omega
   have mm300 : ¬ 0 = j := by omega
   have nn301 : ¬ j = 1 := by omega
   have mm301 : ¬ 1 = j := by omega
   have nn302 : ¬ j = 2 := by omega
   have mm302 : ¬ 2 = j := by omega
   have nn303 : ¬ j = n := by omega
   have mm303 : ¬ n = j := by omega
   have nn304 : ¬ j = m1 := by omega
   have mm304 : ¬ m1 = j := by omega
   refine hK _ ?_; clear hK K
   refine seq_k fun K5 hK5 => ?_
   refine region_k T_ok (by decide) fun K hK => ?_
   simp [go_sem]
   refine hK _ ?_; clear hK K
   refine tr_block ?_
   refine loop_p (α := Nat) (fun a => ⟨73, [(0, .ptr 2 0 0), (3, .ptr n 0 0), (7, .sl j 0 t.ths.length), (48, iV (t.ths.length : Nat)), (49, iV (a : Nat))], [(j, .rows 8 (usRows (gIs k t.ths.length a))), (n, .rows 52 [.agg (wV k)]), (2, .rows 4 [.agg [.rp t.cs 0, .sl m1 0 s.1.length, .map 0, .map 1]]), (0, .map (seenW s.2.1)), (1, .map (seenM s.2.2)), (m1, .rows 52 (todoR s.1 ++ js1))], j + 1⟩) (fun a => a ≤ t.ths.length) (fun a => t.ths.length - a) 0 ?_ ?_ ?_
   ·exact Nat.zero_le _
   ·refine Weaker.fz 1 0 ?_ ?_ ?_
    ·simp [go_sem, nn0, mm0, nn1, mm1, nn2, mm2, nn3, mm3, nn4, mm4, nn5, mm5, nn6, mm6, nn100, mm100, nn101, mm101, nn102, mm102, nn103, mm103, nn300, mm300, nn301, mm301, nn302, mm302, nn303, mm303, nn304, mm304, gIs_zero, Tst.cs, List.replicate_succ]
    ·first | (simp; done) | (simp; omega)
    ·simp [go_sem, nn0, mm0, nn1, mm1, nn2, mm2, nn3, mm3, nn4, mm4, nn5, mm5, nn6, mm6, nn100, mm100, nn101, mm101, nn102, mm102, nn103, mm103, nn300, mm300, nn301, mm301, nn302, mm302, nn303, mm303, nn304, mm304, gIs_zero, Tst.cs, List.replicate_succ]
   rintro i hi
   skip
   refine region_k T_ok (by decide) fun K hK => ?_
   simp [go_sem]
   refine hK _ ?_; clear hK K
   refine seq_k fun K6 hK6 => ?_
   refine cond_k rfl (fun h => ?_) (fun h => ?_)
   ·simp at h
    have hin : i < t.ths.length := by omega
    clear h
    have hinI : (i : Int) < (t.ths.length : Nat) := by omega
    have hi4 : i < 4 := by omega
    have hi4I : (i : Int) < 4 := by omega
    have hi0 : (0 : Int) ≤ (i : Nat) := by omega
    have hw : IntKind.i64.wrap ((i : Nat) + 1) = (i : Nat) + 1 := wrap_i64 (by omega) (by omega)
    refine tr_skip ?_
    refine hK6 _ ?_; try clear hK6 K6
    refine seq_k fun K7 hK7 => ?_
    refine tr_block ?_
    refine region_k T_ok (by decide) fun K hK => ?_
    simp [go_sem]
    refine hK _ ?_; clear hK K
    refine region_e T_ok (by decide) fun K hK => ?_
    simp [go_sem, nn0, mm0, nn1, mm1, nn2, mm2, nn3, mm3, nn4, mm4, nn5, mm5, nn6, mm6, nn100, mm100, nn101, mm101, nn102, mm102, nn103, mm103, nn300, mm300, nn301, mm301, nn302, mm302, nn303, mm303, nn304, mm304, hin, hinI, hi4, hi4I, hi0, hkl, wV_regs hk.wk.len hi4, gIs_len, hang_drop, gIs_set hin]
    repeat refine ⟨by omega, ?_⟩
    refine hK _ ?_; clear hK K
    refine hK7 _ ?_; try clear hK7 K7
    refine region_e T_ok (by decide) fun K hK => ?_
    simp [go_sem, hw]
    refine hK _ ?_; clear hK K
    refine ⟨i + 1, ?_, ?_, ?_⟩
    ·omega
    ·omega
    ·refine Weaker.fz 1 0 ?_ ?_ ?_
     ·simp [go_sem, nn0, mm0, nn1, mm1, nn2, mm2, nn3, mm3, nn4, mm4, nn5, mm5, nn6, mm6, nn100, mm100, nn101, mm101, nn102, mm102, nn103, mm103, nn300, mm300, nn301, mm301, nn302, mm302, nn303, mm303, nn304, mm304, gIs_zero, Tst.cs, List.replicate_succ]
     ·first | (simp; done) | (simp; omega)
     simp [go_sem, nn0, mm0, nn1, mm1, nn2, mm2, nn3, mm3, nn4, mm4, nn5, mm5, nn6, mm6, nn100, mm100, nn101, mm101, nn102, mm102, nn103, mm103, nn300, mm300, nn301, mm301, nn302, mm302, nn303, mm303, nn304, mm304, gIs_zero, Tst.cs, List.replicate_succ]
   ·simp at h
    obtain rfl : i = t.ths.length := by omega
    clear h
    refine tr_exit ?_
    refine hK5 _ ?_; try clear hK5 K5
    have hmk : Pf Try.prog 114 [.rp t.cs 0, .ro 8 (usRows (gAs k t.ths.length)), .agg (hangC (fS k))] (.agg (stK (endS t k))) := made_pf t ht4 (thr_len ht.tt) (setB_rd ht.tt) ht.tt.locs (gAs k t.ths.length) (gAs_len _ _) (fS k)
    have hke := endS_len ht k
    have he : eqCells [EK.int, EK.int, EK.int, EK.int, EK.int, EK.int, EK.int, EK.int, EK.int, EK.int, EK.int, EK.int, EK.int, EK.int, EK.int, EK.int, EK.int, EK.int, EK.int, EK.int, EK.int, EK.int, EK.int, EK.int, EK.int, EK.int, EK.int, EK.int, EK.int, EK.int, EK.int, EK.int, EK.int, EK.int, EK.int, EK.int, EK.int, EK.int, EK.int, EK.int, EK.int] (stK (endS t k)) (stK (endS t k)) = _ := eq_stK hke hke
    have hi2 : insV [EK.int, EK.int, EK.int, EK.int, EK.int, EK.int, EK.int, EK.int, EK.int, EK.int, EK.int, EK.int, EK.int, EK.int, EK.int, EK.int, EK.int, EK.int, EK.int, EK.int, EK.int, EK.int, EK.int, EK.int, EK.int, EK.int, EK.int, EK.int, EK.int, EK.int, EK.int, EK.int, EK.int, EK.int, EK.int, EK.int, EK.int, EK.int, EK.int, EK.int, EK.int] (stK (endS t k)) (bV true) (seenM s.2.2) = _ := ins_seen hke hs.ends
    have ha : (if endS t k ∈ s.2.2 then s.2.2 else s.2.2 ++ [endS t k]) = addK (endS t k) s.2.2 := rfl
    rw [ha] at hi2
    refine draw_e T_ok (by kernel_rfl) 12 [[], [0], [0, 1], [0, 1, 2], [], [4], [4, 5], [4, 5, 6], [], [], [9], [4, 5, 6, 7, 8, 9, 10], [0, 1, 2, 3, 4, 5, 6, 7, 8, 9, 10, 11]] [] (by decide) (by decide) (by decide) fun K hK => ?_
    first | dsimp only [List.take, List.drop] | dsimp [List.take, List.drop]
    simp [go_sem, nn0, mm0, nn1, mm1, nn2, mm2, nn3, mm3, nn4, mm4, nn5, mm5, nn6, mm6, nn100, mm100, nn101, mm101, nn102, mm102, nn103, mm103, nn300, mm300, nn301, mm301, nn302, mm302, nn303, mm303, nn304, mm304, hkl, wV_mems hk.wk.len]
    refine callD_lendP hmk (pure_agg (stK_vals _)) 2 (by simp [go_sem, gIs_all, gAs_len, us_elem, uss_take, hang_frz, nn0, mm0, nn1, mm1, nn2, mm2, nn3, mm3, nn4, mm4, nn5, mm5, nn6, mm6, nn100, mm100, nn101, mm101, nn102, mm102, nn103, mm103, nn300, mm300, nn301, mm301, nn302, mm302, nn303, mm303, nn304, mm304]) ?_
    simp [go_sem, he, hi2, nn0, mm0, nn1, mm1, nn2, mm2, nn3, mm3, nn4, mm4, nn5, mm5, nn6, mm6, nn100, mm100, nn101, mm101, nn102, mm102, nn103, mm103, nn300, mm300, nn301, mm301, nn302, mm302, nn303, mm303, nn304, mm304]
    refine hK _ ?_; clear hK K
    refine ⟨.inl rfl, ?_⟩
    simp [go_sem, hnx]
    exact ⟨_, _, (View.del j _).trans (View.del n _), m1, ⟨by omega, by omega, by omega⟩, rfl, js1, by simp [Sl.del, nn0, mm0, nn1, mm1, nn2, mm2, nn3, mm3, nn4, mm4, nn5, mm5, nn6, mm6, nn100, mm100, nn101, mm101, nn102, mm102, nn103, mm103, nn300, mm300, nn301, mm301, nn302, mm302, nn303, mm303, nn304, mm304]⟩
open Go Go.Sl Go.Proofs.Try
theorem explore_fn {t : Tst} (ht : TTOk t) : ∀ n, ExpC t n
 | 0 => fun k _ h => absurd h (Nat.not_lt_zero _)
 | n + 1 => fun k hM hmu s hs j hj => explore1_fn t ht n (explore_fn ht n) k hM hmu s hs j hj
theorem initM_succ {t : Tst} {i : Nat} {l : Ini} (h : t.locs[i]? = some l) : initM t (i + 1) = (initM t i).set (104 + i) l.v := by rw [initM, List.getD, h]; rfl
set_option maxHeartbeats 8000000 in
set_option maxRecDepth 100000 in
theorem tso_pf (t : Tst) (ht : TTOk t) (hnp : hasPairs t.ths = false) (hb : (tsoEnds t).length ≤ 400000000000) : Pf Try.prog 66 [.rp t.cs 0] (.tup [.ro 41 (stR (setOf (tsoEnds t))), bV true]) := by
 refine Pf.of_fn (.cons (nl_rp t) .nil) (.tup (.cons (nl_stR _) (.cons (.val _) .nil))) ?_
 have hl8 := ht.locs
 have ht4 := ht.ths
 refine fn_in T_ok func66 rfl rfl ntmps66 rfl (by simp) ?_
 refine region_k T_ok (by decide) fun K hK => ?_
 simp [go_sem]
 refine hK _ ?_; clear hK K
 refine seq_k fun K1 hK1 => ?_
 refine region_k T_ok (by decide) fun K hK => ?_
 simp [go_sem]
 refine call_pf (hasPairs_pf t (by omega) (thr_len ht)) ?_
 simp [go_sem, hnp]
 refine hK _ ?_; clear hK K
 refine cond_k rfl (fun h => ?_) (fun h => ?_)
 ·simp at h
 ·clear h
  refine tr_skip ?_
  refine hK1 _ ?_; try clear hK1 K1
  refine region_k T_ok (by decide) fun K hK => ?_
  simp [go_sem]
  refine hK _ ?_; clear hK K
  refine region_k T_ok (by decide) fun K hK => ?_
  simp [go_sem]
  refine hK _ ?_; clear hK K
  refine seq_k fun K2 hK2 => ?_
  refine region_k T_ok (by decide) fun K hK => ?_
  simp [go_sem, Tst.cs]
  refine hK _ ?_; clear hK K
  refine tr_block ?_
  refine loop_p (α := Nat × Nat) (fun a => ⟨55, [(0, .rp t.cs 0), (4, .ptr 2 0 0), (5, .ptr 3 0 0), (19, .ro 2 (inis t.locs)), (20, iV (t.locs.length : Nat)), (21, iV (a.1 : Nat))], [(3, .rows 112 [.agg (mV (initM t a.1))]), (2, .rows 3 [.agg [.rp t.cs 0, .map 0, .map 1]]), (1, .map []), (0, .map [])], a.2⟩) (fun a => a.1 ≤ t.locs.length ∧ 3 < a.2) (fun a => t.locs.length - a.1) (0, 4) ?_ ?_ ?_
  ·dsimp only; omega
  ·refine Weaker.fzk 1 0 (by first | omega | (dsimp only; omega)) ?_ ?_ ?_
   ·simp [go_sem, Tst.cs]
   ·first | (simp; done) | (simp; omega)
   ·simp [go_sem, Tst.cs]; rfl
  rintro ⟨i, jn⟩ ⟨hi, hjn⟩
  dsimp only at hi hjn ⊢
  have nn0 : ¬ jn = 0 := by omega
  have mm0 : ¬ 0 = jn := by omega
  have nn1 : ¬ jn = 1 := by omega
  have mm1 : ¬ 1 = jn := by omega
  have nn2 : ¬ jn = 2 := by omega
  have mm2 : ¬ 2 = jn := by omega
  have nn3 : ¬ jn = 3 := by omega
  have mm3 : ¬ 3 = jn := by omega
  refine region_k T_ok (by decide) fun K hK => ?_
  simp [go_sem]
  refine hK _ ?_; clear hK K
  refine seq_k fun K3 hK3 => ?_
  refine cond_k rfl (fun h => ?_) (fun h => ?_)
  ·simp at h
   have hin : i < t.locs.length := by omega
   clear h
   have hinI : (i : Int) < (t.locs.length : Nat) := by omega
   obtain ⟨l, hx, hx'⟩ := getAt hin
   have hi8 : i < 8 := by omega
   have hi8I : (i : Int) < 8 := by omega
   have hi0 : (0 : Int) ≤ (i : Nat) := by omega
   have hw : IntKind.i64.wrap ((i : Nat) + 1) = (i : Nat) + 1 := wrap_i64 (by omega) (by omega)
   refine tr_skip ?_
   refine hK3 _ ?_; try clear hK3 K3
   refine seq_k fun K4 hK4 => ?_
   refine tr_block ?_
   refine region_k T_ok (by decide) fun K hK => ?_
   simp [go_sem, hin, hinI, hx, hx', hi0, iniC, Ini.cs, nn0, mm0, nn1, mm1, nn2, mm2, nn3, mm3]
   refine hK _ ?_; clear hK K
   refine region_e T_ok (by decide) fun K hK => ?_
   simp [go_sem, iniC, Ini.cs, hi8, hi8I, hi0, mV_112 (initM_len t i), putT_mem (initM_len t i) hi8, nn0, mm0, nn1, mm1, nn2, mm2, nn3, mm3]
   repeat refine ⟨by omega, ?_⟩
   refine hK _ ?_; clear hK K
   refine hK4 _ ?_; try clear hK4 K4
   refine region_e T_ok (by decide) fun K hK => ?_
   simp [go_sem, hw]
   refine hK _ ?_; clear hK K
   refine ⟨(i + 1, jn + 50), ?_, ?_, ?_⟩
   ·dsimp only; omega
   ·dsimp only; omega
   ·refine Weaker.fzk 1 0 (by first | omega | (dsimp only; omega)) ?_ ?_ ?_
    ·simp [go_sem, nn0, mm0, nn1, mm1, nn2, mm2, nn3, mm3]
    ·first | (simp; done) | (simp; omega)
    simp [go_sem, initM_succ hx, nn0, mm0, nn1, mm1, nn2, mm2, nn3, mm3]
  ·simp at h
   obtain rfl : i = t.locs.length := by omega
   clear h
   refine tr_exit ?_
   refine hK2 _ ?_; try clear hK2 K2
   refine seq_k fun K5 hK5 => ?_
   refine region_k T_ok (by decide) fun K hK => ?_
   simp [go_sem, Tst.cs]
   refine hK _ ?_; clear hK K
   refine tr_block ?_
   refine loop_p (α := Nat × Nat) (fun a => ⟨55, [(0, .rp t.cs 0), (4, .ptr 2 0 0), (5, .ptr 3 0 0), (36, iV (t.ths.length : Nat)), (37, iV (a.1 : Nat))], [(3, .rows 112 [.agg (mV (startM t a.1))]), (2, .rows 3 [.agg [.rp t.cs 0, .map 0, .map 1]]), (1, .map []), (0, .map [])], a.2⟩) (fun a => a.1 ≤ t.ths.length ∧ 3 < a.2) (fun a => t.ths.length - a.1) (0, jn) ?_ ?_ ?_
   ·dsimp only; omega
   ·refine Weaker.fzk 1 0 (by first | omega | (dsimp only; omega)) ?_ ?_ ?_
    ·simp [go_sem, Tst.cs]
    ·first | (simp; done) | (simp; omega)
    ·simp [go_sem, startM, Tst.cs]
   rintro ⟨i, jn⟩ ⟨hi, hjn⟩
   dsimp only at hi hjn ⊢
   have nn0 : ¬ jn = 0 := by omega
   have mm0 : ¬ 0 = jn := by omega
   have nn1 : ¬ jn = 1 := by omega
   have mm1 : ¬ 1 = jn := by omega
   have nn2 : ¬ jn = 2 := by omega
   have mm2 : ¬ 2 = jn := by omega
   have nn3 : ¬ jn = 3 := by omega
   have mm3 : ¬ 3 = jn := by omega
   refine region_k T_ok (by decide) fun K hK => ?_
   simp [go_sem]
   refine hK _ ?_; clear hK K
   refine seq_k fun K6 hK6 => ?_
   refine cond_k rfl (fun h => ?_) (fun h => ?_)
   ·simp at h
    have hin : i < t.ths.length := by omega
    clear h
    have hi4 : i < 4 := by omega
    have hi4I : (i : Int) < 4 := by omega
    have hi0 : (0 : Int) ≤ (i : Nat) := by omega
    have hw : IntKind.i64.wrap ((i : Nat) + 1) = (i : Nat) + 1 := wrap_i64 (by omega) (by omega)
    have hx : t.ths[i]? = some (lth t i) := by rw [lth, List.getD, List.getElem?_eq_getElem hin]; rfl
    have hl := ht.thr i _ hx
    have hM := (startM_ok ht i hi).1
    obtain ⟨p, w, hp, hw9, hwp, hpl⟩ := hM.th i hi4
    refine tr_skip ?_
    refine hK6 _ ?_; try clear hK6 K6
    refine seq_k fun K7 hK7 => ?_
    refine tr_block ?_
    refine region_k T_ok (by decide) fun K hK => ?_
    simp [go_sem]
    refine hK _ ?_; clear hK K
    refine region_e T_ok (by decide) fun K hK => ?_
    simp [go_sem, hi4, hi4I, hi0, nn0, mm0, nn1, mm1, nn2, mm2, nn3, mm3]
    refine call_own (local_fn t i hi4 (lth t i) hx hl (startM t i) hM.len p hp hpl 3 jn (by omega) (by omega) (by omega)) rfl (by simp) (by simp [go_sem, nn0, mm0, nn1, mm1, nn2, mm2, nn3, mm3]) fun k9 hk9 => ?_
    simp [go_sem, upds, nn0, mm0, nn1, mm1, nn2, mm2, nn3, mm3]
    refine hK _ ?_; clear hK K
    refine hK7 _ ?_; try clear hK7 K7
    refine region_e T_ok (by decide) fun K hK => ?_
    simp [go_sem, hw]
    refine hK _ ?_; clear hK K
    refine ⟨(i + 1, k9), ?_, ?_, ?_⟩
    ·dsimp only; omega
    ·dsimp only; omega
    ·refine Weaker.fzk 1 0 (by first | omega | (dsimp only; omega)) ?_ ?_ ?_
     ·simp [go_sem, nn0, mm0, nn1, mm1, nn2, mm2, nn3, mm3]
     ·first | (simp; done) | (simp; omega)
     simp [go_sem, startM, nn0, mm0, nn1, mm1, nn2, mm2, nn3, mm3]
   ·simp at h
    obtain rfl : i = t.ths.length := by omega
    clear h
    refine tr_exit ?_
    refine hK5 _ ?_; try clear hK5 K5
    have hTM := tsoM_ok ht
    have hl1 : (mV (tsoM t)).length = 112 := mV_112 hTM.len
    have hl2 : List.take 112 (mV (tsoM t)) = mV (tsoM t) := List.take_of_length_le (by omega)
    have hsM : startM t t.ths.length = tsoM t := rfl
    refine region_k T_ok (by decide) fun K hK => ?_
    simp [go_sem, hsM, hl1, hl2, nn0, mm0, nn1, mm1, nn2, mm2, nn3, mm3]
    refine call_own (explore_fn ht (muT t (tsoM t) + 1) (tsoM t) hTM (Nat.lt_succ_self _) ([], []) ⟨fun _ h => (by cases h), fun _ h => (by cases h)⟩ jn (by omega)) rfl (by simp) (by simp [go_sem, seenT, seenM, nn0, mm0, nn1, mm1, nn2, mm2, nn3, mm3]) fun k9 hk9 => ?_
    simp [go_sem, upds, nn0, mm0, nn1, mm1, nn2, mm2, nn3, mm3]
    refine hK _ ?_; clear hK K
    have hE : (explT t (muT t (tsoM t) + 1) (tsoM t) ([], [])).2 = tsoEnds t := rfl
    have hE1 := (explT_ok ht (muT t (tsoM t) + 1) (tsoM t) ([], []) hTM ⟨fun _ h => (by cases h), fun _ h => (by cases h)⟩).ends
    have hE2 := explT_nodup ht (muT t (tsoM t) + 1) (tsoM t) ([], []) hTM List.nodup_nil
    rw [hE] at hE1 hE2
    refine region_k T_ok (by decide) fun K hK => ?_
    simp [go_sem, nn0, mm0, nn1, mm1, nn2, mm2, nn3, mm3, hE]
    refine call_fn ((of_fn (tsoEnds t) hE1 hE2 hb 1 k9 (by omega)).frame (G := [_, _, _]) (List.perm_middle (l₁ := [_, _]) (l₂ := [_])) ?_)
    rintro v H' k' hk' ⟨rfl, rfl⟩
    simp [go_sem]
    refine hK _ ?_; clear hK K
    refine tr_ret ⟨.inr rfl, ?_⟩
    simp [go_sem]
open Go Go.Sl Go.Proofs.Try
theorem initS_succ {t : Tst} {i : Nat} {l : Ini} (h : t.locs[i]? = some l) : initS t (i + 1) = (initS t i).set (44 + i) l.v := by rw [initS, List.getD, h]; rfl
theorem run_step (t : Tst) (n : Nat) (ys : List (List Int)) (k : List Int) (r : List (List Int) × List (List Int)) : runS t (n + 1) (ys ++ [k], r) = runS t n (nextS t k (ys, r)) := by
 rw [runS]
 simp only [List.getLast?_append, List.getLast?_singleton, Option.some_or, List.dropLast_concat]
theorem run_done (t : Tst) (n : Nat) (r : List (List Int) × List (List Int)) : runS t n ([], r) = ([], r) := by cases n <;> rfl
theorem next_nodup {t : Tst} {k : List Int} {s : Ws} (h : s.2.2.Nodup) : (nextS t k s).2.2.Nodup := by
 unfold nextS; split
 ·exact addK_nodup h
 ·rw [ends_same]; exact h
def fuelS (t : Tst) : Nat := 9 ^ muS t (startS t) + 1
def beginS (t : Tst) : Ws := ([startS t], [startS t], [])
theorem begin_eq (t : Tst) : addS (startS t) ([], [], []) = beginS t := by unfold addS beginS; simp
theorem begin_ok (t : Tst) : SOk t (beginS t) := by
 refine ⟨fun q hq => ?_, fun q hq => ?_, fun q hq => ?_⟩
 ·simp [beginS] at hq; subst hq; exact startS_ok t
 ·simp [beginS] at hq; subst hq; exact startS_ok t
 ·cases hq
theorem begin_low {t : Tst} (ht : TTOk t) : Low t (beginS t).1 := fun p q hq => by
 have h1 := muS_le ht (startS_ok t)
 match p with
 | 0 => cases hq; omega
 | p + 1 => cases hq
theorem last_of {α : Type} {l : List α} (h : 0 < l.length) : ∃ ys k, l = ys ++ [k] := by
 refine ⟨l.dropLast, l.getLast (by intro e; rw [e] at h; exact absurd h (Nat.lt_irrefl _)), ?_⟩
 rw [List.dropLast_concat_getLast]
theorem todoR_last (ys : List (List Int)) (k : List Int) (js : List V) : todoR (ys ++ [k]) ++ js = todoR ys ++ (.agg (wV k) :: js) := by rw [todoR_add]; simp
theorem todoR_at (ys : List (List Int)) (v : V) (js : List V) : (todoR ys ++ (v :: js))[ys.length]? = some v := by
 rw [List.getElem?_append_right (by rw [todoR_len]; omega), todoR_len, Nat.sub_self]; rfl
theorem todoR_get (ys : List (List Int)) (v : V) (js : List V) (h : ys.length < (todoR ys ++ (v :: js)).length) : (todoR ys ++ (v :: js))[ys.length] = v := by
 have := todoR_at ys v js; rw [List.getElem?_eq_getElem h] at this; exact Option.some.inj this
set_option maxHeartbeats 8000000 in
set_option maxRecDepth 100000 in
theorem seqc_pf (t : Tst) (ht : TSOk t) (hb : (seqEnds t).length ≤ 400000000000) : Pf Try.prog 61 [.rp t.cs 0] (.ro 41 (stR (setOf (seqEnds t)))) := by
 refine Pf.of_fn (.cons (nl_rp t) .nil) (nl_stR _) ?_
 have hl8 := ht.tt.locs
 have ht4 := ht.tt.ths
 refine fn_in T_ok func61 rfl rfl ntmps61 rfl (by simp) ?_
 refine region_k T_ok (by decide) fun K hK => ?_
 simp [go_sem]
 refine hK _ ?_; clear hK K
 refine region_k T_ok (by decide) fun K hK => ?_
 simp [go_sem]
 refine hK _ ?_; clear hK K
 refine region_k T_ok (by decide) fun K hK => ?_
 simp [go_sem, Tst.cs]
 refine hK _ ?_; clear hK K
 refine seq_k fun K1 hK1 => ?_
 refine region_k T_ok (by decide) fun K hK => ?_
 simp [go_sem, Tst.cs]
 refine hK _ ?_; clear hK K
 refine tr_block ?_
 refine loop_p (α := Nat × Nat) (fun a => ⟨72, [(0, .rp t.cs 0), (3, .ptr 2 0 0), (4, .ptr 3 0 0), (16, .ro 2 (inis t.locs)), (17, iV (t.locs.length : Nat)), (18, iV (a.1 : Nat))], [(3, .rows 52 [.agg (wV (initS t a.1))]), (2, .rows 4 [.agg [.rp t.cs 0, .val (.slice none 0 0), .map 0, .map 1]]), (1, .map []), (0, .map [])], a.2⟩) (fun a => a.1 ≤ t.locs.length ∧ 3 < a.2) (fun a => t.locs.length - a.1) (0, 4) ?_ ?_ ?_
 ·dsimp only; omega
 ·refine Weaker.fzk 1 0 (by first | omega | (dsimp only; omega)) ?_ ?_ ?_
  ·simp [go_sem, Tst.cs]
  ·first | (simp; done) | (simp; omega)
  ·simp [go_sem, Tst.cs]; rfl
 rintro ⟨i, jn⟩ ⟨hi, hjn⟩
 dsimp only at hi hjn ⊢
 have nn0 : ¬ jn = 0 := by omega
 have mm0 : ¬ 0 = jn := by omega
 have nn1 : ¬ jn = 1 := by omega
 have mm1 : ¬ 1 = jn := by omega
 have nn2 : ¬ jn = 2 := by omega
 have mm2 : ¬ 2 = jn := by omega
 have nn3 : ¬ jn = 3 := by omega
 have mm3 : ¬ 3 = jn := by omega
 refine region_k T_ok (by decide) fun K hK => ?_
 simp [go_sem]
 refine hK _ ?_; clear hK K
 refine seq_k fun K2 hK2 => ?_
 refine cond_k rfl (fun h => ?_) (fun h => ?_)
 ·simp at h
  have hin : i < t.locs.length := by omega
  clear h
  have hinI : (i : Int) < (t.locs.length : Nat) := by omega
  obtain ⟨l, hx, hx'⟩ := getAt hin
  have hi8 : i < 8 := by omega
  have hi8I : (i : Int) < 8 := by omega
  have hi0 : (0 : Int) ≤ (i : Nat) := by omega
  have hw : IntKind.i64.wrap ((i : Nat) + 1) = (i : Nat) + 1 := wrap_i64 (by omega) (by omega)
  refine tr_skip ?_
  refine hK2 _ ?_; try clear hK2 K2
  refine seq_k fun K3 hK3 => ?_
  refine tr_block ?_
  refine region_k T_ok (by decide) fun K hK => ?_
  simp [go_sem, hin, hinI, hx, hx', hi0, iniC, Ini.cs, nn0, mm0, nn1, mm1, nn2, mm2, nn3, mm3]
  refine hK _ ?_; clear hK K
  refine region_e T_ok (by decide) fun K hK => ?_
  simp [go_sem, iniC, Ini.cs, hi8, hi8I, hi0, wV_52 (initS_len t i), putW_mem (initS_len t i) hi8, nn0, mm0, nn1, mm1, nn2, mm2, nn3, mm3]
  repeat refine ⟨by omega, ?_⟩
  refine hK _ ?_; clear hK K
  refine hK3 _ ?_; try clear hK3 K3
  refine region_e T_ok (by decide) fun K hK => ?_
  simp [go_sem, hw]
  refine hK _ ?_; clear hK K
  refine ⟨(i + 1, jn + 50), ?_, ?_, ?_⟩
  ·dsimp only; omega
  ·dsimp only; omega
  ·refine Weaker.fzk 1 0 (by first | omega | (dsimp only; omega)) ?_ ?_ ?_
   ·simp [go_sem, nn0, mm0, nn1, mm1, nn2, mm2, nn3, mm3]
   ·first | (simp; done) | (simp; omega)
   simp [go_sem, initS_succ hx, nn0, mm0, nn1, mm1, nn2, mm2, nn3, mm3]
 ·simp at h
  obtain rfl : i = t.locs.length := by omega
  clear h
  refine tr_exit ?_
  refine hK1 _ ?_; try clear hK1 K1
  have hsl : (wV (startS t)).length = 52 := wV_52 (startS_ok t).wk.len
  have hst : List.take 52 (wV (startS t)) = wV (startS t) := List.take_of_length_le (by omega)
  have hs0 : initS t t.locs.length = startS t := rfl
  rw [hs0]
  refine Tr.weaken (Weaker.ghostH (sz := 4) (es := [.agg [.rp t.cs 0, .val (.slice none 0 0), .map 0, .map 1]]) 2 52 [.agg [.rp t.cs 0, .sl jn 0 0, .map 0, .map 1]] (by simp [Sl.look]) (by simp) (by simp) (by simp [V.fits, V.cells, V.one]) (by simp only [List.flatMap_cons, List.flatMap_nil, V.cells, List.append_nil]; exact .same (.to (.same (.same .nil))))) ?_
  simp only [Sl.put, if_true, if_false, Nat.reduceEqDiff, reduceIte]
  refine region_k T_ok (by decide) fun K hK => ?_
  simp [go_sem, nn0, mm0, nn1, mm1, nn2, mm2, nn3, mm3, hsl, hst]
  refine call_ex (add_fn t (startS t) (startS_ok t).wk ([], [], []) (fun q hq => by cases hq) (by simp) jn [] _ (by omega) (by omega)) (by simp [seH, nn0, mm0, nn1, mm1, nn2, mm2, nn3, mm3]) (by simp [seH, go_sem, seenW, seenM, todoR, nn0, mm0, nn1, mm1, nn2, mm2, nn3, mm3]) fun k1 a1 hk1 ha1 => ?_
  obtain ⟨m1, js1⟩ := a1
  obtain ⟨ha2, ha3, ha4⟩ := ha1
  dsimp only at ha2 ha3 ha4
  have nn80 : ¬ m1 = 0 := by omega
  have mm80 : ¬ 0 = m1 := by omega
  have nn81 : ¬ m1 = 1 := by omega
  have mm81 : ¬ 1 = m1 := by omega
  have nn82 : ¬ m1 = 2 := by omega
  have mm82 : ¬ 2 = m1 := by omega
  have nn83 : ¬ m1 = 3 := by omega
  have mm83 : ¬ 3 = m1 := by omega
  rw [begin_eq]
  simp [go_sem, seH, nn0, mm0, nn1, mm1, nn2, mm2, nn3, mm3, nn80, mm80, nn81, mm81, nn82, mm82, nn83, mm83]
  refine hK _ ?_; clear hK K
  refine seq_k fun K4 hK4 => ?_
  refine tr_block ?_
  refine loop_p (α := Nat × Ws × Nat × Nat × List V) (fun a => ⟨72, [(3, .ptr 2 0 0)], [(2, .rows 4 [.agg [.rp t.cs 0, .sl a.2.2.2.1 0 a.2.1.1.length, .map 0, .map 1]]), (0, .map (seenW a.2.1.2.1)), (1, .map (seenM a.2.1.2.2)), (a.2.2.2.1, .rows 52 (todoR a.2.1.1 ++ a.2.2.2.2))], a.2.2.1⟩) (fun a => SOk t a.2.1 ∧ Low t a.2.1.1 ∧ a.2.1.2.2.Nodup ∧ wtS t a.2.1.1 < a.1 ∧ runS t a.1 a.2.1 = runS t (fuelS t) (beginS t) ∧ 2 < a.2.2.2.1 ∧ a.2.2.2.1 < a.2.2.1) (fun a => a.1) (fuelS t, beginS t, k1, m1, js1) ?_ ?_ ?_
  ·exact ⟨begin_ok t, begin_low ht.tt, List.nodup_nil, by simp [beginS, wtS, fuelS], rfl, ha2, ha3⟩
  ·refine Weaker.fzk 1 0 (by first | omega | (dsimp only; omega)) ?_ ?_ ?_
   ·simp [go_sem, nn80, mm80, nn81, mm81, nn82, mm82, nn83, mm83]
   ·first | (simp; done) | (simp; omega)
   ·simp [go_sem, beginS, nn80, mm80, nn81, mm81, nn82, mm82, nn83, mm83]
  rintro ⟨f, s, j, m, js⟩ ⟨hS, hL, hN, hW, hR, hm2, hmj⟩
  dsimp only at hS hL hN hW hR hm2 hmj ⊢
  have nn120 : ¬ m = 0 := by omega
  have mm120 : ¬ 0 = m := by omega
  have nn121 : ¬ m = 1 := by omega
  have mm121 : ¬ 1 = m := by omega
  have nn122 : ¬ m = 2 := by omega
  have mm122 : ¬ 2 = m := by omega
  have nn123 : ¬ m = j := by omega
  have mm123 : ¬ j = m := by omega
  have nn124 : ¬ j = 0 := by omega
  have mm124 : ¬ 0 = j := by omega
  have nn125 : ¬ j = 1 := by omega
  have mm125 : ¬ 1 = j := by omega
  have nn126 : ¬ j = 2 := by omega
  have mm126 : ¬ 2 = j := by omega
  refine seq_k fun K5 hK5 => ?_
  refine region_k T_ok (by decide) fun K hK => ?_
  simp [go_sem, nn120, mm120, nn121, mm121, nn122, mm122, nn123, mm123, nn124, mm124, nn125, mm125, nn126, mm126]
  refine hK _ ?_; clear hK K
  refine cond_k rfl (fun h => ?_) (fun h => ?_)
  ·have hpos : 0 < s.1.length := by simpa using h
   clear h
   obtain ⟨td, r⟩ := s
   dsimp only at hS hL hN hW hR hpos ⊢
   obtain ⟨ys, k, rfl⟩ := last_of hpos
   have hlow := low_len hL
   have hkk : WOk t k := hS.todo k (by simp)
   have hly : (ys ++ [k]).length = ys.length + 1 := by simp
   have hlyI : (((ys ++ [k]).length : Nat) : Int) = (ys.length : Int) + 1 := by omega
   have hwm : IntKind.i64.wrap (ys.length : Nat) = (ys.length : Nat) := wrap_i64 (by omega) (by omega)
   have hy0 : (0 : Int) ≤ (ys.length : Nat) := by omega
   have hkl : (wV k).length = 52 := wV_52 hkk.wk.len
   have hko := wV_one k
   have hkt : List.take 52 (wV k) = wV k := List.take_of_length_le (by omega)
   rw [todoR_last]
   obtain ⟨f, rfl⟩ : ∃ f2, f = f2 + 1 := ⟨f - 1, by omega⟩
   refine tr_skip ?_
   refine hK5 _ ?_; try clear hK5 K5
   refine tr_block ?_
   refine draw_k T_ok (by kernel_rfl) 13 [[], [0], [0, 1], [0, 1, 2], [], [4], [4, 5], [4, 5, 6], [4, 5, 6, 7], [4, 5, 6, 7, 8], [0, 1, 2, 3, 4, 5, 6, 7, 8, 9], [0, 1, 2, 3, 4, 5, 6, 7, 8, 9, 10], [], [0, 1, 2, 3, 4, 5, 6, 7, 8, 9, 10, 11, 12]] [(0, 12), (1, 12), (2, 12), (3, 12), (4, 12), (5, 12), (6, 12), (7, 12), (8, 12), (9, 12), (10, 12), (11, 12)] (by decide) (by decide) (by decide) fun K hK => ?_
   first | dsimp only [List.take, List.drop] | dsimp [List.take, List.drop]
   simp [go_sem, nn120, mm120, nn121, mm121, nn122, mm122, nn123, mm123, nn124, mm124, nn125, mm125, nn126, mm126, hlyI, hwm, hy0, hkl, hkt, todoR_len, todoR_get, todoR_at]
   repeat refine ⟨by omega, ?_⟩
   generalize hqe : j + 1 + 1 + 1 + 1 + 1 + 1 + 1 + 1 + 1 + 1 + 1 + 1 = q
   have hqj : j < q := by omega
   have hqm : m < q := by omega
   have nn160 : ¬ q = 0 := by omega
   have mm160 : ¬ 0 = q := by omega
   have nn161 : ¬ q = 1 := by omega
   have mm161 : ¬ 1 = q := by omega
   have nn162 : ¬ q = 2 := by omega
   have mm162 : ¬ 2 = q := by omega
   have nn163 : ¬ q = m := by omega
   have mm163 : ¬ m = q := by omega
   refine hK _ ?_; clear hK K
   refine draw_k T_ok (by kernel_rfl) 12 [[], [], [1], [1, 2], [1, 2, 3], [], [5], [5, 6], [5, 6, 7], [5, 6, 7, 8], [5, 6, 7, 8, 9], [1, 2, 3, 4, 5, 6, 7, 8, 9, 10], [0, 1, 2, 3, 4, 5, 6, 7, 8, 9, 10, 11], [0, 1, 2, 3, 4, 5, 6, 7, 8, 9, 10, 11, 12], [0, 1, 2, 3, 4, 5, 6, 7, 8, 9, 10, 11, 12, 13]] [] (by decide) (by decide) (by decide) fun K hK => ?_
   first | dsimp only [List.take, List.drop] | dsimp [List.take, List.drop]
   simp [go_sem, nn120, mm120, nn121, mm121, nn122, mm122, nn123, mm123, nn124, mm124, nn125, mm125, nn126, mm126, nn160, mm160, nn161, mm161, nn162, mm162, nn163, mm163, hlyI, hwm, hy0]
   repeat refine ⟨by omega, ?_⟩
   refine hK _ ?_; clear hK K
   refine region_e T_ok (by decide) fun K hK => ?_
   simp [go_sem, nn120, mm120, nn121, mm121, nn122, mm122, nn123, mm123, nn124, mm124, nn125, mm125, nn126, mm126, nn160, mm160, nn161, mm161, nn162, mm162, nn163, mm163, hkl, hkt]
   refine call_ex (next_fn t ht k hkk (ys, r) ⟨fun q hq => hS.todo q (List.mem_append_left _ hq), hS.seen, hS.ends⟩ (by dsimp only; omega) m (.agg (wV k) :: js) _ hm2 (by omega)) (by simp [seH, nn120, mm120, nn121, mm121, nn122, mm122, nn123, mm123, nn124, mm124, nn125, mm125, nn126, mm126, nn160, mm160, nn161, mm161, nn162, mm162, nn163, mm163]) (by simp [seH, go_sem, nn120, mm120, nn121, mm121, nn122, mm122, nn123, mm123, nn124, mm124, nn125, mm125, nn126, mm126, nn160, mm160, nn161, mm161, nn162, mm162, nn163, mm163]) fun k2 a2 hk2 ha4 => ?_
   obtain ⟨m2, js2⟩ := a2
   obtain ⟨ha5, ha6, ha7⟩ := ha4
   dsimp only at ha5 ha6 ha7
   have nn164 : ¬ m2 = 0 := by omega
   have mm164 : ¬ 0 = m2 := by omega
   have nn165 : ¬ m2 = 1 := by omega
   have mm165 : ¬ 1 = m2 := by omega
   have nn166 : ¬ m2 = 2 := by omega
   have mm166 : ¬ 2 = m2 := by omega
   have nn167 : ¬ m2 = q := by omega
   have mm167 : ¬ q = m2 := by omega
   simp [go_sem, seH, nn120, mm120, nn121, mm121, nn122, mm122, nn123, mm123, nn124, mm124, nn125, mm125, nn126, mm126, nn160, mm160, nn161, mm161, nn162, mm162, nn163, mm163, nn164, mm164, nn165, mm165, nn166, mm166, nn167, mm167]
   refine hK _ ?_; clear hK K
   refine ⟨(f, nextS t k (ys, r), k2, m2, js2), ?_, ?_, ?_⟩
   ·dsimp only
    refine ⟨nextS_ok ht hkk ⟨fun q hq => hS.todo q (List.mem_append_left _ hq), hS.seen, hS.ends⟩, ?_, next_nodup hN, ?_, ?_, ha5, ha6⟩
    ·have := low_next ht hS (k := k) (by simp) hL; simpa using this
    ·have := run_less ht hS (k := k) (by simp); simp at this; omega
    ·rw [← hR, run_step]
   ·dsimp only; omega
   ·refine Weaker.fzk 1 0 (by first | omega | (dsimp only; omega)) ?_ ?_ ?_
    ·simp [go_sem, nn120, mm120, nn121, mm121, nn122, mm122, nn123, mm123, nn124, mm124, nn125, mm125, nn126, mm126]
    ·first | (simp; done) | (simp; omega)
    simp [go_sem, nn160, mm160, nn161, mm161, nn162, mm162, nn163, mm163, nn164, mm164, nn165, mm165, nn166, mm166, nn167, mm167]
  ·have hz : s.1.length = 0 := by simpa using h
   obtain ⟨td, sn, en⟩ := s
   dsimp only at hS hL hN hW hR hz ⊢
   obtain rfl : td = [] := List.length_eq_zero_iff.1 hz
   have hE : seqEnds t = en := by show (runS t (fuelS t) (beginS t)).2.2 = en; rw [← hR, run_done]
   refine tr_exit ?_
   refine hK4 _ ?_; try clear hK4 K4
   have hE1 : ∀ q ∈ en, q.length = 41 := hS.ends
   have hbe : en.length ≤ 400000000000 := by rw [← hE]; exact hb
   refine region_k T_ok (by decide) fun K hK => ?_
   simp [go_sem, nn120, mm120, nn121, mm121, nn122, mm122, nn123, mm123, nn124, mm124, nn125, mm125, nn126, mm126]
   refine call_fn ((of_fn en hE1 hN hbe 1 j (by omega)).frame (G := [_, _, _]) (List.perm_middle (l₁ := [_, _]) (l₂ := [_])) ?_)
   rintro v H' k' hk' ⟨rfl, rfl⟩
   simp [go_sem]
   refine hK _ ?_; clear hK K
   refine tr_ret ⟨.inr rfl, ?_⟩
   simp [go_sem, hE]
open Go Go.Sl Go.Proofs.Try
set_option maxRecDepth 100000 in
set_option maxHeartbeats 16000000 in
theorem buffering_pf (f : Bool) : Pf Try.prog 97 [bV f] (.agg (bufT f).cs) := by
 refine Pf.of_fz 2 (.cons (.val _) .nil) (.agg (nl_tst _)) ?_
 refine fn_in T_ok func97 rfl rfl ntmps97 rfl (by simp) ?_
 refine region_k T_ok (by decide) fun K hK => ?_
 simp [go_sem]
 refine hK _ ?_; clear hK K
 refine region_k T_ok (by decide) fun K hK => ?_
 simp [go_sem]
 refine hK _ ?_; clear hK K
 refine seq_k fun K1 hK1 => ?_
 refine region_k T_ok (by decide) fun K hK => ?_
 simp [go_sem]
 refine hK _ ?_; clear hK K
 refine tr_block ?_
 refine Tr.weaken (Weaker.ghostH (sz := 3) (es := [.agg [.sl 1 0 2, .val (.slice none 0 0), .val (.slice none 0 0)]]) 2 3 [.agg [.sl 1 0 2, .val (.slice none 0 0), .sl 3 0 0]] (by simp [Sl.look]) (by simp) (by simp) (by simp [V.fits, V.cells, V.one]) (by simp only [List.flatMap_cons, List.flatMap_nil, V.cells, List.append_nil]; exact .same (.same (.to .nil)))) ?_
 simp only [Sl.put, if_true, if_false, Nat.reduceEqDiff, reduceIte]
 refine Tr.weaken (Weaker.ghostH (sz := 3) (es := [.agg [.sl 1 0 2, .val (.slice none 0 0), .sl 3 0 0]]) 2 1 [.agg [.sl 1 0 2, .sl 4 0 0, .sl 3 0 0]] (by simp [Sl.look]) (by simp) (by simp) (by simp [V.fits, V.cells, V.one]) (by simp only [List.flatMap_cons, List.flatMap_nil, V.cells, List.append_nil]; exact .same (.to (.same .nil)))) ?_
 simp only [Sl.put, if_true, if_false, Nat.reduceEqDiff, reduceIte]
 refine loop_p (α := Nat × Nat × Nat) (fun a => ⟨35, [(0, bV f), (2, .ptr 0 0 0), (3, .ptr 2 0 0), (4, iV (a.1 : Nat))], [(0, .rows 3 [.agg [.val (.slice none 0 0), .val (.slice none 0 0), .val (.slice none 0 0)]]), (1, .rows 2 (inis bufI)), (2, .rows 3 [.agg [.sl 1 0 2, .sl a.2.2 0 a.1, .sl 3 0 0]]), (a.2.2, .rows 1 (thrs (bufP f a.1))), (3, .rows 3 [])], a.2.1⟩) (fun a => a.1 ≤ 2 ∧ 3 < a.2.2 ∧ a.2.2 < a.2.1) (fun a => 2 - a.1) (0, 5, 4) ?_ ?_ ?_
 ·dsimp only; omega
 ·refine Weaker.fzk 1 1 (by first | omega | (dsimp only; omega)) ?_ ?_ ?_
  ·simp [go_sem]
  ·first | (simp; done) | (simp; omega)
  ·simp [go_sem, bufI, inis, iniC, Ini.cs, nmX, nmY, bufP, thrs]
 rintro ⟨i, j, m⟩ ⟨hi, hm1, hm2⟩
 dsimp only at hi hm1 hm2 ⊢
 have nn0 : ¬ m = 0 := by omega
 have mm0 : ¬ 0 = m := by omega
 have nn1 : ¬ m = 1 := by omega
 have mm1 : ¬ 1 = m := by omega
 have nn2 : ¬ m = 2 := by omega
 have mm2 : ¬ 2 = m := by omega
 have nn3 : ¬ m = 3 := by omega
 have mm3 : ¬ 3 = m := by omega
 have nn4 : ¬ m = j := by omega
 have mm4 : ¬ j = m := by omega
 have nn5 : ¬ m = j + 1 := by omega
 have mm5 : ¬ j + 1 = m := by omega
 have nn6 : ¬ m = j + 2 := by omega
 have mm6 : ¬ j + 2 = m := by omega
 have nn7 : ¬ m = j + 3 := by omega
 have mm7 : ¬ j + 3 = m := by omega
 have nn8 : ¬ m = j + 4 := by omega
 have mm8 : ¬ j + 4 = m := by omega
 have nn9 : ¬ m = j + 5 := by omega
 have mm9 : ¬ j + 5 = m := by omega
 have nn10 : ¬ m = j + 6 := by omega
 have mm10 : ¬ j + 6 = m := by omega
 have nn11 : ¬ m = j + 7 := by omega
 have mm11 : ¬ j + 7 = m := by omega
 have nn12 : ¬ m = j + 8 := by omega
 have mm12 : ¬ j + 8 = m := by omega
 have nn13 : ¬ m = j + 9 := by omega
 have mm13 : ¬ j + 9 = m := by omega
 have nn14 : ¬ m = j + 10 := by omega
 have mm14 : ¬ j + 10 = m := by omega
 have nn15 : ¬ m = j + 11 := by omega
 have mm15 : ¬ j + 11 = m := by omega
 have nn16 : ¬ m = j + 12 := by omega
 have mm16 : ¬ j + 12 = m := by omega
 have nn17 : ¬ m = j + 13 := by omega
 have mm17 : ¬ j + 13 = m := by omega
 have nn18 : ¬ m = j + 14 := by omega
 have mm18 : ¬ j + 14 = m := by omega
 have nn19 : ¬ m = j + 15 := by omega
 have mm19 : ¬ j + 15 = m := by omega
 have nn20 : ¬ m = j + 16 := by omega
 have mm20 : ¬ j + 16 = m := by omega
 have nn21 : ¬ m = j + 17 := by omega
 have mm21 : ¬ j + 17 = m := by omega
 have nn22 : ¬ m = j + 18 := by omega
 have mm22 : ¬ j + 18 = m := by omega
 have nn23 : ¬ m = j + 19 := by omega
 have mm23 : ¬ j + 19 = m := by omega
 have nn24 : ¬ m = j + 20 := by omega
 have mm24 : ¬ j + 20 = m := by omega
 have nn25 : ¬ m = j + 21 := by omega
 have mm25 : ¬ j + 21 = m := by omega
 have nn26 : ¬ j = 0 := by omega
 have mm26 : ¬ 0 = j := by omega
 have nn27 : ¬ j = 1 := by omega
 have mm27 : ¬ 1 = j := by omega
 have nn28 : ¬ j = 2 := by omega
 have mm28 : ¬ 2 = j := by omega
 have nn29 : ¬ j = 3 := by omega
 have mm29 : ¬ 3 = j := by omega
 refine seq_k fun K2 hK2 => ?_
 refine region_k T_ok (by decide) fun K hK => ?_
 simp [go_sem]
 refine hK _ ?_; clear hK K
 refine cond_k rfl (fun h => ?_) (fun h => ?_)
 ·have hi2 : i < 2 := by simp at h; omega
  have hw : IntKind.i64.wrap ((i : Nat) + 1) = (i : Nat) + 1 := wrap_i64 (by omega) (by omega)
  have hmi : List.take i (thrs (bufP f i)) = thrs (bufP f i) := List.take_of_length_le (by rw [thrs_len, bufP_len hi]; omega)
  have hw2 : IntKind.i64.wrap (1 - (i : Int)) = 1 - (i : Nat) := wrap_i64 (by omega) (by omega)
  refine tr_skip ?_
  refine hK2 _ ?_; try clear hK2 K2
  refine seq_k fun K3 hK3 => ?_
  refine tr_block ?_
  refine region_k T_ok (by decide) fun K hK => ?_
  simp [go_sem]
  refine hK _ ?_; clear hK K
  refine seq_k fun K4 hK4 => ?_
  refine region_k T_ok (by decide) fun K hK => ?_
  simp [go_sem]
  refine hK _ ?_; clear hK K
  refine cond_k rfl (fun h => ?_) (fun h => ?_)
  ·have hf : f = true := h
   refine region_e T_ok (by decide) fun K hK => ?_
   simp [go_sem]
   refine hK _ ?_; clear hK K
   refine hK4 _ ?_; try clear hK4 K4
   refine draw_e T_ok (by kernel_rfl) 9 [[], [0], [], [], [3], [3, 4], [3, 4, 5], [2, 3, 4, 5, 6], [2, 3, 4, 5, 6, 7], [0, 1, 2, 3, 4, 5, 6, 7, 8], [0, 1, 2, 3, 4, 5, 6, 7, 8, 9], [0, 1, 2, 3, 4, 5, 6, 7, 8, 9, 10]] [(0, 6), (1, 6), (2, 6), (0, 7), (1, 7), (0, 8), (1, 8)] (by decide) (by decide) (by decide) fun K hK => ?_
   first | dsimp only [List.take, List.drop] | dsimp [List.take, List.drop]
   simp [go_sem, hw2, hmi, nn0, mm0, nn1, mm1, nn2, mm2, nn3, mm3, nn4, mm4, nn5, mm5, nn6, mm6, nn7, mm7, nn8, mm8, nn9, mm9, nn10, mm10, nn11, mm11, nn12, mm12, nn13, mm13, nn14, mm14, nn15, mm15, nn16, mm16, nn17, mm17, nn18, mm18, nn19, mm19, nn20, mm20, nn21, mm21, nn22, mm22, nn23, mm23, nn24, mm24, nn25, mm25, nn26, mm26, nn27, mm27, nn28, mm28, nn29, mm29]
   refine ⟨by rw [bufP_len hi]; omega, by omega, ?_⟩
   refine hK _ ?_; clear hK K
   refine hK3 _ ?_; try clear hK3 K3
   refine region_e T_ok (by decide) fun K hK => ?_
   simp [go_sem, hw]
   refine hK _ ?_; clear hK K
   refine ⟨(i + 1, j + 100, j + 12), ?_, ?_, ?_⟩
   ·dsimp only; omega
   ·dsimp only; omega
   ·refine Weaker.fzk 1 1 (by first | omega | (dsimp only; omega)) ?_ ?_ ?_
    ·simp [go_sem, nn0, mm0, nn1, mm1, nn2, mm2, nn3, mm3, nn4, mm4, nn5, mm5, nn6, mm6, nn7, mm7, nn8, mm8, nn9, mm9, nn10, mm10, nn11, mm11, nn12, mm12, nn13, mm13, nn14, mm14, nn15, mm15, nn16, mm16, nn17, mm17, nn18, mm18, nn19, mm19, nn20, mm20, nn21, mm21, nn22, mm22, nn23, mm23, nn24, mm24, nn25, mm25, nn26, mm26, nn27, mm27, nn28, mm28, nn29, mm29]
    ·first | (simp; done) | (simp; omega)
    simp [go_sem, bufP_step hi2, thrs_append, thrs_one, hf, bufL, insS, insL, insF, inss, insC, Ins.cs, nn0, mm0, nn1, mm1, nn2, mm2, nn3, mm3, nn4, mm4, nn5, mm5, nn6, mm6, nn7, mm7, nn8, mm8, nn9, mm9, nn10, mm10, nn11, mm11, nn12, mm12, nn13, mm13, nn14, mm14, nn15, mm15, nn16, mm16, nn17, mm17, nn18, mm18, nn19, mm19, nn20, mm20, nn21, mm21, nn22, mm22, nn23, mm23, nn24, mm24, nn25, mm25, nn26, mm26, nn27, mm27, nn28, mm28, nn29, mm29]
  ·have hf : f = false := h
   refine tr_skip ?_
   refine hK4 _ ?_; try clear hK4 K4
   refine draw_e T_ok (by kernel_rfl) 9 [[], [0], [], [], [3], [3, 4], [3, 4, 5], [2, 3, 4, 5, 6], [2, 3, 4, 5, 6, 7], [0, 1, 2, 3, 4, 5, 6, 7, 8], [0, 1, 2, 3, 4, 5, 6, 7, 8, 9], [0, 1, 2, 3, 4, 5, 6, 7, 8, 9, 10]] [(0, 6), (1, 6), (2, 6), (0, 7), (1, 7), (0, 8), (1, 8)] (by decide) (by decide) (by decide) fun K hK => ?_
   first | dsimp only [List.take, List.drop] | dsimp [List.take, List.drop]
   simp [go_sem, hw2, hmi, nn0, mm0, nn1, mm1, nn2, mm2, nn3, mm3, nn4, mm4, nn5, mm5, nn6, mm6, nn7, mm7, nn8, mm8, nn9, mm9, nn10, mm10, nn11, mm11, nn12, mm12, nn13, mm13, nn14, mm14, nn15, mm15, nn16, mm16, nn17, mm17, nn18, mm18, nn19, mm19, nn20, mm20, nn21, mm21, nn22, mm22, nn23, mm23, nn24, mm24, nn25, mm25, nn26, mm26, nn27, mm27, nn28, mm28, nn29, mm29]
   refine ⟨by rw [bufP_len hi]; omega, by omega, ?_⟩
   refine hK _ ?_; clear hK K
   refine hK3 _ ?_; try clear hK3 K3
   refine region_e T_ok (by decide) fun K hK => ?_
   simp [go_sem, hw]
   refine hK _ ?_; clear hK K
   refine ⟨(i + 1, j + 100, j + 10), ?_, ?_, ?_⟩
   ·dsimp only; omega
   ·dsimp only; omega
   ·refine Weaker.fzk 1 1 (by first | omega | (dsimp only; omega)) ?_ ?_ ?_
    ·simp [go_sem, nn0, mm0, nn1, mm1, nn2, mm2, nn3, mm3, nn4, mm4, nn5, mm5, nn6, mm6, nn7, mm7, nn8, mm8, nn9, mm9, nn10, mm10, nn11, mm11, nn12, mm12, nn13, mm13, nn14, mm14, nn15, mm15, nn16, mm16, nn17, mm17, nn18, mm18, nn19, mm19, nn20, mm20, nn21, mm21, nn22, mm22, nn23, mm23, nn24, mm24, nn25, mm25, nn26, mm26, nn27, mm27, nn28, mm28, nn29, mm29]
    ·first | (simp; done) | (simp; omega)
    simp [go_sem, bufP_step hi2, thrs_append, thrs_one, hf, bufL, insS, insL, insF, inss, insC, Ins.cs, nn0, mm0, nn1, mm1, nn2, mm2, nn3, mm3, nn4, mm4, nn5, mm5, nn6, mm6, nn7, mm7, nn8, mm8, nn9, mm9, nn10, mm10, nn11, mm11, nn12, mm12, nn13, mm13, nn14, mm14, nn15, mm15, nn16, mm16, nn17, mm17, nn18, mm18, nn19, mm19, nn20, mm20, nn21, mm21, nn22, mm22, nn23, mm23, nn24, mm24, nn25, mm25, nn26, mm26, nn27, mm27, nn28, mm28, nn29, mm29]
 ·obtain rfl : i = 2 := by simp at h; omega
  refine tr_exit ?_
  refine hK1 _ ?_; try clear hK1 K1
  refine region_k T_ok (by decide) fun K hK => ?_
  simp [go_sem]
  refine hK _ ?_; clear hK K
  refine tr_ret ⟨.inr rfl, ?_⟩
  simp [go_sem, buf_cs, bufP_all, nn0, mm0, nn1, mm1, nn2, mm2, nn3, mm3, nn4, mm4, nn5, mm5, nn6, mm6, nn7, mm7, nn8, mm8, nn9, mm9, nn10, mm10, nn11, mm11, nn12, mm12, nn13, mm13, nn14, mm14, nn15, mm15, nn16, mm16, nn17, mm17, nn18, mm18, nn19, mm19, nn20, mm20, nn21, mm21, nn22, mm22, nn23, mm23, nn24, mm24, nn25, mm25, nn26, mm26, nn27, mm27, nn28, mm28, nn29, mm29]
  exact ⟨rfl, rfl⟩
set_option maxRecDepth 100000 in
set_option maxHeartbeats 4000000 in
theorem state4_pf  : Pf Try.prog 99 [.ro 1 [uV 0, uV 0, uV 1, uV 1]] (.agg (stK st4)) := by
 refine Pf.of_fn (.cons (.ro (fun v hv => by simp at hv; rcases hv with rfl | rfl <;> exact .cons (.val _) .nil)) .nil) (.agg (nl_stK _)) ?_
 refine fn_in T_ok func99 rfl rfl ntmps99 rfl (by simp) ?_
 refine region_k T_ok (by decide) fun K hK => ?_
 simp [go_sem]
 refine hK _ ?_; clear hK K
 refine region_k T_ok (by decide) fun K hK => ?_
 simp [go_sem]
 refine hK _ ?_; clear hK K
 refine region_k T_ok (by decide) fun K hK => ?_
 simp [go_sem]
 trace_state
 refine hK _ ?_; clear hK K
 refine region_k T_ok (by decide) fun K hK => ?_
 simp [go_sem]
 refine hK _ ?_; clear hK K
 refine tr_ret ⟨.inr rfl, ?_⟩
 simp [go_sem]
 rfl
open Go Go.Sl Go.Proofs.Try
def setT : List (List Int) := setOf (tsoEnds (bufT true))
theorem buf41 (f : Bool) : ∀ q ∈ setOf (tsoEnds (bufT f)), q.length = 41 := fun q hq => by
 have := mem_setOf.1 hq
 exact (explT_ok (bufT_ok f) _ _ _ (tsoM_ok (bufT_ok f)) ⟨fun _ h => (by cases h), fun _ h => (by cases h)⟩).ends q this
theorem bufLen (f : Bool) : (setOf (tsoEnds (bufT f))).length = (tsoEnds (bufT f)).length := setOf_len (explT_nodup (bufT_ok f) _ _ _ (tsoM_ok (bufT_ok f)) List.nodup_nil)
theorem setF_len : (setOf (tsoEnds (bufT false))).length = 4 := by rw [bufLen, endsF]; rfl
theorem setT_len : (setOf (tsoEnds (bufT true))).length = 3 := by rw [bufLen, endsT]; rfl
theorem setF_has : decide (st4 ∈ setOf (tsoEnds (bufT false))) = true := by
 rw [decide_eq_true_eq, mem_setOf, endsF]; exact .tail _ (.head _)
theorem setT_has : decide (st4 ∈ setOf (tsoEnds (bufT true))) = false := by
 rw [decide_eq_false_iff_not, mem_setOf, endsT]; decide
theorem buf_pairs (f : Bool) : hasPairs (bufT f).ths = false := by cases f <;> rfl
set_option maxRecDepth 100000 in
set_option maxHeartbeats 8000000 in
theorem awake14  : Pf Try.prog 63 [] (bV true) := by
 refine Pf.of_fn .nil (.val _) ?_
 refine fn_in T_ok func63 rfl rfl ntmps63 rfl (by simp) ?_
 refine region_k T_ok (by decide) fun K hK => ?_
 simp [go_sem]
 refine hK _ ?_; clear hK K
 refine region_k T_ok (by decide) fun K hK => ?_
 simp [go_sem]
 refine call_pf (buffering_pf false) ?_
 simp [go_sem]
 refine call_pf (buffering_pf true) ?_
 simp [go_sem, buf_cs]
 refine hK _ ?_; clear hK K
 refine Tr.weaken (Weaker.fz (t' := [(1, .rp (bufT false).cs 0), (2, .rp (bufT true).cs 0)]) (H' := []) 1 0 (by simp [go_sem, buf_cs]) (by simp) (by simp)) ?_
 refine region_k T_ok (by decide) fun K hK => ?_
 simp [go_sem]
 refine call_pf (tso_pf (bufT false) (bufT_ok _) (buf_pairs _) (by rw [endsF]; decide)) ?_
 simp [go_sem]
 refine hK _ ?_; clear hK K
 refine region_k T_ok (by decide) fun K hK => ?_
 simp [go_sem]
 refine call_pf (tso_pf (bufT true) (bufT_ok _) (buf_pairs _) (by rw [endsT]; decide)) ?_
 simp [go_sem]
 refine hK _ ?_; clear hK K
 refine region_k T_ok (by decide) fun K hK => ?_
 simp [go_sem, setF_len, setT_len]
 trace_state
 refine call_lendP state4_pf (pure_agg (stK_vals _)) 2 (by simp [go_sem]) ?_
 simp [go_sem, setF_len, setT_len]
 refine call_pf (has_pf _ (buf41 false) (rising_setOf _) (by rw [setF_len]; decide) st4 rfl) ?_
 simp [go_sem, setF_len, setT_len, setF_has]
 refine call_lendP state4_pf (pure_agg (stK_vals _)) 2 (by simp [go_sem]) ?_
 simp [go_sem, setF_len, setT_len, setF_has]
 refine call_pf (has_pf _ (buf41 true) (rising_setOf _) (by rw [setT_len]; decide) st4 rfl) ?_
 simp [go_sem, setF_len, setT_len, setF_has, setT_has]
 refine hK _ ?_; clear hK K
 refine tr_ret ⟨.inr rfl, ?_⟩
 simp [go_sem]
open Go Go.Sl Go.Proofs.Try
set_option maxRecDepth 100000 in
set_option maxHeartbeats 8000000 in
theorem blank_pf (x : Ins) : Pf Try.prog 104 [insC x] (insC (blankI x)) := by
 refine Pf.of_fn (.cons (nl_insC x) .nil) (nl_insC _) ?_
 refine fn_in T_ok func104 rfl rfl ntmps104 rfl (by simp) ?_
 refine region_k T_ok (by decide) fun K hK => ?_
 simp [go_sem, insC]
 refine hK _ ?_; clear hK K
 refine region_k T_ok (by decide) fun K hK => ?_
 simp [go_sem]
 refine hK _ ?_; clear hK K
 refine seq_to ⟨78, [(1, .ptr 0 0 0), (2, .ptr 1 0 0), (3, .ptr 2 0 0)], [(0, .rows 13 [.agg x.cs]), (1, .rows 13 [.agg [iV 0, iV 0, iV 0, bV false, uV 0, bV false, uV 0, bV false, bV false, iV 0, iV 0, iV 0, iV 0]]), (2, .rows 13 [.agg [iV x.op, iV (if setB x.op = true then x.rd else 0), iV 0, bV false, uV 0, bV false, uV 0, bV false, bV false, iV 0, iV 0, iV 0, iV 0]])], 3⟩ ?_ ?_
 ·skip
  refine region_k T_ok (by decide) fun K hK => ?_
  simp [go_sem]
  refine call_pf (sets_pf x) ?_
  simp [go_sem]
  refine hK _ ?_; clear hK K
  refine cond_k rfl (fun h => ?_) (fun h => ?_)
  ·have hs := h
   refine region_e T_ok (by decide) fun K hK => ?_
   simp [go_sem]
   refine hK _ ?_; clear hK K
   refine Weaker.fzk 1 0 (by omega) ?_ ?_ ?_
   ·simp [go_sem, hs]
   ·first | (simp; done) | (simp; omega)
   ·simp [go_sem, hs]
  ·have hs := h
   refine tr_skip ?_
   refine Weaker.fzk 1 0 (by omega) ?_ ?_ ?_
   ·simp [go_sem, hs]
   ·first | (simp; done) | (simp; omega)
   ·simp [go_sem, hs]
 ·skip
  refine seq_to ⟨78, [(1, .ptr 0 0 0), (2, .ptr 1 0 0), (3, .ptr 2 0 0)], [(0, .rows 13 [.agg x.cs]), (1, .rows 13 [.agg [iV 0, iV 0, iV 0, bV false, uV 0, bV false, uV 0, bV false, bV false, iV 0, iV 0, iV 0, iV 0]]), (2, .rows 13 [.agg [iV x.op, iV (if setB x.op = true then x.rd else 0), iV (if memB x.op = true then x.loc else 0), bV false, uV 0, bV false, uV 0, bV (memB x.op && x.acq), bV (memB x.op && x.rel), iV (if memB x.op = true then x.dep else 0), iV 0, iV 0, iV 0]])], 17⟩ ?_ ?_
  ·skip
   refine region_k T_ok (by decide) fun K hK => ?_
   simp [go_sem]
   refine call_pf (ismem_pf x) ?_
   simp [go_sem]
   refine hK _ ?_; clear hK K
   refine cond_k rfl (fun h => ?_) (fun h => ?_)
   ·have hm := h
    refine draw_e T_ok (by kernel_rfl) 14 [[], [0], [], [2], [], [4], [], [6], [0, 1], [0, 1, 8], [0, 1, 2, 3, 8, 9], [0, 1, 2, 3, 8, 9, 10], [0, 1, 2, 3, 4, 5, 8, 9, 10, 11], [0, 1, 2, 3, 4, 5, 8, 9, 10, 11, 12], [0, 1, 2, 3, 4, 5, 6, 7, 8, 9, 10, 11, 12, 13], [0, 1, 2, 3, 4, 5, 6, 7, 8, 9, 10, 11, 12, 13, 14]] [(2, 9), (3, 9), (4, 9), (5, 9), (6, 9), (7, 9), (4, 11), (5, 11), (6, 11), (7, 11), (6, 13), (7, 13)] (by decide) (by decide) (by decide) fun K hK => ?_
    first | dsimp only [List.take, List.drop] | dsimp [List.take, List.drop]
    simp [go_sem]
    refine hK _ ?_; clear hK K
    refine Weaker.fzk 1 0 (by omega) ?_ ?_ ?_
    ·simp [go_sem, hm]
    ·first | (simp; done) | (simp; omega)
    ·simp [go_sem, hm]
   ·have hm := h
    refine tr_skip ?_
    refine Weaker.fzk 1 0 (by omega) ?_ ?_ ?_
    ·simp [go_sem, hm]
    ·first | (simp; done) | (simp; omega)
    ·simp [go_sem, hm]
  ·skip
   refine seq_to ⟨78, [(1, .ptr 0 0 0), (2, .ptr 1 0 0), (3, .ptr 2 0 0)], [(0, .rows 13 [.agg x.cs]), (1, .rows 13 [.agg [iV 0, iV 0, iV 0, bV false, uV 0, bV false, uV 0, bV false, bV false, iV 0, iV 0, iV 0, iV 0]]), (2, .rows 13 [.agg [iV x.op, iV (if setB x.op = true then x.rd else 0), iV (if memB x.op = true then x.loc else 0), bV (useA x.op && x.aR), uV (if useA x.op = true then x.aN else 0), bV (useB x.op && x.bR), uV (if useB x.op = true then x.bN else 0), bV (memB x.op && x.acq), bV (memB x.op && x.rel), iV (if memB x.op = true then x.dep else 0), iV 0, iV 0, iV 0]])], 23⟩ ?_ ?_
   ·skip
    refine tr_block ?_
    refine seq_to ⟨78, [(1, .ptr 0 0 0), (2, .ptr 1 0 0), (3, .ptr 2 0 0), (26, bV (use1 x.op))], [(0, .rows 13 [.agg x.cs]), (1, .rows 13 [.agg [iV 0, iV 0, iV 0, bV false, uV 0, bV false, uV 0, bV false, bV false, iV 0, iV 0, iV 0, iV 0]]), (2, .rows 13 [.agg [iV x.op, iV (if setB x.op = true then x.rd else 0), iV (if memB x.op = true then x.loc else 0), bV false, uV 0, bV false, uV 0, bV (memB x.op && x.acq), bV (memB x.op && x.rel), iV (if memB x.op = true then x.dep else 0), iV 0, iV 0, iV 0]])], 17⟩ ?_ ?_
    ·skip
     refine region_k T_ok (by decide) fun K hK => ?_
     simp [go_sem]
     refine hK _ ?_; clear hK K
     refine cond_k rfl (fun h => ?_) (fun h => ?_)
     ·simp at h
      have h1 : x.op = 1 := h
      refine tr_skip ?_
      refine Weaker.fzk 1 0 (by omega) ?_ ?_ ?_
      ·simp [go_sem, use1, h1]
      ·first | (simp; done) | (simp; omega)
      ·simp [go_sem, use1, h1]
     ·simp at h
      have h1 : ¬ x.op = 1 := h
      refine region_e T_ok (by decide) fun K hK => ?_
      simp [go_sem]
      refine call_pf (of_pf x) ?_
      simp [go_sem]
      refine hK _ ?_; clear hK K
      refine Weaker.fzk 1 0 (by omega) ?_ ?_ ?_
      ·simp [go_sem, use1, h1]
      ·first | (simp; done) | (simp; omega)
      ·simp [go_sem, use1, h1]
    ·skip
     refine cond_k rfl (fun h => ?_) (fun h => ?_)
     ·have h1' : use1 x.op = true := h
      have h1 : True := trivial
      have hab' : True := trivial
      refine region_e T_ok (by decide) fun K hK => ?_
      simp [go_sem]
      refine hK _ ?_; clear hK K
      refine Weaker.fzk 1 0 (by omega) ?_ ?_ ?_
      ·simp [go_sem, h1, h1', hab', useA, useB]
      ·first | (simp; done) | (simp; omega)
      ·simp [go_sem, h1, h1', hab', useA, useB]
     ·have h1' : use1 x.op = false := h
      have h1 : True := trivial
      refine seq_to ⟨78, [(1, .ptr 0 0 0), (2, .ptr 1 0 0), (3, .ptr 2 0 0), (36, bV (useAB x.op)), (26, bV (use1 x.op))], [(0, .rows 13 [.agg x.cs]), (1, .rows 13 [.agg [iV 0, iV 0, iV 0, bV false, uV 0, bV false, uV 0, bV false, bV false, iV 0, iV 0, iV 0, iV 0]]), (2, .rows 13 [.agg [iV x.op, iV (if setB x.op = true then x.rd else 0), iV (if memB x.op = true then x.loc else 0), bV false, uV 0, bV false, uV 0, bV (memB x.op && x.acq), bV (memB x.op && x.rel), iV (if memB x.op = true then x.dep else 0), iV 0, iV 0, iV 0]])], 17⟩ ?_ ?_
      ·skip
       refine region_to T_ok (by decide) ⟨78, [(1, .ptr 0 0 0), (2, .ptr 1 0 0), (3, .ptr 2 0 0), (26, bV (use1 x.op)), (36, bV (decide (2 ≤ x.op) && decide (x.op ≤ 8)))], [(0, .rows 13 [.agg x.cs]), (1, .rows 13 [.agg [iV 0, iV 0, iV 0, bV false, uV 0, bV false, uV 0, bV false, bV false, iV 0, iV 0, iV 0, iV 0]]), (2, .rows 13 [.agg [iV x.op, iV (if setB x.op = true then x.rd else 0), iV (if memB x.op = true then x.loc else 0), bV false, uV 0, bV false, uV 0, bV (memB x.op && x.acq), bV (memB x.op && x.rel), iV (if memB x.op = true then x.dep else 0), iV 0, iV 0, iV 0]])], 17⟩ ?_ ?_
       ·by_cases c1 : 2 ≤ x.op
        ·by_cases c2 : x.op ≤ 8
         ·simp [go_sem, c1, c2]
          refine Weaker.fz 1 0 ?_ ?_ ?_
          ·simp [go_sem, c1, c2]
          ·first | (simp; done) | (simp; omega)
          ·simp [go_sem, c1, c2]
         ·simp [go_sem, c1, c2]
          refine Weaker.fz 1 0 ?_ ?_ ?_
          ·simp [go_sem, c1, c2]
          ·first | (simp; done) | (simp; omega)
          ·simp [go_sem, c1, c2]
        ·simp [go_sem, c1]
         refine Weaker.fz 1 0 ?_ ?_ ?_
         ·simp [go_sem, c1]
         ·first | (simp; done) | (simp; omega)
         ·simp [go_sem, c1]
       ·skip
        refine cond_k rfl (fun h => ?_) (fun h => ?_)
        ·have hab : (decide (2 ≤ x.op) && decide (x.op ≤ 8)) = true := h
         have h16 : True := trivial
         refine tr_skip ?_
         refine Weaker.fzk 1 0 (by omega) ?_ ?_ ?_
         ·simp [go_sem, useAB, hab, h16, int_beq]
         ·first | (simp; done) | (simp; omega)
         ·simp [go_sem, useAB, hab, h16, int_beq]
        ·have hab : (decide (2 ≤ x.op) && decide (x.op ≤ 8)) = false := h
         refine region_k T_ok (by decide) fun K hK => ?_
         simp [go_sem]
         refine hK _ ?_; clear hK K
         refine cond_k rfl (fun h => ?_) (fun h => ?_)
         ·simp at h
          have h16 : x.op = 16 := h
          refine tr_skip ?_
          refine Weaker.fzk 1 0 (by omega) ?_ ?_ ?_
          ·simp [go_sem, useAB, hab, h16, int_beq]
          ·first | (simp; done) | (simp; omega)
          ·simp [go_sem, useAB, hab, h16, int_beq]
         ·simp at h
          have h16 : ¬ x.op = 16 := h
          refine region_e T_ok (by decide) fun K hK => ?_
          simp [go_sem]
          refine hK _ ?_; clear hK K
          refine Weaker.fzk 1 0 (by omega) ?_ ?_ ?_
          ·simp [go_sem, useAB, hab, h16, int_beq]
          ·first | (simp; done) | (simp; omega)
          ·simp [go_sem, useAB, hab, h16, int_beq]
      ·skip
       refine cond_k rfl (fun h => ?_) (fun h => ?_)
       ·have hab' : useAB x.op = true := h
        refine draw_e T_ok (by kernel_rfl) 6 [[], [0], [], [2], [0, 1], [0, 1, 4], [0, 1, 2, 3, 4, 5], [0, 1, 2, 3, 4, 5, 6]] [(2, 5), (3, 5)] (by decide) (by decide) (by decide) fun K hK => ?_
        first | dsimp only [List.take, List.drop] | dsimp [List.take, List.drop]
        simp [go_sem]
        refine hK _ ?_; clear hK K
        refine Weaker.fzk 1 0 (by omega) ?_ ?_ ?_
        ·simp [go_sem, h1, h1', hab', useA, useB]
        ·first | (simp; done) | (simp; omega)
        ·simp [go_sem, h1, h1', hab', useA, useB]
       ·have hab' : useAB x.op = false := h
        refine tr_skip ?_
        refine Weaker.fzk 1 0 (by omega) ?_ ?_ ?_
        ·simp [go_sem, h1, h1', hab', useA, useB]
        ·first | (simp; done) | (simp; omega)
        ·simp [go_sem, h1, h1', hab', useA, useB]
   ·skip
    refine seq_to ⟨78, [(1, .ptr 0 0 0), (2, .ptr 1 0 0), (3, .ptr 2 0 0)], [(0, .rows 13 [.agg x.cs]), (1, .rows 13 [.agg [iV 0, iV 0, iV 0, bV false, uV 0, bV false, uV 0, bV false, bV false, iV 0, iV 0, iV 0, iV 0]]), (2, .rows 13 [.agg [iV x.op, iV (if setB x.op = true then x.rd else 0), iV (if memB x.op = true then x.loc else 0), bV (useA x.op && x.aR), uV (if useA x.op = true then x.aN else 0), bV (useB x.op && x.bR), uV (if useB x.op = true then x.bN else 0), bV (memB x.op && x.acq), bV (memB x.op && x.rel), iV (if memB x.op = true then x.dep else 0), iV (if x.op = 15 then x.pred else 0), iV (if x.op = 15 then x.succ else 0), iV 0]])], 29⟩ ?_ ?_
    ·skip
     refine region_k T_ok (by decide) fun K hK => ?_
     simp [go_sem]
     refine hK _ ?_; clear hK K
     refine cond_k rfl (fun h => ?_) (fun h => ?_)
     ·simp at h
      have hf := h
      refine draw_e T_ok (by kernel_rfl) 6 [[], [0], [], [2], [0, 1], [0, 1, 4], [0, 1, 2, 3, 4, 5], [0, 1, 2, 3, 4, 5, 6]] [(2, 5), (3, 5)] (by decide) (by decide) (by decide) fun K hK => ?_
      first | dsimp only [List.take, List.drop] | dsimp [List.take, List.drop]
      simp [go_sem]
      refine hK _ ?_; clear hK K
      refine Weaker.fzk 1 0 (by omega) ?_ ?_ ?_
      ·simp [go_sem, hf]
      ·first | (simp; done) | (simp; omega)
      ·simp [go_sem, hf]
     ·simp at h
      have hf := h
      refine tr_skip ?_
      refine Weaker.fzk 1 0 (by omega) ?_ ?_ ?_
      ·simp [go_sem, hf]
      ·first | (simp; done) | (simp; omega)
      ·simp [go_sem, hf]
    ·skip
     refine seq_k fun K1 hK1 => ?_
     refine region_to T_ok (by decide) ⟨78, [(1, .ptr 0 0 0), (2, .ptr 1 0 0), (3, .ptr 2 0 0), (73, bV (isBr x.op))], [(0, .rows 13 [.agg x.cs]), (1, .rows 13 [.agg [iV 0, iV 0, iV 0, bV false, uV 0, bV false, uV 0, bV false, bV false, iV 0, iV 0, iV 0, iV 0]]), (2, .rows 13 [.agg [iV x.op, iV (if setB x.op = true then x.rd else 0), iV (if memB x.op = true then x.loc else 0), bV (useA x.op && x.aR), uV (if useA x.op = true then x.aN else 0), bV (useB x.op && x.bR), uV (if useB x.op = true then x.bN else 0), bV (memB x.op && x.acq), bV (memB x.op && x.rel), iV (if memB x.op = true then x.dep else 0), iV (if x.op = 15 then x.pred else 0), iV (if x.op = 15 then x.succ else 0), iV 0]])], 29⟩ ?_ ?_
     ·by_cases c1 : x.op = 16
      ·simp [go_sem, c1]
       refine Weaker.fz 1 0 ?_ ?_ ?_
       ·simp [go_sem, c1, isBr]
       ·first | (simp; done) | (simp; omega)
       ·simp [go_sem, c1, isBr]
      ·by_cases c2 : x.op = 17
       ·simp [go_sem, c1, c2]
        refine Weaker.fz 1 0 ?_ ?_ ?_
        ·simp [go_sem, c1, c2, isBr]
        ·first | (simp; done) | (simp; omega)
        ·simp [go_sem, c1, c2, isBr]
       ·simp [go_sem, c1, c2]
        refine Weaker.fz 1 0 ?_ ?_ ?_
        ·simp [go_sem, c1, c2, isBr]
        ·first | (simp; done) | (simp; omega)
        ·simp [go_sem, c1, c2, isBr]
     ·skip
      refine cond_k rfl (fun h => ?_) (fun h => ?_)
      ·have hb := h
       refine region_e T_ok (by decide) fun K hK => ?_
       simp [go_sem]
       refine hK _ ?_; clear hK K
       refine hK1 _ ?_; try clear hK1 K1
       refine region_k T_ok (by decide) fun K hK => ?_
       simp [go_sem]
       refine hK _ ?_; clear hK K
       refine tr_ret ⟨.inr rfl, ?_⟩
       simp [go_sem, insC, Ins.cs, blankI, hb]
      ·have hb := h
       refine tr_skip ?_
       refine hK1 _ ?_; try clear hK1 K1
       refine region_k T_ok (by decide) fun K hK => ?_
       simp [go_sem]
       refine hK _ ?_; clear hK K
       refine tr_ret ⟨.inr rfl, ?_⟩
       simp [go_sem, insC, Ins.cs, blankI, hb]
open Go Go.Sl Go.Proofs.Try
set_option maxRecDepth 100000 in
set_option maxHeartbeats 16000000 in
theorem check_pf (t : Tst) (x : Ins) (left : Int) : Pf Try.prog 79 [.rp t.cs 0, insC x, iV left] (iV (insErr t.locs.length left x)) := by
 refine Pf.of_fn (.cons (nl_rp t) (.cons (nl_insC x) (.cons (.val _) .nil))) (.val _) ?_
 refine fn_in T_ok func79 rfl rfl ntmps79 rfl (by simp) ?_
 refine region_k T_ok (by decide) fun K hK => ?_
 simp [go_sem, insC]
 refine hK _ ?_; clear hK K
 refine seq_k fun K1 hK1 => ?_
 refine tr_block ?_
 refine draw_to T_ok (by kernel_rfl) 12 [[], [0], [0, 1], [0, 1, 2], [0, 1, 2, 3], [0, 1, 2, 3, 4], [0, 1, 2, 3, 4, 5], [0, 1, 2, 3, 4, 5, 6], [0, 1, 2, 3, 4, 5, 6, 7], [0, 1, 2, 3, 4, 5, 6, 7, 8], [0, 1, 2, 3, 4, 5, 6, 7, 8, 9], [0, 1, 2, 3, 4, 5, 6, 7, 8], [0, 1, 2, 3, 4, 5, 6, 7, 8, 9, 10, 11], [0, 1, 2, 3, 4, 5, 6, 7, 8, 9, 10, 11, 12], [0, 1, 2, 3, 4, 5, 6, 7, 8, 9, 10, 11, 12, 13]] [] (by decide) (by decide) (by decide) ⟨133, [(0, .rp t.cs 0), (2, iV left), (4, .ptr 0 0 0), (7, bV (err1 x))], [(0, .rows 13 [.agg x.cs])], 13⟩ ?_ ?_
 ·first | dsimp only [List.take, List.drop] | dsimp [List.take, List.drop]
  by_cases c1 : x.op < 1
  ·simp [go_sem, c1]
   refine Weaker.fz 1 0 ?_ ?_ ?_
   ·simp [go_sem, c1, err1]
   ·first | (simp; done) | (simp; omega)
   ·simp [go_sem, c1, err1]
  ·by_cases c2 : 17 < x.op
   ·simp [go_sem, c1, c2]
    refine Weaker.fz 1 0 ?_ ?_ ?_
    ·simp [go_sem, c1, c2, err1]
    ·first | (simp; done) | (simp; omega)
    ·simp [go_sem, c1, c2, err1]
   ·simp [go_sem, c1, c2]
    refine callD_of (blank_pf x) ?_
    simp [go_sem, c1, c2, insC]
    refine Weaker.fz 1 0 ?_ ?_ ?_
    ·simp [go_sem, c1, c2, err1]
    ·first | (simp; done) | (simp; omega)
    ·simp [go_sem, c1, c2, err1]
 ·skip
  refine cond_k rfl (fun h => ?_) (fun h => ?_)
  ·have e1 := h
   refine region_k T_ok (by decide) fun K hK => ?_
   simp [go_sem]
   refine hK _ ?_; clear hK K
   refine tr_ret ⟨.inr rfl, ?_⟩
   simp [go_sem, insErr, e1]
  ·have e1 := h
   refine region_to T_ok (by decide) ⟨133, [(0, .rp t.cs 0), (2, iV left), (4, .ptr 0 0 0), (22, bV (err2 x))], [(0, .rows 13 [.agg x.cs])], 13⟩ ?_ ?_
   ·by_cases c1 : x.rd < 0
    ·simp [go_sem, c1]
     refine Weaker.fz 1 0 ?_ ?_ ?_
     ·simp [go_sem, c1, err2]
     ·first | (simp; done) | (simp; omega)
     ·simp [go_sem, c1, err2]
    ·by_cases c2 : 8 ≤ x.rd
     ·simp [go_sem, c1, c2]
      refine Weaker.fz 1 0 ?_ ?_ ?_
      ·simp [go_sem, c1, c2, err2]
      ·first | (simp; done) | (simp; omega)
      ·simp [go_sem, c1, c2, err2]
     ·by_cases c3 : argOk x.aR x.aN = true
      ·by_cases c4 : argOk x.bR x.bN = true
       ·by_cases c5 : x.dep < 0
        ·simp [go_sem, c1, c2, c3, c4, c5]
         refine call_pf (goodArg_pf _ _) ?_
         simp [go_sem, c1, c2, c3, c4, c5]
         refine call_pf (goodArg_pf _ _) ?_
         simp [go_sem, c1, c2, c3, c4, c5]
         refine Weaker.fz 1 0 ?_ ?_ ?_
         ·simp [go_sem, c1, c2, c3, c4, c5, err2]
         ·first | (simp; done) | (simp; omega)
         ·simp [go_sem, c1, c2, c3, c4, c5, err2]
        ·by_cases c6 : 8 < x.dep
         ·simp [go_sem, c1, c2, c3, c4, c5, c6]
          refine call_pf (goodArg_pf _ _) ?_
          simp [go_sem, c1, c2, c3, c4, c5, c6]
          refine call_pf (goodArg_pf _ _) ?_
          simp [go_sem, c1, c2, c3, c4, c5, c6]
          refine Weaker.fz 1 0 ?_ ?_ ?_
          ·simp [go_sem, c1, c2, c3, c4, c5, c6, err2]
          ·first | (simp; done) | (simp; omega)
          ·simp [go_sem, c1, c2, c3, c4, c5, c6, err2]
         ·simp [go_sem, c1, c2, c3, c4, c5, c6]
          refine call_pf (goodArg_pf _ _) ?_
          simp [go_sem, c1, c2, c3, c4, c5, c6]
          refine call_pf (goodArg_pf _ _) ?_
          simp [go_sem, c1, c2, c3, c4, c5, c6]
          refine Weaker.fz 1 0 ?_ ?_ ?_
          ·simp [go_sem, c1, c2, c3, c4, c5, c6, err2]
          ·first | (simp; done) | (simp; omega)
          ·simp [go_sem, c1, c2, c3, c4, c5, c6, err2]
       ·simp [go_sem, c1, c2, c3, c4]
        refine call_pf (goodArg_pf _ _) ?_
        simp [go_sem, c1, c2, c3, c4]
        refine call_pf (goodArg_pf _ _) ?_
        simp [go_sem, c1, c2, c3, c4]
        refine Weaker.fz 1 0 ?_ ?_ ?_
        ·simp [go_sem, c1, c2, c3, c4, err2]
        ·first | (simp; done) | (simp; omega)
        ·simp [go_sem, c1, c2, c3, c4, err2]
      ·simp [go_sem, c1, c2, c3]
       refine call_pf (goodArg_pf _ _) ?_
       simp [go_sem, c1, c2, c3]
       refine Weaker.fz 1 0 ?_ ?_ ?_
       ·simp [go_sem, c1, c2, c3, err2]
       ·first | (simp; done) | (simp; omega)
       ·simp [go_sem, c1, c2, c3, err2]
   ·skip
    refine cond_k rfl (fun h => ?_) (fun h => ?_)
    ·have e2 := h
     refine region_k T_ok (by decide) fun K hK => ?_
     simp [go_sem]
     refine hK _ ?_; clear hK K
     refine tr_ret ⟨.inr rfl, ?_⟩
     simp [go_sem, insErr, e1, e2]
    ·have e2 := h
     refine draw_to T_ok (by kernel_rfl) 14 [[], [0], [0, 1], [0, 1, 2], [0, 1, 2, 3], [0, 1, 2, 3, 4], [0, 1, 2, 3, 4, 5], [0, 1, 2, 3, 4, 5, 6], [0, 1, 2, 3, 4, 5, 6, 7], [0, 1, 2, 3, 4, 5, 6], [0, 1, 2, 3, 4, 5, 6, 9], [0, 1, 2, 3, 4, 5, 6, 9, 10], [0, 1, 2, 3, 4, 5, 6, 9, 10, 11], [0, 1, 2, 3, 4, 5, 6, 9, 10, 11, 12], [0, 1, 2, 3, 4, 5, 6, 7, 8, 9, 10, 11, 12, 13], [0, 1, 2, 3, 4, 5, 6, 7, 8, 9, 10, 11, 12, 13, 14], [0, 1, 2, 3, 4, 5, 6, 7, 8, 9, 10, 11, 12, 13, 14, 15], [0, 1, 2, 3, 4, 5, 6, 7, 8, 9, 10, 11, 12, 13, 14, 15, 16]] [] (by decide) (by decide) (by decide) ⟨133, [(0, .rp t.cs 0), (2, iV left), (4, .ptr 0 0 0), (53, bV (err3 t.locs.length x))], [(0, .rows 13 [.agg x.cs])], 27⟩ ?_ ?_
     ·first | dsimp only [List.take, List.drop] | dsimp [List.take, List.drop]
      by_cases c1 : memB x.op = true
      ·by_cases c2 : x.loc < 0
       ·simp [go_sem, c1, c2, Tst.cs]
        refine callD_of (ismem_pf x) ?_
        simp [go_sem, c1, c2, Tst.cs]
        refine Weaker.fz 1 0 ?_ ?_ ?_
        ·simp [go_sem, Tst.cs, c1, c2, err3]
        ·first | (simp; done) | (simp; omega)
        ·simp [go_sem, c1, c2, err3]
       ·by_cases c3 : (t.locs.length : Int) ≤ x.loc
        ·simp [go_sem, c1, c2, c3, Tst.cs]
         refine callD_of (ismem_pf x) ?_
         simp [go_sem, c1, c2, c3, Tst.cs]
         refine Weaker.fz 1 0 ?_ ?_ ?_
         ·simp [go_sem, Tst.cs, c1, c2, c3, err3]
         ·first | (simp; done) | (simp; omega)
         ·simp [go_sem, c1, c2, c3, err3]
        ·simp [go_sem, c1, c2, c3, Tst.cs]
         refine callD_of (ismem_pf x) ?_
         simp [go_sem, c1, c2, c3, Tst.cs]
         refine Weaker.fz 1 0 ?_ ?_ ?_
         ·simp [go_sem, Tst.cs, c1, c2, c3, err3]
         ·first | (simp; done) | (simp; omega)
         ·simp [go_sem, c1, c2, c3, err3]
      ·simp [go_sem, c1, Tst.cs]
       refine callD_of (ismem_pf x) ?_
       simp [go_sem, c1, Tst.cs]
       refine Weaker.fz 1 0 ?_ ?_ ?_
       ·simp [go_sem, Tst.cs, c1, err3]
       ·first | (simp; done) | (simp; omega)
       ·simp [go_sem, c1, err3]
     ·skip
      refine cond_k rfl (fun h => ?_) (fun h => ?_)
      ·have e3 := h
       refine region_k T_ok (by decide) fun K hK => ?_
       simp [go_sem]
       refine hK _ ?_; clear hK K
       refine tr_ret ⟨.inr rfl, ?_⟩
       simp [go_sem, insErr, e1, e2, e3]
      ·have e3 := h
       refine region_to T_ok (by decide) ⟨133, [(0, .rp t.cs 0), (2, iV left), (4, .ptr 0 0 0), (71, bV (err4 x))], [(0, .rows 13 [.agg x.cs])], 27⟩ ?_ ?_
       ·by_cases c1 : x.op = 1
        ·by_cases c2 : x.aR = true
         ·simp [go_sem, c1, c2]
          refine Weaker.fz 1 0 ?_ ?_ ?_
          ·simp [go_sem, c1, c2, err4]
          ·first | (simp; done) | (simp; omega)
          ·simp [go_sem, c1, c2, err4]
         ·simp [go_sem, c1, c2]
          refine Weaker.fz 1 0 ?_ ?_ ?_
          ·simp [go_sem, c1, c2, err4]
          ·first | (simp; done) | (simp; omega)
          ·simp [go_sem, c1, c2, err4]
        ·simp [go_sem, c1]
         refine Weaker.fz 1 0 ?_ ?_ ?_
         ·simp [go_sem, c1, err4]
         ·first | (simp; done) | (simp; omega)
         ·simp [go_sem, c1, err4]
       ·skip
        refine cond_k rfl (fun h => ?_) (fun h => ?_)
        ·have e4 := h
         refine region_k T_ok (by decide) fun K hK => ?_
         simp [go_sem]
         refine hK _ ?_; clear hK K
         refine tr_ret ⟨.inr rfl, ?_⟩
         simp [go_sem, insErr, e1, e2, e3, e4]
        ·have e4 := h
         refine region_to T_ok (by decide) ⟨133, [(0, .rp t.cs 0), (2, iV left), (4, .ptr 0 0 0), (80, bV (err5 x))], [(0, .rows 13 [.agg x.cs])], 27⟩ ?_ ?_
         ·by_cases c1 : x.op = 15
          ·by_cases c2 : x.pred < 1
           ·simp [go_sem, c1, c2]
            refine Weaker.fz 1 0 ?_ ?_ ?_
            ·simp [go_sem, c1, c2, err5]
            ·first | (simp; done) | (simp; omega)
            ·simp [go_sem, c1, c2, err5]
           ·by_cases c3 : 3 < x.pred
            ·simp [go_sem, c1, c2, c3]
             refine Weaker.fz 1 0 ?_ ?_ ?_
             ·simp [go_sem, c1, c2, c3, err5]
             ·first | (simp; done) | (simp; omega)
             ·simp [go_sem, c1, c2, c3, err5]
            ·by_cases c4 : x.succ < 1
             ·simp [go_sem, c1, c2, c3, c4]
              refine Weaker.fz 1 0 ?_ ?_ ?_
              ·simp [go_sem, c1, c2, c3, c4, err5]
              ·first | (simp; done) | (simp; omega)
              ·simp [go_sem, c1, c2, c3, c4, err5]
             ·by_cases c5 : 3 < x.succ
              ·simp [go_sem, c1, c2, c3, c4, c5]
               refine Weaker.fz 1 0 ?_ ?_ ?_
               ·simp [go_sem, c1, c2, c3, c4, c5, err5]
               ·first | (simp; done) | (simp; omega)
               ·simp [go_sem, c1, c2, c3, c4, c5, err5]
              ·simp [go_sem, c1, c2, c3, c4, c5]
               refine Weaker.fz 1 0 ?_ ?_ ?_
               ·simp [go_sem, c1, c2, c3, c4, c5, err5]
               ·first | (simp; done) | (simp; omega)
               ·simp [go_sem, c1, c2, c3, c4, c5, err5]
          ·simp [go_sem, c1]
           refine Weaker.fz 1 0 ?_ ?_ ?_
           ·simp [go_sem, c1, err5]
           ·first | (simp; done) | (simp; omega)
           ·simp [go_sem, c1, err5]
         ·skip
          refine cond_k rfl (fun h => ?_) (fun h => ?_)
          ·have e5 := h
           refine region_k T_ok (by decide) fun K hK => ?_
           simp [go_sem]
           refine hK _ ?_; clear hK K
           refine tr_ret ⟨.inr rfl, ?_⟩
           simp [go_sem, insErr, e1, e2, e3, e4, e5]
          ·have e5 := h
           refine region_to T_ok (by decide) ⟨133, [(0, .rp t.cs 0), (2, iV left), (4, .ptr 0 0 0), (104, bV (err6 x))], [(0, .rows 13 [.agg x.cs])], 27⟩ ?_ ?_
           ·by_cases c1 : x.acq = true
            ·by_cases c2 : rdB x.op = true
             ·by_cases c3 : x.rel = true
              ·simp [go_sem, c1, c2, c3]
               refine call_pf (of_pf x) ?_
               simp [go_sem, c1, c2, c3]
               refine call_pf (of_pf x) ?_
               simp [go_sem, c1, c2, c3]
               refine Weaker.fz 1 0 ?_ ?_ ?_
               ·simp [go_sem, c1, c2, c3, err6]
               ·first | (simp; done) | (simp; omega)
               ·simp [go_sem, c1, c2, c3, err6]
              ·simp [go_sem, c1, c2, c3]
               refine call_pf (of_pf x) ?_
               simp [go_sem, c1, c2, c3]
               refine Weaker.fz 1 0 ?_ ?_ ?_
               ·simp [go_sem, c1, c2, c3, err6]
               ·first | (simp; done) | (simp; omega)
               ·simp [go_sem, c1, c2, c3, err6]
             ·simp [go_sem, c1, c2]
              refine call_pf (of_pf x) ?_
              simp [go_sem, c1, c2]
              refine Weaker.fz 1 0 ?_ ?_ ?_
              ·simp [go_sem, c1, c2, err6]
              ·first | (simp; done) | (simp; omega)
              ·simp [go_sem, c1, c2, err6]
            ·by_cases c2 : x.rel = true
             ·simp [go_sem, c1, c2]
              refine call_pf (of_pf x) ?_
              simp [go_sem, c1, c2]
              refine Weaker.fz 1 0 ?_ ?_ ?_
              ·simp [go_sem, c1, c2, err6]
              ·first | (simp; done) | (simp; omega)
              ·simp [go_sem, c1, c2, err6]
             ·simp [go_sem, c1, c2]
              refine Weaker.fz 1 0 ?_ ?_ ?_
              ·simp [go_sem, c1, c2, err6]
              ·first | (simp; done) | (simp; omega)
              ·simp [go_sem, c1, c2, err6]
           ·skip
            refine cond_k rfl (fun h => ?_) (fun h => ?_)
            ·have e6 := h
             refine region_k T_ok (by decide) fun K hK => ?_
             simp [go_sem]
             refine hK _ ?_; clear hK K
             refine tr_ret ⟨.inr rfl, ?_⟩
             simp [go_sem, insErr, e1, e2, e3, e4, e5, e6]
            ·have e6 := h
             refine region_to T_ok (by decide) ⟨133, [(0, .rp t.cs 0), (2, iV left), (4, .ptr 0 0 0), (123, bV (err7 x left))], [(0, .rows 13 [.agg x.cs])], 27⟩ ?_ ?_
             ·by_cases c1 : x.skip < 0
              ·simp [go_sem, c1]
               refine Weaker.fz 1 0 ?_ ?_ ?_
               ·simp [go_sem, c1, err7]
               ·first | (simp; done) | (simp; omega)
               ·simp [go_sem, c1, err7]
              ·by_cases c2 : left < x.skip
               ·simp [go_sem, c1, c2]
                refine Weaker.fz 1 0 ?_ ?_ ?_
                ·simp [go_sem, c1, c2, err7]
                ·first | (simp; done) | (simp; omega)
                ·simp [go_sem, c1, c2, err7]
               ·simp [go_sem, c1, c2]
                refine Weaker.fz 1 0 ?_ ?_ ?_
                ·simp [go_sem, c1, c2, err7]
                ·first | (simp; done) | (simp; omega)
                ·simp [go_sem, c1, c2, err7]
             ·skip
              refine cond_k rfl (fun h => ?_) (fun h => ?_)
              ·have e7 := h
               refine region_k T_ok (by decide) fun K hK => ?_
               simp [go_sem]
               refine hK _ ?_; clear hK K
               refine tr_ret ⟨.inr rfl, ?_⟩
               simp [go_sem, insErr, e1, e2, e3, e4, e5, e6, e7]
              ·have e7 := h
               refine tr_skip ?_
               refine hK1 _ ?_; try clear hK1 K1
               refine region_k T_ok (by decide) fun K hK => ?_
               simp [go_sem]
               refine hK _ ?_; clear hK K
               refine tr_ret ⟨.inr rfl, ?_⟩
               simp [go_sem, insErr, e1, e2, e3, e4, e5, e6, e7]
open Go Go.Sl Go.Proofs.Try
@[go_sem] theorem str_nil (s : ByteArray) : (s.toList = []) = (s.size = 0) := by
 rw [ByteArray.toList_eq]
 obtain ⟨⟨x⟩⟩ := s
 cases x with
 | nil => exact propext ⟨fun _ => rfl, fun _ => rfl⟩
 | cons a l => exact propext ⟨fun h => by simp at h, fun h => by simp [ByteArray.size] at h⟩
@[go_sem] theorem str_empty (s : ByteArray) : s.toList.isEmpty = decide (s.size = 0) := by
 rw [Bool.eq_iff_iff, List.isEmpty_iff, decide_eq_true_eq, str_nil]
set_option maxRecDepth 100000 in
set_option maxHeartbeats 8000000 in
theorem name_pf (s : ByteArray) (hs : s.size ≤ 1000000) : Pf Try.prog 78 [.val (.string s)] (bV (nmB s)) := by
 refine Pf.of_fn (.cons (.val _) .nil) (.val _) ?_
 refine fn_in T_ok func78 rfl rfl ntmps78 rfl (by simp) ?_
 refine region_k T_ok (by decide) fun K hK => ?_
 simp [go_sem]
 refine hK _ ?_; clear hK K
 refine seq_k fun K1 hK1 => ?_
 refine region_k T_ok (by decide) fun K hK => ?_
 simp [go_sem]
 refine hK _ ?_; clear hK K
 refine tr_block ?_
 refine loop_p (α := Nat) (fun a => ⟨53, [(0, .val (.string s)), (5, .val (.string s)), (6, iV (s.size : Nat)), (7, iV (a : Nat))], [], 0⟩) (fun a => a ≤ s.size ∧ okCs s a = true) (fun a => s.size - a) 0 ?_ ?_ ?_
 ·exact ⟨by omega, rfl⟩
 ·refine Weaker.fz 1 0 ?_ ?_ ?_
  ·simp [go_sem]
  ·first | (simp; done) | (simp; omega)
  ·simp [go_sem]
 rintro i ⟨hi, hok⟩
 try dsimp only
 refine region_k T_ok (by decide) fun K hK => ?_
 simp [go_sem]
 refine hK _ ?_; clear hK K
 refine seq_k fun K2 hK2 => ?_
 refine cond_k rfl (fun h => ?_) (fun h => ?_)
 ·simp at h
  have h' : i < s.size := by omega
  have hi0 : (0 : Int) ≤ (i : Nat) := by omega
  have hw : IntKind.i64.wrap ((i : Nat) + 1) = (i : Nat) + 1 := wrap_i64 (by omega) (by omega)
  refine tr_skip ?_
  refine hK2 _ ?_; try clear hK2 K2
  refine seq_k fun K3 hK3 => ?_
  refine tr_block ?_
  refine region_k T_ok (by decide) fun K hK => ?_
  simp [go_sem]
  refine hK _ ?_; clear hK K
  refine region_k T_ok (by decide) fun K hK => ?_
  simp [go_sem, h']
  refine hK _ ?_; clear hK K
  refine region_to T_ok (by decide) ⟨53, [(0, .val (.string s)), (5, .val (.string s)), (6, iV (s.size : Nat)), (7, iV (i : Nat)), (31, bV (!okC i (chI s i)))], [], 0⟩ ?_ ?_
  ·generalize chI s i = c
   by_cases c1 : 97 ≤ c
   ·by_cases c2 : c ≤ 122
    ·simp [go_sem, c1, c2]
     refine Weaker.fz 1 0 ?_ ?_ ?_
     ·simp [go_sem, c1, c2, okC]
     ·first | (simp; done) | (simp; omega)
     ·simp [go_sem, c1, c2, okC]
    ·by_cases c3 : 0 < i
     ·by_cases c4 : 48 ≤ c
      ·by_cases c5 : c ≤ 57
       ·simp [go_sem, c1, c2, c3, c4, c5]
        refine Weaker.fz 1 0 ?_ ?_ ?_
        ·simp [go_sem, c1, c2, c3, c4, c5, okC]
        ·first | (simp; done) | (simp; omega)
        ·simp [go_sem, c1, c2, c3, c4, c5, okC]
       ·simp [go_sem, c1, c2, c3, c4, c5]
        refine Weaker.fz 1 0 ?_ ?_ ?_
        ·simp [go_sem, c1, c2, c3, c4, c5, okC]
        ·first | (simp; done) | (simp; omega)
        ·simp [go_sem, c1, c2, c3, c4, c5, okC]
      ·simp [go_sem, c1, c2, c3, c4]
       refine Weaker.fz 1 0 ?_ ?_ ?_
       ·simp [go_sem, c1, c2, c3, c4, okC]
       ·first | (simp; done) | (simp; omega)
       ·simp [go_sem, c1, c2, c3, c4, okC]
     ·simp [go_sem, c1, c2, c3]
      refine Weaker.fz 1 0 ?_ ?_ ?_
      ·simp [go_sem, c1, c2, c3, okC]
      ·first | (simp; done) | (simp; omega)
      ·simp [go_sem, c1, c2, c3, okC]
   ·by_cases c2 : 0 < i
    ·by_cases c3 : 48 ≤ c
     ·by_cases c4 : c ≤ 57
      ·simp [go_sem, c1, c2, c3, c4]
       refine Weaker.fz 1 0 ?_ ?_ ?_
       ·simp [go_sem, c1, c2, c3, c4, okC]
       ·first | (simp; done) | (simp; omega)
       ·simp [go_sem, c1, c2, c3, c4, okC]
      ·simp [go_sem, c1, c2, c3, c4]
       refine Weaker.fz 1 0 ?_ ?_ ?_
       ·simp [go_sem, c1, c2, c3, c4, okC]
       ·first | (simp; done) | (simp; omega)
       ·simp [go_sem, c1, c2, c3, c4, okC]
     ·simp [go_sem, c1, c2, c3]
      refine Weaker.fz 1 0 ?_ ?_ ?_
      ·simp [go_sem, c1, c2, c3, okC]
      ·first | (simp; done) | (simp; omega)
      ·simp [go_sem, c1, c2, c3, okC]
    ·simp [go_sem, c1, c2]
     refine Weaker.fz 1 0 ?_ ?_ ?_
     ·simp [go_sem, c1, c2, okC]
     ·first | (simp; done) | (simp; omega)
     ·simp [go_sem, c1, c2, okC]
  ·skip
   refine cond_k rfl (fun h => ?_) (fun h => ?_)
   ·have hc : okC i (chI s i) = false := by simpa using h
    have hbad : okCs s s.size = false := okCs_bad h' hc
    refine region_k T_ok (by decide) fun K hK => ?_
    simp [go_sem]
    refine hK _ ?_; clear hK K
    refine tr_ret ⟨.inr rfl, ?_⟩
    simp [go_sem, nmB, hbad]
   ·have hc : okC i (chI s i) = true := by simpa using h
    refine tr_skip ?_
    refine hK3 _ ?_; try clear hK3 K3
    refine region_e T_ok (by decide) fun K hK => ?_
    simp [go_sem, hw]
    refine hK _ ?_; clear hK K
    refine ⟨i + 1, ?_, ?_, ?_⟩
    ·exact ⟨by omega, by simp [okCs, hok, hc]⟩
    ·omega
    ·refine Weaker.fz 1 0 ?_ ?_ ?_
     ·simp [go_sem]
     ·first | (simp; done) | (simp; omega)
     simp [go_sem]
 ·simp at h
  obtain rfl : i = s.size := by omega
  refine tr_exit ?_
  refine hK1 _ ?_; try clear hK1 K1
  refine seq_k fun K4 hK4 => ?_
  refine region_to T_ok (by decide) ⟨53, [(0, .val (.string s)), (45, bV (regN s))], [], 0⟩ ?_ ?_
  ·have hsI : (((s.size : Nat) : Int) = 2) = (s.size = 2) := propext (by omega)
   by_cases c1 : s.size = 2
   ·by_cases c2 : chI s 0 = 114
    ·by_cases c3 : chI s 1 ≤ 57
     ·simp [go_sem, c1, c2, c3, hsI]
      refine Weaker.fz 1 0 ?_ ?_ ?_
      ·simp [go_sem, c1, c2, c3, regN]
      ·first | (simp; done) | (simp; omega)
      ·simp [go_sem, c1, c2, c3, regN]
     ·simp [go_sem, c1, c2, c3, hsI]
      refine Weaker.fz 1 0 ?_ ?_ ?_
      ·simp [go_sem, c1, c2, c3, regN]
      ·first | (simp; done) | (simp; omega)
      ·simp [go_sem, c1, c2, c3, regN]
    ·simp [go_sem, c1, c2, hsI]
     refine Weaker.fz 1 0 ?_ ?_ ?_
     ·simp [go_sem, c1, c2, regN]
     ·first | (simp; done) | (simp; omega)
     ·simp [go_sem, c1, c2, regN]
   ·simp [go_sem, c1, hsI]
    refine Weaker.fz 1 0 ?_ ?_ ?_
    ·simp [go_sem, c1, regN]
    ·first | (simp; done) | (simp; omega)
    ·simp [go_sem, c1, regN]
  ·skip
   refine cond_k rfl (fun h => ?_) (fun h => ?_)
   ·have hreg := h
    refine region_k T_ok (by decide) fun K hK => ?_
    simp [go_sem]
    refine hK _ ?_; clear hK K
    refine tr_ret ⟨.inr rfl, ?_⟩
    simp [go_sem, nmB, hok, hreg]
   ·have hreg := h
    refine tr_skip ?_
    refine hK4 _ ?_; try clear hK4 K4
    refine region_to T_ok (by decide) ⟨53, [(2, bV (decide (s.size ≠ 0) && decide (s.size ≤ 16)))], [], 0⟩ ?_ ?_
    ·have hsI : (((s.size : Nat) : Int) ≤ 16) = (s.size ≤ 16) := propext (by omega)
     by_cases c1 : s.size = 0
     ·simp [go_sem, c1, hsI]
      refine Weaker.fz 1 0 ?_ ?_ ?_
      ·simp [go_sem, c1]
      ·first | (simp; done) | (simp; omega)
      ·simp [go_sem, c1]
     ·by_cases c2 : s.size ≤ 16
      ·simp [go_sem, c1, c2, hsI]
       refine Weaker.fz 1 0 ?_ ?_ ?_
       ·simp [go_sem, c1, c2]
       ·first | (simp; done) | (simp; omega)
       ·simp [go_sem, c1, c2]
      ·simp [go_sem, c1, c2, hsI]
       refine Weaker.fz 1 0 ?_ ?_ ?_
       ·simp [go_sem, c1, c2]
       ·first | (simp; done) | (simp; omega)
       ·simp [go_sem, c1, c2]
    ·skip
     refine tr_ret ⟨.inr rfl, ?_⟩
     simp [go_sem, nmB, hok, hreg]
set_option maxRecDepth 100000 in
set_option maxHeartbeats 8000000 in
theorem sizes_pf (t : Tst) : Pf Try.prog 77 [.rp t.cs 0] (iV (sizeErr t)) := by
 refine Pf.of_fn (.cons (nl_rp t) .nil) (.val _) ?_
 refine fn_in T_ok func77 rfl rfl ntmps77 rfl (by simp) ?_
 refine region_k T_ok (by decide) fun K hK => ?_
 simp [go_sem]
 refine hK _ ?_; clear hK K
 refine seq_k fun K1 hK1 => ?_
 refine region_k T_ok (by decide) fun K hK => ?_
 simp [go_sem, Tst.cs]
 refine hK _ ?_; clear hK K
 refine cond_k rfl (fun h => ?_) (fun h => ?_)
 ·simp at h
  have h1 := h
  refine region_k T_ok (by decide) fun K hK => ?_
  simp [go_sem]
  refine hK _ ?_; clear hK K
  refine tr_ret ⟨.inr rfl, ?_⟩
  simp [go_sem, sizeErr, h1]
 ·simp at h
  have h1 := h
  refine tr_skip ?_
  refine hK1 _ ?_; try clear hK1 K1
  refine seq_k fun K2 hK2 => ?_
  refine region_to T_ok (by decide) ⟨49, [(0, .rp t.cs 0), (32, bV (manyB t))], [], 0⟩ ?_ ?_
  ·by_cases c1 : (4 : Int) < (t.ths.length : Nat)
   ·simp [go_sem, c1, Tst.cs]
    refine Weaker.fz 1 0 ?_ ?_ ?_
    ·simp [go_sem, c1, manyB, Tst.cs]
    ·first | (simp; done) | (simp; omega)
    ·simp [go_sem, c1, manyB, Tst.cs]
   ·by_cases c2 : (8 : Int) < (t.locs.length : Nat)
    ·simp [go_sem, c1, c2, Tst.cs]
     refine Weaker.fz 1 0 ?_ ?_ ?_
     ·simp [go_sem, c1, c2, manyB, Tst.cs]
     ·first | (simp; done) | (simp; omega)
     ·simp [go_sem, c1, c2, manyB, Tst.cs]
    ·by_cases c3 : (40 : Int) < (t.asks.length : Nat)
     ·simp [go_sem, c1, c2, c3, Tst.cs]
      refine Weaker.fz 1 0 ?_ ?_ ?_
      ·simp [go_sem, c1, c2, c3, manyB, Tst.cs]
      ·first | (simp; done) | (simp; omega)
      ·simp [go_sem, c1, c2, c3, manyB, Tst.cs]
     ·simp [go_sem, c1, c2, c3, Tst.cs]
      refine Weaker.fz 1 0 ?_ ?_ ?_
      ·simp [go_sem, c1, c2, c3, manyB, Tst.cs]
      ·first | (simp; done) | (simp; omega)
      ·simp [go_sem, c1, c2, c3, manyB, Tst.cs]
  ·skip
   refine cond_k rfl (fun h => ?_) (fun h => ?_)
   ·have h2 := h
    refine region_k T_ok (by decide) fun K hK => ?_
    simp [go_sem]
    refine hK _ ?_; clear hK K
    refine tr_ret ⟨.inr rfl, ?_⟩
    simp [go_sem, sizeErr, h1, h2]
   ·have h2 := h
    have hm : t.ths.length ≤ 4 := by unfold manyB at h2; simp at h2; omega
    refine tr_skip ?_
    refine hK2 _ ?_; try clear hK2 K2
    refine seq_k fun K3 hK3 => ?_
    refine region_k T_ok (by decide) fun K hK => ?_
    simp [go_sem, Tst.cs]
    refine hK _ ?_; clear hK K
    refine tr_block ?_
    refine loop_p (α := Nat) (fun a => ⟨49, [(0, .rp t.cs 0), (36, .ro 1 (thrs t.ths)), (37, iV (t.ths.length : Nat)), (38, iV (a : Nat))], [], 0⟩) (fun a => a ≤ t.ths.length ∧ ∀ x ∈ t.ths.take a, x.length ≤ 8) (fun a => t.ths.length - a) 0 ?_ ?_ ?_
    ·exact ⟨by omega, by simp⟩
    ·refine Weaker.fz 1 0 ?_ ?_ ?_
     ·simp [go_sem, Tst.cs]
     ·first | (simp; done) | (simp; omega)
     ·simp [go_sem]
    rintro i ⟨hi, hok⟩
    try dsimp only
    refine region_k T_ok (by decide) fun K hK => ?_
    simp [go_sem]
    refine hK _ ?_; clear hK K
    refine seq_k fun K4 hK4 => ?_
    refine cond_k rfl (fun h => ?_) (fun h => ?_)
    ·simp at h
     have hI := h
     clear h
     have h' : i < (t.ths).length := by omega
     obtain ⟨l, hx, hx'⟩ := getAt h'
     have hi0 : (0 : Int) ≤ (i : Nat) := by omega
     have hw : IntKind.i64.wrap ((i : Nat) + 1) = (i : Nat) + 1 := wrap_i64 (by omega) (by omega)
     refine tr_skip ?_
     refine hK4 _ ?_; try clear hK4 K4
     refine seq_k fun K5 hK5 => ?_
     refine tr_block ?_
     refine region_k T_ok (by decide) fun K hK => ?_
     simp [go_sem, hI, hx, hx', hi0, h']
     refine hK _ ?_; clear hK K
     refine region_k T_ok (by decide) fun K hK => ?_
     simp [go_sem]
     refine hK _ ?_; clear hK K
     refine cond_k rfl (fun h => ?_) (fun h => ?_)
     ·simp at h
      have h8 : ¬ l.length ≤ 8 := by omega
      have hnot : ¬ ∀ x ∈ t.ths, x.length ≤ 8 := fun hh => h8 (hh l (List.mem_of_getElem? hx))
      refine region_k T_ok (by decide) fun K hK => ?_
      simp [go_sem]
      refine hK _ ?_; clear hK K
      refine tr_ret ⟨.inr rfl, ?_⟩
      simp only [sizeErr, h1, h2, hnot, if_false, if_true]
      simp [go_sem, h1, h2]
     ·simp at h
      have h8 : l.length ≤ 8 := by omega
      refine tr_skip ?_
      refine hK5 _ ?_; try clear hK5 K5
      refine region_e T_ok (by decide) fun K hK => ?_
      simp [go_sem, hw]
      refine hK _ ?_; clear hK K
      refine ⟨i + 1, ?_, ?_, ?_⟩
      ·refine ⟨by omega, fun y hy => ?_⟩
       rw [takeAt hx] at hy
       rcases List.mem_append.1 hy with hy | hy
       ·exact hok y hy
       ·rw [List.mem_singleton.1 hy]; exact h8
      ·omega
      ·refine Weaker.fz 1 0 ?_ ?_ ?_
       ·simp [go_sem]
       ·first | (simp; done) | (simp; omega)
       simp [go_sem]
    ·simp at h
     obtain rfl : i = t.ths.length := by omega
     rw [List.take_length] at hok
     have hev := events_len t.ths hok
     have hev2 : events t.ths ≤ 64 := Nat.le_trans hev (by omega)
     refine tr_exit ?_
     refine hK3 _ ?_; try clear hK3 K3
     refine seq_k fun K6 hK6 => ?_
     refine region_k T_ok (by decide) fun K hK => ?_
     simp [go_sem]
     refine call_pf (events_pf t (by omega) (fun x hx => by have := hok x hx; omega) (by omega)) ?_
     simp [go_sem]
     refine hK _ ?_; clear hK K
     refine cond_k rfl (fun h => ?_) (fun h => ?_)
     ·simp at h
      have h3 : 8 < events t.ths := by omega
      refine region_k T_ok (by decide) fun K hK => ?_
      simp [go_sem]
      refine hK _ ?_; clear hK K
      refine tr_ret ⟨.inr rfl, ?_⟩
      simp [go_sem, sizeErr, h1, h2, h3]
      try exact fun hh => absurd hok hh
     ·simp at h
      have h3 : ¬ 8 < events t.ths := by omega
      refine tr_skip ?_
      refine hK6 _ ?_; try clear hK6 K6
      refine region_k T_ok (by decide) fun K hK => ?_
      simp [go_sem]
      refine hK _ ?_; clear hK K
      refine tr_ret ⟨.inr rfl, ?_⟩
      simp [go_sem, sizeErr, h1, h2, h3]
      try exact hok
open Go Go.Sl Go.Proofs.Try
set_option maxRecDepth 100000 in
set_option maxHeartbeats 16000000 in
theorem Check_pf (t : Tst) (hn : ∀ l ∈ t.locs, l.name.size ≤ 1000000) : Pf Try.prog 49 [.rp t.cs 0] (iV (chkErr t)) := by
 refine Pf.of_fn (.cons (nl_rp t) .nil) (.val _) ?_
 refine fn_in T_ok func49 rfl rfl ntmps49 rfl (by simp) ?_
 refine region_k T_ok (by decide) fun K hK => ?_
 simp [go_sem]
 refine hK _ ?_; clear hK K
 refine seq_k fun K1 hK1 => ?_
 refine region_k T_ok (by decide) fun K hK => ?_
 simp [go_sem]
 refine call_pf (sizes_pf t) ?_
 simp [go_sem]
 refine hK _ ?_; clear hK K
 refine region_k T_ok (by decide) fun K hK => ?_
 simp [go_sem]
 refine hK _ ?_; clear hK K
 refine cond_k rfl (fun h => ?_) (fun h => ?_)
 ·simp at h
  have hs := h
  refine region_k T_ok (by decide) fun K hK => ?_
  simp [go_sem]
  refine hK _ ?_; clear hK K
  refine tr_ret ⟨.inr rfl, ?_⟩
  simp [go_sem, chkErr, hs]
 ·simp at h
  have hz := h
  obtain ⟨_, b1, b2, b3, b4, _⟩ := sizeErr_zero hz
  refine tr_skip ?_
  refine hK1 _ ?_; try clear hK1 K1
  refine seq_k fun K2 hK2 => ?_
  refine region_k T_ok (by decide) fun K hK => ?_
  simp [go_sem, Tst.cs]
  refine hK _ ?_; clear hK K
  refine tr_block ?_
  refine loop_p (α := Nat × Nat) (fun a => ⟨111, [(0, .rp t.cs 0), (22, .ro 2 (inis t.locs)), (23, iV (t.locs.length : Nat)), (24, iV (a.1 : Nat))], [], a.2⟩) (fun a => a.1 ≤ t.locs.length ∧ fe (locErr t) 0 t.locs = fe (locErr t) a.1 (t.locs.drop a.1)) (fun a => t.locs.length - a.1) (0, 0) ?_ ?_ ?_
  ·exact ⟨by dsimp only; omega, rfl⟩
  ·refine Weaker.fz 1 0 ?_ ?_ ?_
   ·simp [go_sem, Tst.cs]
   ·first | (simp; done) | (simp; omega)
   ·simp [go_sem]
  rintro ⟨i, j⟩ ⟨hi, hf⟩
  dsimp only at hi hf ⊢
  refine region_k T_ok (by decide) fun K hK => ?_
  simp [go_sem]
  refine hK _ ?_; clear hK K
  refine seq_k fun K3 hK3 => ?_
  refine cond_k rfl (fun h => ?_) (fun h => ?_)
  ·simp at h
   have hI := h
   clear h
   have h' : i < (t.locs).length := by omega
   obtain ⟨l, hx, hx'⟩ := getAt h'
   have hi0 : (0 : Int) ≤ (i : Nat) := by omega
   have hw : IntKind.i64.wrap ((i : Nat) + 1) = (i : Nat) + 1 := wrap_i64 (by omega) (by omega)
   have hnm := hn l (List.mem_of_getElem? hx)
   refine tr_skip ?_
   refine hK3 _ ?_; try clear hK3 K3
   refine seq_k fun K4 hK4 => ?_
   refine tr_block ?_
   refine region_k T_ok (by decide) fun K hK => ?_
   simp [go_sem, hI, hx, hx', hi0, h', iniC, Ini.cs]
   refine hK _ ?_; clear hK K
   refine seq_k fun K5 hK5 => ?_
   refine region_k T_ok (by decide) fun K hK => ?_
   simp [go_sem, iniC, Ini.cs]
   refine call_pf (name_pf _ (by omega)) ?_
   simp [go_sem]
   refine hK _ ?_; clear hK K
   refine cond_k rfl (fun h => ?_) (fun h => ?_)
   ·simp at h
    have hg : locErr t i l = 11 := by simp [locErr, h]
    have hl : fe (locErr t) 0 t.locs = 11 := by rw [hf, fe_bad hx (by rw [hg]; decide), hg]
    refine region_k T_ok (by decide) fun K hK => ?_
    simp [go_sem]
    refine hK _ ?_; clear hK K
    refine tr_ret ⟨.inr rfl, ?_⟩
    simp [go_sem, chkErr, hz, hl]
   ·simp at h
    have hnk := h
    refine tr_skip ?_
    refine hK5 _ ?_; try clear hK5 K5
    refine draw_to T_ok (by kernel_rfl) 14 [[], [0], [0, 1], [0, 1, 2], [0, 1, 2, 3], [0, 1, 2], [0, 1, 2, 5], [0, 1, 2, 5, 6], [0, 1, 2, 5, 6, 7], [0, 1, 2], [0, 1, 2, 9], [0, 1, 2, 5, 6, 7, 8, 9, 10], [0, 1, 2, 5, 6, 7, 8, 9, 10, 11], [0, 1, 2, 5, 6, 7, 8, 9, 10, 11, 12], [0, 1, 2, 3, 4, 5, 6, 7, 8, 9, 10, 11, 12, 13], [0, 1, 2, 3, 4, 5, 6, 7, 8, 9, 10, 11, 12, 13, 14]] [] (by decide) (by decide) (by decide) ⟨111, [(0, .rp t.cs 0), (22, .ro 2 (inis t.locs)), (23, iV (t.locs.length : Nat)), (24, iV (i : Nat)), (48, bV (prevLe t i l))], [], j + 15⟩ ?_ ?_
    ·first | dsimp only [List.take, List.drop] | dsimp [List.take, List.drop]
     by_cases c1 : 0 < i
     ·obtain ⟨p, hp, hp'⟩ := getAt (show i - 1 < t.locs.length by omega)
      have hw1 : IntKind.i64.wrap ((i : Int) - 1) = ((i - 1 : Nat) : Int) := by rw [wrap_i64 (by omega) (by omega)]; omega
      have hb1 : ((i - 1 : Nat) : Int) < (t.locs.length : Nat) := by omega
      have hb0 : (0 : Int) ≤ ((i - 1 : Nat) : Int) := by omega
      have hb2 : i - 1 < t.locs.length := by omega
      have cI : (0 : Int) < (i : Nat) := by omega
      simp [go_sem, c1, Tst.cs, iniC, Ini.cs, hp, hp', hw1, hb1, hb0, hb2, cI]
      refine Weaker.fz 1 0 ?_ ?_ ?_
      ·simp [go_sem, c1, prevLe, strLe, Tst.cs, hp, hp', hw1, hb1, hb0, hb2, cI]
      ·first | (simp; done) | (simp; omega)
      ·simp [go_sem, c1, prevLe, strLe, Tst.cs, hp, hp', hw1, hb1, hb0, hb2, cI]
     ·have cI : ¬ (0 : Int) < (i : Nat) := by omega
      simp [go_sem, c1, Tst.cs, iniC, Ini.cs, cI]
      refine Weaker.fz 1 0 ?_ ?_ ?_
      ·simp [go_sem, c1, prevLe, strLe, Tst.cs, cI]
      ·first | (simp; done) | (simp; omega)
      ·simp [go_sem, c1, prevLe, strLe, Tst.cs, cI]
    ·skip
     refine cond_k rfl (fun h => ?_) (fun h => ?_)
     ·have hg : locErr t i l = 16 := by simp [locErr, hnk, h]
      have hl : fe (locErr t) 0 t.locs = 16 := by rw [hf, fe_bad hx (by rw [hg]; decide), hg]
      refine region_k T_ok (by decide) fun K hK => ?_
      simp [go_sem]
      refine hK _ ?_; clear hK K
      refine tr_ret ⟨.inr rfl, ?_⟩
      simp [go_sem, chkErr, hz, hl]
     ·have hg : locErr t i l = 0 := by simp [locErr, hnk, h]
      refine tr_skip ?_
      refine hK4 _ ?_; try clear hK4 K4
      refine region_e T_ok (by decide) fun K hK => ?_
      simp [go_sem, hw]
      refine hK _ ?_; clear hK K
      refine ⟨(i + 1, j + 15), ?_, ?_, ?_⟩
      ·exact ⟨by dsimp only; omega, by dsimp only; rw [hf, fe_good hx hg]⟩
      ·dsimp only; omega
      ·refine Weaker.fz 1 0 ?_ ?_ ?_
       ·simp [go_sem]
       ·first | (simp; done) | (simp; omega)
       simp [go_sem]
  ·simp at h
   obtain rfl : i = t.locs.length := by omega
   rw [fe_end] at hf
   have hl := hf
   clear hf
   refine tr_exit ?_
   refine hK2 _ ?_; try clear hK2 K2
   refine seq_k fun K6 hK6 => ?_
   refine region_k T_ok (by decide) fun K hK => ?_
   simp [go_sem, Tst.cs]
   refine hK _ ?_; clear hK K
   refine tr_block ?_
   refine loop_p (α := Nat × Nat) (fun a => ⟨111, [(0, .rp t.cs 0), (53, .ro 1 (thrs t.ths)), (54, iV (t.ths.length : Nat)), (55, iV (a.1 : Nat))], [], a.2⟩) (fun a => a.1 ≤ t.ths.length ∧ fe (thrErr t) 0 t.ths = fe (thrErr t) a.1 (t.ths.drop a.1)) (fun a => t.ths.length - a.1) (0, j) ?_ ?_ ?_
   ·exact ⟨by dsimp only; omega, rfl⟩
   ·refine Weaker.fz 1 0 ?_ ?_ ?_
    ·simp [go_sem, Tst.cs]
    ·first | (simp; done) | (simp; omega)
    ·simp [go_sem]
   rintro ⟨i, j⟩ ⟨hi, hf⟩
   dsimp only at hi hf ⊢
   refine region_k T_ok (by decide) fun K hK => ?_
   simp [go_sem]
   refine hK _ ?_; clear hK K
   refine seq_k fun K7 hK7 => ?_
   refine cond_k rfl (fun h => ?_) (fun h => ?_)
   ·simp at h
    have hI := h
    clear h
    have h' : i < (t.ths).length := by omega
    obtain ⟨l, hx, hx'⟩ := getAt h'
    have hi0 : (0 : Int) ≤ (i : Nat) := by omega
    have hw : IntKind.i64.wrap ((i : Nat) + 1) = (i : Nat) + 1 := wrap_i64 (by omega) (by omega)
    have hll := b4 l (List.mem_of_getElem? hx)
    refine tr_skip ?_
    refine hK7 _ ?_; try clear hK7 K7
    refine seq_k fun K8 hK8 => ?_
    refine tr_block ?_
    refine region_k T_ok (by decide) fun K hK => ?_
    simp [go_sem, hI, hx, hx', hi0, h']
    refine hK _ ?_; clear hK K
    refine region_k T_ok (by decide) fun K hK => ?_
    simp [go_sem]
    refine hK _ ?_; clear hK K
    refine tr_block ?_
    refine loop_p (α := Nat × Nat) (fun b => ⟨111, [(0, .rp t.cs 0), (7, .ro 13 (inss l)), (53, .ro 1 (thrs t.ths)), (54, iV (t.ths.length : Nat)), (55, iV (i : Nat)), (59, .ro 13 (inss l)), (60, iV (l.length : Nat)), (61, iV (b.1 : Nat))], [], b.2⟩) (fun b => b.1 ≤ l.length ∧ fe (fun i x => insErr t.locs.length ((l.length : Int) - i - 1) x) 0 l = fe (fun i x => insErr t.locs.length ((l.length : Int) - i - 1) x) b.1 (l.drop b.1)) (fun b => l.length - b.1) (0, j) ?_ ?_ ?_
    ·exact ⟨by dsimp only; omega, rfl⟩
    ·refine Weaker.fz 1 0 ?_ ?_ ?_
     ·simp [go_sem]
     ·first | (simp; done) | (simp; omega)
     ·simp [go_sem]
    rintro ⟨b, c⟩ ⟨hib, hfb⟩
    dsimp only at hib hfb ⊢
    refine region_k T_ok (by decide) fun K hK => ?_
    simp [go_sem]
    refine hK _ ?_; clear hK K
    refine seq_k fun K9 hK9 => ?_
    refine cond_k rfl (fun h => ?_) (fun h => ?_)
    ·simp at h
     have hIb := h
     clear h
     have h'b : b < (l).length := by omega
     obtain ⟨x, hxb, hx'b⟩ := getAt h'b
     have hi0b : (0 : Int) ≤ (b : Nat) := by omega
     have hwb : IntKind.i64.wrap ((b : Nat) + 1) = (b : Nat) + 1 := wrap_i64 (by omega) (by omega)
     have hwl1 : IntKind.i64.wrap ((l.length : Int) - (b : Int)) = (l.length : Int) - b := wrap_i64 (by omega) (by omega)
     have hwl2 : IntKind.i64.wrap ((l.length : Int) - (b : Int) - 1) = (l.length : Int) - b - 1 := wrap_i64 (by omega) (by omega)
     refine tr_skip ?_
     refine hK9 _ ?_; try clear hK9 K9
     refine seq_k fun K10 hK10 => ?_
     refine tr_block ?_
     refine region_k T_ok (by decide) fun K hK => ?_
     simp [go_sem, hIb, hxb, hx'b, hi0b, h'b, insC]
     refine hK _ ?_; clear hK K
     refine region_k T_ok (by decide) fun K hK => ?_
     simp [go_sem, hwl1, hwl2]
     refine call_pf (check_pf t x _) ?_
     simp [go_sem]
     refine hK _ ?_; clear hK K
     refine region_k T_ok (by decide) fun K hK => ?_
     simp [go_sem]
     refine hK _ ?_; clear hK K
     refine cond_k rfl (fun h => ?_) (fun h => ?_)
     ·simp at h
      have hgx : fe (fun i x => insErr t.locs.length ((l.length : Int) - i - 1) x) 0 l = insErr t.locs.length ((l.length : Int) - b - 1) x := by rw [hfb, fe_bad hxb h]
      have hg : thrErr t i l = insErr t.locs.length ((l.length : Int) - b - 1) x := hgx
      have ht : fe (thrErr t) 0 t.ths = insErr t.locs.length ((l.length : Int) - b - 1) x := by rw [hf, fe_bad hx (by rw [hg]; exact h), hg]
      refine region_k T_ok (by decide) fun K hK => ?_
      simp [go_sem]
      refine hK _ ?_; clear hK K
      refine tr_ret ⟨.inr rfl, ?_⟩
      simp [go_sem, chkErr, hz, hl, ht, h]
     ·simp at h
      have hgb := h
      refine tr_skip ?_
      refine hK10 _ ?_; try clear hK10 K10
      refine region_e T_ok (by decide) fun K hK => ?_
      simp [go_sem, hwb]
      refine hK _ ?_; clear hK K
      refine ⟨(b + 1, c + 1), ?_, ?_, ?_⟩
      ·exact ⟨by dsimp only; omega, by dsimp only; rw [hfb, fe_good hxb hgb]⟩
      ·dsimp only; omega
      ·refine Weaker.fz 1 0 ?_ ?_ ?_
       ·simp [go_sem]
       ·first | (simp; done) | (simp; omega)
       simp [go_sem]
    ·simp at h
     obtain rfl : b = l.length := by omega
     rw [fe_end] at hfb
     have hg : thrErr t i l = 0 := hfb
     refine tr_exit ?_
     refine hK8 _ ?_; try clear hK8 K8
     refine region_e T_ok (by decide) fun K hK => ?_
     simp [go_sem, hw]
     refine hK _ ?_; clear hK K
     refine ⟨(i + 1, c), ?_, ?_, ?_⟩
     ·exact ⟨by dsimp only; omega, by dsimp only; rw [hf, fe_good hx hg]⟩
     ·dsimp only; omega
     ·refine Weaker.fz 1 0 ?_ ?_ ?_
      ·simp [go_sem]
      ·first | (simp; done) | (simp; omega)
      simp [go_sem]
   ·simp at h
    obtain rfl : i = t.ths.length := by omega
    rw [fe_end] at hf
    have ht := hf
    clear hf
    refine tr_exit ?_
    refine hK6 _ ?_; try clear hK6 K6
    refine seq_k fun K11 hK11 => ?_
    refine region_k T_ok (by decide) fun K hK => ?_
    simp [go_sem, Tst.cs]
    refine hK _ ?_; clear hK K
    refine tr_block ?_
    refine loop_p (α := Nat × Nat) (fun a => ⟨111, [(0, .rp t.cs 0), (82, .ro 3 (atms t.asks)), (83, iV (t.asks.length : Nat)), (84, iV (a.1 : Nat))], [], a.2⟩) (fun a => a.1 ≤ t.asks.length ∧ fe (askErr2 t) 0 t.asks = fe (askErr2 t) a.1 (t.asks.drop a.1)) (fun a => t.asks.length - a.1) (0, j) ?_ ?_ ?_
    ·exact ⟨by dsimp only; omega, rfl⟩
    ·refine Weaker.fz 1 0 ?_ ?_ ?_
     ·simp [go_sem, Tst.cs]
     ·first | (simp; done) | (simp; omega)
     ·simp [go_sem]
    rintro ⟨i, j⟩ ⟨hi, hf⟩
    dsimp only at hi hf ⊢
    refine region_k T_ok (by decide) fun K hK => ?_
    simp [go_sem]
    refine hK _ ?_; clear hK K
    refine seq_k fun K12 hK12 => ?_
    refine cond_k rfl (fun h => ?_) (fun h => ?_)
    ·simp at h
     have hI := h
     clear h
     have h' : i < (t.asks).length := by omega
     obtain ⟨a, hx, hx'⟩ := getAt h'
     have hi0 : (0 : Int) ≤ (i : Nat) := by omega
     have hw : IntKind.i64.wrap ((i : Nat) + 1) = (i : Nat) + 1 := wrap_i64 (by omega) (by omega)
     refine tr_skip ?_
     refine hK12 _ ?_; try clear hK12 K12
     refine seq_k fun K13 hK13 => ?_
     refine tr_block ?_
     refine region_k T_ok (by decide) fun K hK => ?_
     simp [go_sem, hI, hx, hx', hi0, h', atmC, Atm.cs]
     refine hK _ ?_; clear hK K
     refine seq_k fun K14 hK14 => ?_
     refine region_k T_ok (by decide) fun K hK => ?_
     simp [go_sem, atmC, Atm.cs]
     refine call_pf (checkAsk_pf t a) ?_
     simp [go_sem]
     refine hK _ ?_; clear hK K
     refine region_k T_ok (by decide) fun K hK => ?_
     simp [go_sem]
     refine hK _ ?_; clear hK K
     refine cond_k rfl (fun h => ?_) (fun h => ?_)
     ·simp at h
      have hg : askErr2 t i a = askErr t a := by simp [askErr2, h]
      have ha : fe (askErr2 t) 0 t.asks = askErr t a := by rw [hf, fe_bad hx (by rw [hg]; exact h), hg]
      refine region_k T_ok (by decide) fun K hK => ?_
      simp [go_sem]
      refine hK _ ?_; clear hK K
      refine tr_ret ⟨.inr rfl, ?_⟩
      simp [go_sem, chkErr, hz, hl, ht, ha, h]
     ·simp at h
      have hak := h
      refine tr_skip ?_
      refine hK14 _ ?_; try clear hK14 K14
      refine draw_to T_ok (by kernel_rfl) 12 [[], [0], [0, 1], [0, 1, 2], [0, 1, 2, 3], [0, 1, 2, 3, 4], [0, 1, 2, 3, 4, 5], [0, 1, 2], [0, 1, 2, 7], [0, 1, 2, 3, 4, 5, 6, 7, 8], [0, 1, 2, 3, 4, 5, 6, 7, 8, 9], [0, 1, 2], [0, 1, 2, 3, 4, 5, 6, 7, 8, 9, 10, 11], [0, 1, 2, 3, 4, 5, 6, 7, 8, 9, 10, 11, 12], [0, 1, 2, 3, 4, 5, 6, 7, 8, 9, 10, 11, 12, 13]] [] (by decide) (by decide) (by decide) ⟨111, [(0, .rp t.cs 0), (82, .ro 3 (atms t.asks)), (83, iV (t.asks.length : Nat)), (84, iV (i : Nat)), (109, bV (prevAsk t i a))], [], j + 13⟩ ?_ ?_
      ·first | dsimp only [List.take, List.drop] | dsimp [List.take, List.drop]
       by_cases c1 : 0 < i
       ·obtain ⟨p, hp, hp'⟩ := getAt (show i - 1 < t.asks.length by omega)
        have hw1 : IntKind.i64.wrap ((i : Int) - 1) = ((i - 1 : Nat) : Int) := by rw [wrap_i64 (by omega) (by omega)]; omega
        have hb1 : ((i - 1 : Nat) : Int) < (t.asks.length : Nat) := by omega
        have hb0 : (0 : Int) ≤ ((i - 1 : Nat) : Int) := by omega
        have hb2 : i - 1 < t.asks.length := by omega
        have cI : (0 : Int) < (i : Nat) := by omega
        simp [go_sem, c1, Tst.cs, atmC, Atm.cs, hp, hp', hw1, hb1, hb0, hb2, cI]
        refine call_pf (before_pf p a) ?_
        simp [go_sem, c1, Tst.cs, atmC, Atm.cs, hp, hp', hw1, hb1, hb0, hb2, cI]
        refine Weaker.fz 1 0 ?_ ?_ ?_
        ·simp [go_sem, c1, prevAsk, Tst.cs, hp, hp', hw1, hb1, hb0, hb2, cI]
        ·first | (simp; done) | (simp; omega)
        ·simp [go_sem, c1, prevAsk, Tst.cs, hp, hp', hw1, hb1, hb0, hb2, cI]
       ·have cI : ¬ (0 : Int) < (i : Nat) := by omega
        simp [go_sem, c1, Tst.cs, atmC, Atm.cs, cI]
        refine Weaker.fz 1 0 ?_ ?_ ?_
        ·simp [go_sem, c1, prevAsk, Tst.cs, cI]
        ·first | (simp; done) | (simp; omega)
        ·simp [go_sem, c1, prevAsk, Tst.cs, cI]
      ·skip
       refine cond_k rfl (fun h => ?_) (fun h => ?_)
       ·have hg : askErr2 t i a = 16 := by simp [askErr2, hak, h]
        have ha : fe (askErr2 t) 0 t.asks = 16 := by rw [hf, fe_bad hx (by rw [hg]; decide), hg]
        refine region_k T_ok (by decide) fun K hK => ?_
        simp [go_sem]
        refine hK _ ?_; clear hK K
        refine tr_ret ⟨.inr rfl, ?_⟩
        simp [go_sem, chkErr, hz, hl, ht, ha]
       ·have hg : askErr2 t i a = 0 := by simp [askErr2, hak, h]
        refine tr_skip ?_
        refine hK13 _ ?_; try clear hK13 K13
        refine region_e T_ok (by decide) fun K hK => ?_
        simp [go_sem, hw]
        refine hK _ ?_; clear hK K
        refine ⟨(i + 1, j + 13), ?_, ?_, ?_⟩
        ·exact ⟨by dsimp only; omega, by dsimp only; rw [hf, fe_good hx hg]⟩
        ·dsimp only; omega
        ·refine Weaker.fz 1 0 ?_ ?_ ?_
         ·simp [go_sem]
         ·first | (simp; done) | (simp; omega)
         simp [go_sem]
    ·simp at h
     obtain rfl : i = t.asks.length := by omega
     rw [fe_end] at hf
     have ha := hf
     clear hf
     refine tr_exit ?_
     refine hK11 _ ?_; try clear hK11 K11
     refine region_k T_ok (by decide) fun K hK => ?_
     simp [go_sem]
     refine hK _ ?_; clear hK K
     refine tr_ret ⟨.inr rfl, ?_⟩
     simp [go_sem, chkErr, hz, hl, ht, ha]
open Go Go.Sl Go.Proofs.Try
set_option maxRecDepth 100000 in
set_option maxHeartbeats 8000000 in
theorem small_pf (t : Tst) (hn : ∀ l ∈ t.locs, l.name.size ≤ 1000000) (n : Int) : Pf Try.prog 64 [.agg t.cs, iV n] (iV (smallT t n)) := by
 refine Pf.of_fn (.cons (.agg (nl_tst t)) (.cons (.val _) .nil)) (.val _) ?_
 refine fn_in T_ok func64 rfl rfl ntmps64 rfl (by simp) ?_
 refine region_k T_ok (by decide) fun K hK => ?_
 simp [go_sem, Tst.cs]
 refine hK _ ?_; clear hK K
 refine seq_k fun K1 hK1 => ?_
 refine Tr.weaken (Weaker.fz (H' := []) (t' := [(1, iV n), (2, .rp t.cs 0)]) 1 0 ?_ ?_ ?_) ?_
 ·simp [go_sem, Tst.cs]
 ·simp
 ·simp
 refine region_k T_ok (by decide) fun K hK => ?_
 simp [go_sem]
 refine call_pf awake14 ?_
 simp [go_sem]
 refine call_pf (Check_pf t hn) ?_
 by_cases hc : chkErr t = 0
 ·have hcb : (chkErr t == 0) = true := by simpa using hc
  simp [go_sem, hc]
  refine hK _ ?_; clear hK K
  refine cond_k rfl (fun h => ?_) (fun h => ?_)
  ·simp at h
  ·clear h
   have hs := sizeErr_zero (chkErr_zero.1 hc).1
   have hu := memUp_le hs.2.2.2.2.1
   refine tr_skip ?_
   refine hK1 _ ?_; try clear hK1 K1
   refine region_k T_ok (by decide) fun K hK => ?_
   simp [go_sem]
   refine hK _ ?_; clear hK K
   refine seq_k fun K2 hK2 => ?_
   refine region_k T_ok (by decide) fun K hK => ?_
   simp [go_sem, Tst.cs]
   refine hK _ ?_; clear hK K
   refine tr_block ?_
   refine loop_p (α := Nat × Nat) (fun a => ⟨38, [(1, iV n), (2, .rp t.cs 0), (17, .ro 1 (thrs t.ths)), (18, iV (t.ths.length : Nat)), (19, iV (a.1 : Nat)), (5, iV (memUp t.ths a.1 : Nat))], [], a.2⟩) (fun a => a.1 ≤ t.ths.length) (fun a => t.ths.length - a.1) (0, 1) ?_ ?_ ?_
   ·exact Nat.zero_le _
   ·refine Weaker.fz 1 0 ?_ ?_ ?_
    ·simp [go_sem, memUp, Tst.cs]
    ·first | (simp; done) | (simp; omega)
    ·simp [go_sem, Tst.cs]
   rintro ⟨i, jn⟩ hi
   dsimp only at hi ⊢
   refine region_k T_ok (by decide) fun K hK => ?_
   simp [go_sem]
   refine hK _ ?_; clear hK K
   refine seq_k fun K3 hK3 => ?_
   refine cond_k rfl (fun h => ?_) (fun h => ?_)
   ·simp at h
    have hin : i < t.ths.length := by omega
    clear h
    have hinI : (i : Int) < (t.ths.length : Nat) := by omega
    obtain ⟨l, hx, hx'⟩ := getAt hin
    have hi0 : (0 : Int) ≤ (i : Nat) := by omega
    have hl8 := hs.2.2.2.2.1 l (List.mem_of_getElem? hx)
    have hui := hu i hi
    have ht4 := hs.2.1
    have hgl : t.ths.getD i [] = l := by rw [List.getD, hx]; rfl
    have hw : IntKind.i64.wrap ((i : Nat) + 1) = (i : Nat) + 1 := wrap_i64 (by omega) (by omega)
    refine tr_skip ?_
    refine hK3 _ ?_; try clear hK3 K3
    refine seq_k fun K4 hK4 => ?_
    refine tr_block ?_
    refine region_k T_ok (by decide) fun K hK => ?_
    simp [go_sem, hin, hinI, hx, hx', hi0]
    refine hK _ ?_; clear hK K
    refine region_k T_ok (by decide) fun K hK => ?_
    simp [go_sem]
    refine hK _ ?_; clear hK K
    refine tr_block ?_
    refine loop_p (α := Nat × Nat) (fun b => ⟨38, [(1, iV n), (2, .rp t.cs 0), (17, .ro 1 (thrs t.ths)), (18, iV (t.ths.length : Nat)), (19, iV (i : Nat)), (23, .ro 13 (inss l)), (24, iV (l.length : Nat)), (25, iV (b.1 : Nat)), (5, iV ((memUp t.ths i + memC l b.1 : Nat)))], [], b.2⟩) (fun b => b.1 ≤ l.length) (fun b => l.length - b.1) (0, jn) ?_ ?_ ?_
    ·exact Nat.zero_le _
    ·refine Weaker.fz 1 0 ?_ ?_ ?_
     ·simp [go_sem, memC]
     ·first | (simp; done) | (simp; omega)
     ·simp [go_sem, memC]
    rintro ⟨b, j⟩ hib
    dsimp only at hib ⊢
    refine region_k T_ok (by decide) fun K hK => ?_
    simp [go_sem]
    refine hK _ ?_; clear hK K
    refine seq_k fun K5 hK5 => ?_
    refine cond_k rfl (fun h => ?_) (fun h => ?_)
    ·simp at h
     have hbn : b < l.length := by omega
     clear h
     have hbI : (b : Int) < (l.length : Nat) := by omega
     obtain ⟨x, hg, hg'⟩ := getAt hbn
     have hb0 : (0 : Int) ≤ (b : Nat) := by omega
     have hcl := memC_le l b
     have hw2 : IntKind.i64.wrap ((b : Nat) + 1) = (b : Nat) + 1 := wrap_i64 (by omega) (by omega)
     have hw3 : IntKind.i64.wrap ((memUp t.ths i : Int) + (memC l b : Int) + 1) = (memUp t.ths i : Int) + ((memC l b : Int) + 1) := by rw [wrap_i64 (by have := ht4; omega) (by have := ht4; omega)]; omega
     refine tr_skip ?_
     refine hK5 _ ?_; try clear hK5 K5
     refine seq_k fun K6 hK6 => ?_
     refine tr_block ?_
     refine region_k T_ok (by decide) fun K hK => ?_
     simp [go_sem, hbn, hbI, hg, hg', hb0, insC]
     refine hK _ ?_; clear hK K
     refine region_k T_ok (by decide) fun K hK => ?_
     simp [go_sem, insC]
     refine call_pf (ismem_pf x) ?_
     simp [go_sem]
     refine hK _ ?_; clear hK K
     refine cond_k rfl (fun h => ?_) (fun h => ?_)
     ·have hm : memB x.op = true := h
      have hst : memC l (b + 1) = memC l b + 1 := by rw [memC_step hg, hm]; rfl
      refine region_e T_ok (by decide) fun K hK => ?_
      simp [go_sem, hw3]
      refine hK _ ?_; clear hK K
      refine hK6 _ ?_; try clear hK6 K6
      refine region_e T_ok (by decide) fun K hK => ?_
      simp [go_sem, hw2]
      refine hK _ ?_; clear hK K
      refine ⟨(b + 1, j + 1), ?_, ?_, ?_⟩
      ·dsimp only; omega
      ·dsimp only; omega
      ·refine Weaker.fz 1 0 ?_ ?_ ?_
       ·simp [go_sem, hst]
       ·first | (simp; done) | (simp; omega)
       simp [go_sem, memC]
     ·have hm : memB x.op = false := h
      have hst : memC l (b + 1) = memC l b := by rw [memC_step hg, hm]; rfl
      refine tr_skip ?_
      refine hK6 _ ?_; try clear hK6 K6
      refine region_e T_ok (by decide) fun K hK => ?_
      simp [go_sem, hw2]
      refine hK _ ?_; clear hK K
      refine ⟨(b + 1, j + 1), ?_, ?_, ?_⟩
      ·dsimp only; omega
      ·dsimp only; omega
      ·refine Weaker.fz 1 0 ?_ ?_ ?_
       ·simp [go_sem, hst]
       ·first | (simp; done) | (simp; omega)
       simp [go_sem, memC]
    ·simp at h
     obtain rfl : b = l.length := by omega
     clear h
     refine tr_exit ?_
     refine hK4 _ ?_; try clear hK4 K4
     refine region_e T_ok (by decide) fun K hK => ?_
     simp [go_sem, hw]
     refine hK _ ?_; clear hK K
     refine ⟨(i + 1, j), ?_, ?_, ?_⟩
     ·dsimp only; omega
     ·dsimp only; omega
     ·refine Weaker.fz 1 0 ?_ ?_ ?_
      ·simp [go_sem, memUp, hx]
      ·first | (simp; done) | (simp; omega)
      simp [go_sem, memUp]
   ·simp at h
    obtain rfl : i = t.ths.length := by omega
    clear h
    refine tr_exit ?_
    refine hK2 _ ?_; try clear hK2 K2
    refine seq_k fun K7 hK7 => ?_
    refine region_k T_ok (by decide) fun K hK => ?_
    simp [go_sem]
    refine hK _ ?_; clear hK K
    refine cond_k rfl (fun h => ?_) (fun h => ?_)
    ·have hgt : n < (memTot t : Int) := by simpa [memTot] using h
     refine region_k T_ok (by decide) fun K hK => ?_
     simp [go_sem]
     refine hK _ ?_; clear hK K
     refine tr_ret ⟨.inr rfl, ?_⟩
     simp [go_sem, smallT, hc, hgt]
    ·have hgt : ¬ n < (memTot t : Int) := by simpa [memTot] using h
     refine tr_skip ?_
     refine hK7 _ ?_; try clear hK7 K7
     refine region_k T_ok (by decide) fun K hK => ?_
     simp [go_sem]
     refine hK _ ?_; clear hK K
     refine tr_ret ⟨.inr rfl, ?_⟩
     simp [go_sem, smallT, hc, hgt]
 ·simp [go_sem, hc]
  refine hK _ ?_; clear hK K
  refine cond_k rfl (fun h => ?_) (fun h => ?_)
  ·clear h
   refine region_k T_ok (by decide) fun K hK => ?_
   simp [go_sem]
   refine hK _ ?_; clear hK K
   refine tr_ret ⟨.inr rfl, ?_⟩
   simp [go_sem, smallT, hc]
  ·simp [hc] at h
open Go Go.Sl Go.Proofs.Try
set_option maxRecDepth 100000 in
set_option maxHeartbeats 16000000 in
theorem few_pf (t : Tst) (hs : ∀ l ∈ t.locs, l.name.size ≤ 9223372036854775807) : Pf Try.prog 47 [.agg t.cs] (.agg (few t).cs) := by
 refine Pf.of_fz 2 (.cons (.agg (nl_tst t)) .nil) (.agg (nl_tst _)) ?_
 refine fn_in T_ok func47 rfl rfl ntmps47 rfl (by simp) ?_
 refine region_k T_ok (by decide) fun K hK => ?_
 simp [go_sem, Tst.cs]
 refine hK _ ?_; clear hK K
 refine region_k T_ok (by decide) fun K hK => ?_
 simp [go_sem]
 refine hK _ ?_; clear hK K
 refine seq_to ⟨78, [(1, .ptr 0 0 0), (2, .ptr 1 0 0), (3, .ptr 2 0 0)], [(0, .rows 3 [.agg [.ro 2 (inis t.locs), .ro 1 (thrs t.ths), .ro 3 (atms t.asks)]]), (1, .rows 3 [.agg [.val (.slice none 0 0), .val (.slice none 0 0), .val (.slice none 0 0)]]), (2, .rows 3 [.agg [.ro 2 (inis (locP t.locs 12)), .sl 4 0 0, .sl 3 0 0]]), (4, .rows 1 []), (3, .rows 3 [])], 300⟩ ?_ ?_
 ·skip
  refine region_k T_ok (by decide) fun K hK => ?_
  simp [go_sem]
  refine hK _ ?_; clear hK K
  refine tr_block ?_
  refine Tr.weaken (Weaker.ghostH (sz := 3) (es := [.agg [.val (.slice none 0 0), .val (.slice none 0 0), .val (.slice none 0 0)]]) 2 3 [.agg [.val (.slice none 0 0), .val (.slice none 0 0), .sl 3 0 0]] (by simp [Sl.look]) (by simp) (by simp) (by simp [V.fits, V.cells, V.one]) (by simp only [List.flatMap_cons, List.flatMap_nil, V.cells, List.append_nil]; exact .same (.same (.to .nil)))) ?_
  simp only [Sl.put, if_true, if_false, Nat.reduceEqDiff, reduceIte]
  refine Tr.weaken (Weaker.ghostH (sz := 3) (es := [.agg [.val (.slice none 0 0), .val (.slice none 0 0), .sl 3 0 0]]) 2 1 [.agg [.val (.slice none 0 0), .sl 4 0 0, .sl 3 0 0]] (by simp [Sl.look]) (by simp) (by simp) (by simp [V.fits, V.cells, V.one]) (by simp only [List.flatMap_cons, List.flatMap_nil, V.cells, List.append_nil]; exact .same (.to (.same .nil)))) ?_
  simp only [Sl.put, if_true, if_false, Nat.reduceEqDiff, reduceIte]
  refine Tr.weaken (Weaker.ghostH (sz := 3) (es := [.agg [.val (.slice none 0 0), .sl 4 0 0, .sl 3 0 0]]) 2 2 [.agg [.sl 5 0 0, .sl 4 0 0, .sl 3 0 0]] (by simp [Sl.look]) (by simp) (by simp) (by simp [V.fits, V.cells, V.one]) (by simp only [List.flatMap_cons, List.flatMap_nil, V.cells, List.append_nil]; exact .to (.same (.same .nil)))) ?_
  simp only [Sl.put, if_true, if_false, Nat.reduceEqDiff, reduceIte]
  refine loop_p (α := Nat × Nat × Nat) (fun a => ⟨78, [(1, .ptr 0 0 0), (2, .ptr 1 0 0), (3, .ptr 2 0 0), (4, iV (a.1 : Nat))], [(0, .rows 3 [.agg [.ro 2 (inis t.locs), .ro 1 (thrs t.ths), .ro 3 (atms t.asks)]]), (1, .rows 3 [.agg [.val (.slice none 0 0), .val (.slice none 0 0), .val (.slice none 0 0)]]), (2, .rows 3 [.agg [.sl a.2.2 0 (locP t.locs a.1).length, .sl 4 0 0, .sl 3 0 0]]), (a.2.2, .rows 2 (inis (locP t.locs a.1))), (4, .rows 1 []), (3, .rows 3 [])], a.2.1 + 6⟩) (fun a => a.1 ≤ t.locs.length ∧ a.1 ≤ 12 ∧ 4 < a.2.2 ∧ a.2.2 < a.2.1 + 6 ∧ a.2.1 = 18 * a.1) (fun a => 12 - a.1) (0, 0, 5) ?_ ?_ ?_
  ·dsimp only; omega
  ·refine Weaker.fz 1 0 ?_ ?_ ?_
   ·simp [go_sem, locP_zero]
   ·first | (simp; done) | (simp; omega)
   ·simp [go_sem, Tst.cs, locP_zero, inis_nil]
  rintro ⟨i, j, m⟩ ⟨hi, hi2, hm1, hm2, hj⟩
  dsimp only at hi hi2 hm1 hm2 hj ⊢
  refine seq_k fun K1 hK1 => ?_
  refine region_k T_ok (by decide) fun K hK => ?_
  have hcase : (i < t.locs.length ∧ i < 12) ∨ (i < t.locs.length ∧ i = 12) ∨ i = t.locs.length := by omega
  rcases hcase with ⟨h1, h2⟩ | ⟨h1, rfl⟩ | h1
  ·have h1I : (i : Int) < (t.locs.length : Nat) := by omega
   have h2I : (i : Int) < 12 := by omega
   simp [go_sem, h1, h2, h1I, h2I]
   refine hK _ ?_; clear hK K
   refine cond_k rfl (fun h => ?_) (fun h => ?_)
   ·clear h
    obtain ⟨x, hx, hx'⟩ := getAt h1
    have hi0 : (0 : Int) ≤ (i : Nat) := by omega
    have hw : IntKind.i64.wrap ((i : Nat) + 1) = (i : Nat) + 1 := wrap_i64 (by omega) (by omega)
    have hsx := hs x (List.mem_of_getElem? hx)
    have hpl := locP_len t.locs i
    have n0 : ¬ m = 0 := by omega
    have q0 : ¬ 0 = m := by omega
    have n1 : ¬ m = 1 := by omega
    have q1 : ¬ 1 = m := by omega
    have n2 : ¬ m = 2 := by omega
    have q2 : ¬ 2 = m := by omega
    have n3 : ¬ m = 3 := by omega
    have q3 : ¬ 3 = m := by omega
    have n4 : ¬ m = 4 := by omega
    have q4 : ¬ 4 = m := by omega
    have n5 : ¬ m = j + 22 := by omega
    have q5 : ¬ j + 22 = m := by omega
    have n6 : ¬ m = j + 23 := by omega
    have q6 : ¬ j + 23 = m := by omega
    refine tr_skip ?_
    refine hK1 _ ?_; try clear hK1 K1
    refine seq_k fun K2 hK2 => ?_
    refine tr_block ?_
    refine draw_e T_ok (by kernel_rfl) 17 [[], [0], [], [2], [], [2, 3, 4], [2, 3, 4, 5], [2, 3, 4, 5, 6], [2, 3, 4, 5, 6, 7], [], [9], [], [9, 10, 11], [9, 10, 11, 12], [9, 10, 11, 12, 13], [2, 3, 4, 5, 6, 7, 8, 9, 10, 11, 12, 13, 14], [2, 3, 4, 5, 6, 7, 8, 9, 10, 11, 12, 13, 14, 15], [0, 1, 2, 3, 4, 5, 6, 7, 8, 9, 10, 11, 12, 13, 14, 15, 16], [0, 1, 2, 3, 4, 5, 6, 7, 8, 9, 10, 11, 12, 13, 14, 15, 16, 17], [0, 1, 2, 3, 4, 5, 6, 7, 8, 9, 10, 11, 12, 13, 14, 15, 16, 17, 18]] [(0, 16), (1, 16)] (by decide) (by decide) (by decide) fun K hK => ?_
    first | dsimp only [List.take, List.drop] | dsimp [List.take, List.drop]
    simp [go_sem, hx, hx', hi0, h1, h1I, iniC, Ini.cs, n0, q0, n1, q1, n2, q2, n3, q3, n4, q4, n5, q5, n6, q6]
    refine callD_of (cut_pf x.name 20 hsx) ?_
    simp [go_sem, hx, hx', hi0, h1, h1I, iniC, Ini.cs, n0, q0, n1, q1, n2, q2, n3, q3, n4, q4, n5, q5, n6, q6]
    refine ⟨by omega, ?_⟩
    refine hK _ ?_; clear hK K
    refine hK2 _ ?_; try clear hK2 K2
    refine region_e T_ok (by decide) fun K hK => ?_
    simp [go_sem, hw]
    refine hK _ ?_; clear hK K
    refine ⟨(i + 1, j + 18, j + 23), ?_, ?_, ?_⟩
    ·dsimp only; omega
    ·dsimp only; omega
    ·refine Weaker.fz 1 0 ?_ ?_ ?_
     ·simp [go_sem, locP_step hx]
     ·first | (simp; done) | (simp; omega)
     simp [go_sem, locP_step hx, inis_append, inis_one, iniC, Ini.cs, cutI, n0, q0, n1, q1, n2, q2, n3, q3, n4, q4, n5, q5, n6, q6]
   ·simp at h
  ·have h1I : (12 : Int) < (t.locs.length : Nat) := by omega
   simp [go_sem, h1, h1I]
   refine hK _ ?_; clear hK K
   refine cond_k rfl (fun h => ?_) (fun h => ?_)
   ·simp at h
   ·have hla : True := trivial
    have n0 : ¬ m = 0 := by omega
    have q0 : ¬ 0 = m := by omega
    have n1 : ¬ m = 1 := by omega
    have q1 : ¬ 1 = m := by omega
    have n2 : ¬ m = 2 := by omega
    have q2 : ¬ 2 = m := by omega
    have n3 : ¬ m = 3 := by omega
    have q3 : ¬ 3 = m := by omega
    have n4 : ¬ m = 4 := by omega
    have q4 : ¬ 4 = m := by omega
    have n5 : ¬ m = j + 22 := by omega
    have q5 : ¬ j + 22 = m := by omega
    have n6 : ¬ m = j + 23 := by omega
    have q6 : ¬ j + 23 = m := by omega
    refine tr_exit ?_
    refine Weaker.fzk 1 1 (by omega) ?_ ?_ ?_
    ·simp [go_sem, hla, n0, q0, n1, q1, n2, q2, n3, q3, n4, q4, n5, q5, n6, q6]
    ·first | (simp; done) | (simp; omega)
    ·simp [go_sem, hla, n0, q0, n1, q1, n2, q2, n3, q3, n4, q4, n5, q5, n6, q6]
  ·simp [go_sem, h1]
   refine hK _ ?_; clear hK K
   refine cond_k rfl (fun h => ?_) (fun h => ?_)
   ·simp at h
   ·have hla := locP_all (l := t.locs) (by omega)
    have n0 : ¬ m = 0 := by omega
    have q0 : ¬ 0 = m := by omega
    have n1 : ¬ m = 1 := by omega
    have q1 : ¬ 1 = m := by omega
    have n2 : ¬ m = 2 := by omega
    have q2 : ¬ 2 = m := by omega
    have n3 : ¬ m = 3 := by omega
    have q3 : ¬ 3 = m := by omega
    have n4 : ¬ m = 4 := by omega
    have q4 : ¬ 4 = m := by omega
    have n5 : ¬ m = j + 22 := by omega
    have q5 : ¬ j + 22 = m := by omega
    have n6 : ¬ m = j + 23 := by omega
    have q6 : ¬ j + 23 = m := by omega
    refine tr_exit ?_
    refine Weaker.fzk 1 1 (by omega) ?_ ?_ ?_
    ·simp [go_sem, hla, n0, q0, n1, q1, n2, q2, n3, q3, n4, q4, n5, q5, n6, q6]
    ·first | (simp; done) | (simp; omega)
    ·simp [go_sem, hla, n0, q0, n1, q1, n2, q2, n3, q3, n4, q4, n5, q5, n6, q6]
 ·skip
  refine seq_to ⟨78, [(1, .ptr 0 0 0), (2, .ptr 1 0 0), (3, .ptr 2 0 0)], [(0, .rows 3 [.agg [.ro 2 (inis t.locs), .ro 1 (thrs t.ths), .ro 3 (atms t.asks)]]), (1, .rows 3 [.agg [.val (.slice none 0 0), .val (.slice none 0 0), .val (.slice none 0 0)]]), (2, .rows 3 [.agg [.ro 2 (inis (locP t.locs 12)), .ro 1 (thrs (thP t.ths 6)), .sl 3 0 0]]), (3, .rows 3 [])], 400⟩ ?_ ?_
  ·skip
   refine region_k T_ok (by decide) fun K hK => ?_
   simp [go_sem]
   refine hK _ ?_; clear hK K
   refine tr_block ?_
   refine loop_p (α := Nat × Nat × Nat) (fun a => ⟨78, [(1, .ptr 0 0 0), (2, .ptr 1 0 0), (3, .ptr 2 0 0), (5, iV (a.1 : Nat))], [(0, .rows 3 [.agg [.ro 2 (inis t.locs), .ro 1 (thrs t.ths), .ro 3 (atms t.asks)]]), (1, .rows 3 [.agg [.val (.slice none 0 0), .val (.slice none 0 0), .val (.slice none 0 0)]]), (2, .rows 3 [.agg [.ro 2 (inis (locP t.locs 12)), .sl a.2.2 0 (thP t.ths a.1).length, .sl 3 0 0]]), (a.2.2, .rows 1 (thrs (thP t.ths a.1))), (3, .rows 3 [])], a.2.1 + 300⟩) (fun a => a.1 ≤ t.ths.length ∧ a.1 ≤ 6 ∧ 3 < a.2.2 ∧ a.2.2 < a.2.1 + 300 ∧ a.2.1 = 11 * a.1) (fun a => 6 - a.1) (0, 0, 4) ?_ ?_ ?_
   ·dsimp only; omega
   ·refine Weaker.fz 1 1 ?_ ?_ ?_
    ·simp [go_sem, thP_zero]
    ·first | (simp; done) | (simp; omega)
    ·simp [go_sem, thP_zero, thrs_nil]
   rintro ⟨i, j, m⟩ ⟨hi, hi2, hm1, hm2, hj⟩
   dsimp only at hi hi2 hm1 hm2 hj ⊢
   refine seq_k fun K3 hK3 => ?_
   refine region_k T_ok (by decide) fun K hK => ?_
   have hcase : (i < t.ths.length ∧ i < 6) ∨ (i < t.ths.length ∧ i = 6) ∨ i = t.ths.length := by omega
   rcases hcase with ⟨h1, h2⟩ | ⟨h1, rfl⟩ | h1
   ·have h1I : (i : Int) < (t.ths.length : Nat) := by omega
    have h2I : (i : Int) < 6 := by omega
    simp [go_sem, h1, h2, h1I, h2I]
    refine hK _ ?_; clear hK K
    refine cond_k rfl (fun h => ?_) (fun h => ?_)
    ·clear h
     obtain ⟨l, hx, hx'⟩ := getAt h1
     have hi0 : (0 : Int) ≤ (i : Nat) := by omega
     have hw : IntKind.i64.wrap ((i : Nat) + 1) = (i : Nat) + 1 := wrap_i64 (by omega) (by omega)
     have hpl := thP_len t.ths i
     have n0 : ¬ m = 0 := by omega
     have q0 : ¬ 0 = m := by omega
     have n1 : ¬ m = 1 := by omega
     have q1 : ¬ 1 = m := by omega
     have n2 : ¬ m = 2 := by omega
     have q2 : ¬ 2 = m := by omega
     have n3 : ¬ m = 3 := by omega
     have q3 : ¬ 3 = m := by omega
     have n4 : ¬ m = j + 302 := by omega
     have q4 : ¬ j + 302 = m := by omega
     have n5 : ¬ m = j + 308 := by omega
     have q5 : ¬ j + 308 = m := by omega
     have n6 : ¬ m = j + 309 := by omega
     have q6 : ¬ j + 309 = m := by omega
     have n7 : ¬ m = j + 310 := by omega
     have q7 : ¬ j + 310 = m := by omega
     refine tr_skip ?_
     refine hK3 _ ?_; try clear hK3 K3
     refine seq_k fun K4 hK4 => ?_
     refine tr_block ?_
     refine region_k T_ok (by decide) fun K hK => ?_
     simp [go_sem, hx, hx', hi0, h1, h1I]
     refine hK _ ?_; clear hK K
     refine draw_e T_ok (by kernel_rfl) 10 [[], [0], [], [], [], [4], [4, 5], [3, 4, 5, 6], [2, 3, 4, 5, 6, 7], [2, 3, 4, 5, 6, 7, 8], [0, 1, 2, 3, 4, 5, 6, 7, 8, 9], [0, 1, 2, 3, 4, 5, 6, 7, 8, 9, 10], [0, 1, 2, 3, 4, 5, 6, 7, 8, 9, 10, 11]] [(0, 2), (1, 2), (2, 3), (2, 4), (2, 5), (2, 6), (2, 7), (0, 8), (1, 8), (0, 9), (1, 9)] (by decide) (by decide) (by decide) fun K hK => ?_
     first | dsimp only [List.take, List.drop] | dsimp [List.take, List.drop]
     rcases Nat.lt_or_ge 12 l.length with hl | hl
     ·have hlI : (12 : Int) < (l.length : Nat) := by omega
      have hl2 : (12 : Int) ≤ (l.length : Nat) := by omega
      have hl3 : 12 ≤ l.length := by omega
      have ht12 : True := trivial
      have hm12 : 12 ≤ min 12 l.length := by omega
      simp [go_sem, hl, hlI, hl2, hl3, n0, q0, n1, q1, n2, q2, n3, q3, n4, q4, n5, q5, n6, q6, n7, q7]
      refine ⟨by omega, ?_⟩
      refine hK _ ?_; clear hK K
      refine hK4 _ ?_; try clear hK4 K4
      refine region_e T_ok (by decide) fun K hK => ?_
      simp [go_sem, hw]
      refine hK _ ?_; clear hK K
      refine ⟨(i + 1, j + 11, j + 310), ?_, ?_, ?_⟩
      ·dsimp only; omega
      ·dsimp only; omega
      ·refine Weaker.fz 1 1 ?_ ?_ ?_
       ·simp [go_sem, thP_step hx]
       ·first | (simp; done) | (simp; omega)
       simp [go_sem, thP_step hx, thrs_append, thrs_one, ht12, hm12, List.take_take, n0, q0, n1, q1, n2, q2, n3, q3, n4, q4, n5, q5, n6, q6, n7, q7]
     ·have hlI : ¬ (12 : Int) < (l.length : Nat) := by omega
      have hl2 : (0 : Int) ≤ (l.length : Nat) := by omega
      have hm12 : True := trivial
      have ht12 : l.take 12 = l := List.take_of_length_le hl
      simp [go_sem, hl, hlI, hl2, n0, q0, n1, q1, n2, q2, n3, q3, n4, q4, n5, q5, n6, q6, n7, q7]
      refine ⟨by omega, ?_⟩
      refine ⟨by omega, ?_⟩
      refine hK _ ?_; clear hK K
      refine hK4 _ ?_; try clear hK4 K4
      refine region_e T_ok (by decide) fun K hK => ?_
      simp [go_sem, hw]
      refine hK _ ?_; clear hK K
      refine ⟨(i + 1, j + 11, j + 310), ?_, ?_, ?_⟩
      ·dsimp only; omega
      ·dsimp only; omega
      ·refine Weaker.fz 1 1 ?_ ?_ ?_
       ·simp [go_sem, thP_step hx]
       ·first | (simp; done) | (simp; omega)
       simp [go_sem, thP_step hx, thrs_append, thrs_one, ht12, hm12, List.take_take, n0, q0, n1, q1, n2, q2, n3, q3, n4, q4, n5, q5, n6, q6, n7, q7]
    ·simp at h
   ·have h1I : (6 : Int) < (t.ths.length : Nat) := by omega
    simp [go_sem, h1, h1I]
    refine hK _ ?_; clear hK K
    refine cond_k rfl (fun h => ?_) (fun h => ?_)
    ·simp at h
    ·have hla : True := trivial
     have n0 : ¬ m = 0 := by omega
     have q0 : ¬ 0 = m := by omega
     have n1 : ¬ m = 1 := by omega
     have q1 : ¬ 1 = m := by omega
     have n2 : ¬ m = 2 := by omega
     have q2 : ¬ 2 = m := by omega
     have n3 : ¬ m = 3 := by omega
     have q3 : ¬ 3 = m := by omega
     have n4 : ¬ m = j + 302 := by omega
     have q4 : ¬ j + 302 = m := by omega
     have n5 : ¬ m = j + 308 := by omega
     have q5 : ¬ j + 308 = m := by omega
     have n6 : ¬ m = j + 309 := by omega
     have q6 : ¬ j + 309 = m := by omega
     have n7 : ¬ m = j + 310 := by omega
     have q7 : ¬ j + 310 = m := by omega
     refine tr_exit ?_
     refine Weaker.fzk 1 1 (by omega) ?_ ?_ ?_
     ·simp [go_sem, hla, n0, q0, n1, q1, n2, q2, n3, q3, n4, q4, n5, q5, n6, q6, n7, q7]
     ·first | (simp; done) | (simp; omega)
     ·simp [go_sem, hla, n0, q0, n1, q1, n2, q2, n3, q3, n4, q4, n5, q5, n6, q6, n7, q7]
   ·simp [go_sem, h1]
    refine hK _ ?_; clear hK K
    refine cond_k rfl (fun h => ?_) (fun h => ?_)
    ·simp at h
    ·have hla := thP_all (l := t.ths) (by omega)
     have n0 : ¬ m = 0 := by omega
     have q0 : ¬ 0 = m := by omega
     have n1 : ¬ m = 1 := by omega
     have q1 : ¬ 1 = m := by omega
     have n2 : ¬ m = 2 := by omega
     have q2 : ¬ 2 = m := by omega
     have n3 : ¬ m = 3 := by omega
     have q3 : ¬ 3 = m := by omega
     have n4 : ¬ m = j + 302 := by omega
     have q4 : ¬ j + 302 = m := by omega
     have n5 : ¬ m = j + 308 := by omega
     have q5 : ¬ j + 308 = m := by omega
     have n6 : ¬ m = j + 309 := by omega
     have q6 : ¬ j + 309 = m := by omega
     have n7 : ¬ m = j + 310 := by omega
     have q7 : ¬ j + 310 = m := by omega
     refine tr_exit ?_
     refine Weaker.fzk 1 1 (by omega) ?_ ?_ ?_
     ·simp [go_sem, hla, n0, q0, n1, q1, n2, q2, n3, q3, n4, q4, n5, q5, n6, q6, n7, q7]
     ·first | (simp; done) | (simp; omega)
     ·simp [go_sem, hla, n0, q0, n1, q1, n2, q2, n3, q3, n4, q4, n5, q5, n6, q6, n7, q7]
  ·skip
   refine draw_k T_ok (by kernel_rfl) 9 [[], [0], [], [2], [], [4], [4, 5], [4, 5, 6], [2, 3, 4, 5, 6, 7], [0, 1, 2, 3, 4, 5, 6, 7, 8], [0, 1, 2, 3, 4, 5, 6, 7, 8, 9], [0, 1, 2, 3, 4, 5, 6, 7, 8, 9, 10]] [] (by decide) (by decide) (by decide) fun K hK => ?_
   first | dsimp only [List.take, List.drop] | dsimp [List.take, List.drop]
   rcases Nat.lt_or_ge 50 t.asks.length with hl | hl
   ·have hlI : (50 : Int) < (t.asks.length : Nat) := by omega
    have hl2 : (50 : Int) ≤ (t.asks.length : Nat) := by omega
    have hl3 : 50 ≤ t.asks.length := by omega
    have ht50 : True := trivial
    have hm50 : 50 ≤ min 50 t.asks.length := by omega
    simp [go_sem, hl, hlI, hl2, hl3]
    refine hK _ ?_; clear hK K
    refine region_k T_ok (by decide) fun K hK => ?_
    simp [go_sem]
    refine hK _ ?_; clear hK K
    refine tr_ret ⟨.inr rfl, ?_⟩
    simp [go_sem, few_cs, ht50, hm50, List.take_take]
   ·have hlI : ¬ (50 : Int) < (t.asks.length : Nat) := by omega
    have hl2 : (0 : Int) ≤ (t.asks.length : Nat) := by omega
    have hm50 : True := trivial
    have ht50 : t.asks.take 50 = t.asks := List.take_of_length_le hl
    simp [go_sem, hl, hlI, hl2]
    refine ⟨by omega, ?_⟩
    refine hK _ ?_; clear hK K
    refine region_k T_ok (by decide) fun K hK => ?_
    simp [go_sem]
    refine hK _ ?_; clear hK K
    refine tr_ret ⟨.inr rfl, ?_⟩
    simp [go_sem, few_cs, ht50, hm50, List.take_take]
open Go Go.Sl Go.Proofs.Try
theorem few_nm3 {t : Tst} : ∀ l ∈ (few t).locs, l.name.size ≤ 1000000 := fun l hl => by
 obtain ⟨l', _, rfl⟩ := List.mem_map.1 hl
 exact Nat.le_trans (cutS_le l'.name 20) (by decide)
theorem set41 {t : Tst} (ht : TTOk t) : ∀ q ∈ setOf (tsoEnds t), q.length = 41 := fun q hq =>
 (explT_ok ht _ _ _ (tsoM_ok ht) ⟨fun _ h => (by cases h), fun _ h => (by cases h)⟩).ends q (mem_setOf.1 hq)
theorem setLen {t : Tst} (ht : TTOk t) : (setOf (tsoEnds t)).length = (tsoEnds t).length := setOf_len (explT_nodup ht _ _ _ (tsoM_ok ht) List.nodup_nil)
open Go Go.Sl Go.Proofs.Try
theorem smallCn (T : Tst) (n : Int) : smallT T n = 0 ∨ (smallT T n = 1 ∧ chkErr T = 0 ∧ (memTot T : Int) ≤ n ∧ hasPairs T.ths = true) ∨ (smallT T n = 1 ∧ chkErr T = 0 ∧ (memTot T : Int) ≤ n ∧ hasPairs T.ths = false) := by
 unfold smallT
 by_cases h : chkErr T = 0
 ·by_cases h2 : n < (memTot T : Int)
  ·simp [h, h2]
  ·cases hasPairs T.ths
   ·refine .inr (.inr ⟨by simp [h, h2], h, by omega, rfl⟩)
   ·refine .inr (.inl ⟨by simp [h, h2], h, by omega, rfl⟩)
 ·simp [h]
open Go Go.Sl Go.Proofs.Try
theorem inss_append (a b : List Ins) : inss (a ++ b) = inss a ++ inss b := List.map_append
open Go Go.Sl Go.Proofs.Try
theorem memUp_congr {l m : List (List Ins)} (h : ∀ i, memLeft (l.getD i []) 0 = memLeft (m.getD i []) 0) : ∀ n, memUp l n = memUp m n
 | 0 => rfl
 | n + 1 => by rw [memUp, memUp, memUp_congr h n, memC_all, memC_all, h n]
theorem sub_set {a b : List (List Int)} (h : ∀ e ∈ a, e ∈ b) : decide (∀ x ∈ setOf a, x ∈ setOf b) = true := by
 rw [decide_eq_true_eq]
 exact fun x hx => mem_setOf.2 (h x (mem_setOf.1 hx))
open Go Go.Sl Go.Proofs.Try
set_option maxRecDepth 100000 in
set_option maxHeartbeats 4000000 in
theorem state5_pf  : Pf Try.prog 99 [.ro 1 [uV 1, uV 1, uV 1, uV 1]] (.agg (stK st5)) := by
 refine Pf.of_fn (.cons (.ro (fun v hv => by simp at hv; rcases hv with rfl | rfl <;> exact .cons (.val _) .nil)) .nil) (.agg (nl_stK _)) ?_
 refine fn_in T_ok func99 rfl rfl ntmps99 rfl (by simp) ?_
 refine region_k T_ok (by decide) fun K hK => ?_
 simp [go_sem]
 refine hK _ ?_; clear hK K
 refine region_k T_ok (by decide) fun K hK => ?_
 simp [go_sem]
 refine hK _ ?_; clear hK K
 refine region_k T_ok (by decide) fun K hK => ?_
 simp [go_sem]
 refine hK _ ?_; clear hK K
 refine region_k T_ok (by decide) fun K hK => ?_
 simp [go_sem]
 refine hK _ ?_; clear hK K
 refine tr_ret ⟨.inr rfl, ?_⟩
 simp [go_sem]
 rfl
set_option maxRecDepth 100000 in
set_option maxHeartbeats 8000000 in
theorem awake15  : Pf Try.prog 62 [] (bV true) := by
 refine Pf.of_fn .nil (.val _) ?_
 refine fn_in T_ok func62 rfl rfl ntmps62 rfl (by simp) ?_
 refine region_k T_ok (by decide) fun K hK => ?_
 simp [go_sem]
 refine hK _ ?_; clear hK K
 refine region_k T_ok (by decide) fun K hK => ?_
 simp [go_sem]
 refine call_pf (buffering_pf false) ?_
 simp [go_sem, buf_cs]
 refine hK _ ?_; clear hK K
 refine Tr.weaken (Weaker.fz (t' := [(1, .rp (bufT false).cs 0)]) (H' := []) 1 0 (by simp [go_sem, buf_cs]) (by simp) (by simp)) ?_
 refine region_k T_ok (by decide) fun K hK => ?_
 simp [go_sem]
 refine call_pf (seqc_pf (bufT false) (bufS_ok _) (by rw [endsQ]; decide)) ?_
 simp [go_sem]
 refine hK _ ?_; clear hK K
 refine region_k T_ok (by decide) fun K hK => ?_
 simp [go_sem, setQ_len]
 refine call_lendP state4_pf (pure_agg (stK_vals _)) 2 (by simp [go_sem]) ?_
 simp [go_sem, setQ_len]
 refine call_pf (has_pf _ setQ_41 (rising_setOf _) (by rw [setQ_len]; decide) st4 rfl) ?_
 simp [go_sem, setQ_len, setQ_no]
 refine call_lendP state5_pf (pure_agg (stK_vals _)) 2 (by simp [go_sem]) ?_
 simp [go_sem, setQ_len, setQ_no]
 refine call_pf (has_pf _ setQ_41 (rising_setOf _) (by rw [setQ_len]; decide) st5 rfl) ?_
 simp [go_sem, setQ_len, setQ_no, setQ_has]
 refine hK _ ?_; clear hK K
 refine tr_ret ⟨.inr rfl, ?_⟩
 simp [go_sem]
open Go Go.Sl Go.Proofs.Try
def fnU (l : List (List Ins)) (i : Nat) : List (List Ins) := (l.take i).map fenF
def fnI (l : List Ins) (b : Nat) : List Ins := fenF (l.take b)
theorem fnU_step {l : List (List Ins)} {i : Nat} {x : List Ins} (h : l[i]? = some x) : fnU l (i + 1) = fnU l i ++ [fnI x x.length] := by simp [fnU, fnI, takeAt h]
theorem fnI_step {l : List Ins} {b : Nat} {x : Ins} (h : l[b]? = some x) : fnI l (b + 1) = fnI l b ++ fenX x := by unfold fnI; rw [takeAt h, fenF_append]; simp [fenF]
theorem fnU_len {l : List (List Ins)} {i : Nat} (h : i ≤ l.length) : (fnU l i).length = i := by simp [fnU]; omega
theorem fnU_all (T : Tst) : fnU T.ths T.ths.length = (fenS T).ths := by simp [fnU, fenS]
theorem fnI_len (l : List Ins) (b : Nat) : (fnI l b).length ≤ 2 * b := by
 have := (fenF_len (l.take b)).2
 rw [List.length_take] at this
 unfold fnI; omega
theorem fenS_cs (T : Tst) : (fenS T).cs = [.ro 2 (inis T.locs), .ro 1 (thrs (fenS T).ths), .ro 3 (atms T.asks)] := rfl
theorem fenS_pairs {T : Tst} (h : hasPairs T.ths = false) : hasPairs (fenS T).ths = false := by
 unfold hasPairs fenS at *
 simp only [List.any_map]
 rw [List.any_eq_false] at h ⊢
 intro l hl
 have h2 := h l hl
 simp only [Function.comp, Bool.not_eq_true, List.any_eq_false] at h2 ⊢
 intro y hy
 obtain ⟨x, hx, hy2⟩ := List.mem_flatMap.1 hy
 unfold fenX at hy2
 split at hy2
 ·simp only [List.mem_cons, List.not_mem_nil, or_false] at hy2
  rcases hy2 with rfl | rfl
  ·exact h2 y hx
  ·decide
 ·simp only [List.mem_singleton] at hy2
  subst hy2; exact h2 y hx
theorem memLeft_fenF (l : List Ins) : memLeft (fenF l) 0 = memLeft l 0 := by
 unfold memLeft
 rw [List.drop_zero, List.drop_zero]
 induction l with
 | nil => rfl
 | cons x l ih =>
  rw [fenF_cons, List.filter_append, List.length_append, ih, List.filter_cons]
  unfold fenX
  split
  ·rename_i h; simp [memB, rdB, wrB, fenI, h]; omega
  ·simp only [List.filter_cons, List.filter_nil]
   split <;> simp <;> omega
theorem fenS_few {T : Tst} (ht : TSOk T) (h4 : ∀ i, (lth T i).length ≤ 4) (hm : memTot T ≤ 6) : (tsoEnds (fenS T)).length ≤ 400000000000 := by
 refine ends_few (fen_ok ht h4) ?_
 unfold memTot at hm ⊢
 rw [fenS_len, memUp_congr (m := T.ths)]
 ·exact hm
 ·intro i
  show memLeft (lth (fenS T) i) 0 = memLeft (lth T i) 0
  rw [lth_fen]; exact memLeft_fenF _
set_option maxRecDepth 100000 in
set_option maxHeartbeats 16000000 in
theorem seqcFenced_pf (t : Tst) (hs : ∀ l ∈ t.locs, l.name.size ≤ 9223372036854775807) (hwf : tstWf t) : Pf Try.prog 17 [.agg t.cs] (bV true) := by
 refine Pf.of_fn (.cons (.agg (nl_tst t)) .nil) (.val _) ?_
 have hnm : ∀ l ∈ (few t).locs, l.name.size ≤ 1000000 := few_nm3
 have hfew := few_pf t hs
 have hwT := few_wf hwf
 obtain ⟨T, hT⟩ : ∃ T, few t = T := ⟨_, rfl⟩
 rw [hT] at hnm hfew hwT
 have hcl : T.cs.length = 3 := rfl
 have hct : List.take 3 T.cs = T.cs := rfl
 refine fn_in T_ok func17 rfl rfl ntmps17 rfl (by simp) ?_
 refine region_k T_ok (by decide) fun K hK => ?_
 simp [go_sem, Tst.cs]
 refine hK _ ?_; clear hK K
 refine region_k T_ok (by decide) fun K hK => ?_
 simp [go_sem, Tst.cs]
 refine call_pf (hfew) ?_
 simp [go_sem, Tst.cs]
 refine hK _ ?_; clear hK K
 refine seq_k fun K1 hK1 => ?_
 refine Tr.weaken (Weaker.fz (H' := []) (t' := [(1, .rp T.cs 0), (2, bV false)]) 1 0 ?_ ?_ ?_) ?_
 ·simp [go_sem, Tst.cs]
 ·simp
 ·simp
 refine region_k T_ok (by decide) fun K hK => ?_
 simp [go_sem]
 refine call_pf (awake15) ?_
 simp [go_sem, hcl, hct]
 refine call_pf (small_pf T hnm 6) ?_
 simp [go_sem]
 rcases smallCn T 6 with hz | ⟨hz, hc, hm, hp⟩ | ⟨hz, hc, hm, hp⟩
 ·simp [go_sem, hz]
  refine hK _ ?_; clear hK K
  refine cond_k rfl (fun h => ?_) (fun h => ?_)
  ·clear h
   refine region_k T_ok (by decide) fun K hK => ?_
   simp [go_sem]
   refine call_pf (awake15) ?_
   simp [go_sem]
   refine hK _ ?_; clear hK K
   refine tr_ret ⟨.inr rfl, ?_⟩
   simp [go_sem]
  ·simp at h
 ·simp [go_sem, hz]
  refine call_pf (hasPairs_pf T (by have := (good_tt hc hwT).ths; omega) (thr_len (good_tt hc hwT))) ?_
  simp [go_sem, hp, hz]
  refine hK _ ?_; clear hK K
  refine cond_k rfl (fun h => ?_) (fun h => ?_)
  ·clear h
   refine region_k T_ok (by decide) fun K hK => ?_
   simp [go_sem]
   refine call_pf (awake15) ?_
   simp [go_sem]
   refine hK _ ?_; clear hK K
   refine tr_ret ⟨.inr rfl, ?_⟩
   simp [go_sem]
  ·simp at h
 ·simp [go_sem, hz]
  refine call_pf (hasPairs_pf T (by have := (good_tt hc hwT).ths; omega) (thr_len (good_tt hc hwT))) ?_
  simp [go_sem, hp, hz]
  refine hK _ ?_; clear hK K
  refine cond_k rfl (fun h => ?_) (fun h => ?_)
  ·simp at h
  ·clear h
   have hTS := good_ts hc hwT
   have hTT := hTS.tt
   have hfe := ends_few hTT (by omega)
   have ht4 := hTT.ths
   refine tr_skip ?_
   refine hK1 _ ?_; try clear hK1 K1
   refine region_k T_ok (by decide) fun K hK => ?_
   simp [go_sem, Tst.cs]
   refine hK _ ?_; clear hK K
   refine region_k T_ok (by decide) fun K hK => ?_
   simp [go_sem, Tst.cs]
   refine hK _ ?_; clear hK K
   refine seq_k fun K2 hK2 => ?_
   refine region_k T_ok (by decide) fun K hK => ?_
   simp [go_sem, Tst.cs]
   refine hK _ ?_; clear hK K
   refine tr_block ?_
   refine Tr.weaken (Weaker.ghostH (sz := 3) (es := [.agg [.ro 2 (inis T.locs), .val (.slice none 0 0), .ro 3 (atms T.asks)]]) 1 1 [.agg [.ro 2 (inis T.locs), .sl 2 0 0, .ro 3 (atms T.asks)]] (by simp [Sl.look]) (by simp) (by simp) (by simp [V.fits, V.cells, V.one]) (by simp only [List.flatMap_cons, List.flatMap_nil, V.cells, List.append_nil]; exact .same (.to (.same .nil)))) ?_
   simp only [Sl.put, if_true, if_false, Nat.reduceEqDiff, reduceIte]
   refine loop_p (α := Nat × Nat × Nat) (fun a => ⟨87, [(1, .rp T.cs 0), (2, bV false), (3, .ptr 1 0 0), (28, .ro 1 (thrs T.ths)), (29, iV (T.ths.length : Nat)), (30, iV (a.1 : Nat))], [(1, .rows 3 [.agg [.ro 2 (inis T.locs), .sl a.2.2 0 a.1, .ro 3 (atms T.asks)]]), (a.2.2, .rows 1 (thrs (fnU T.ths a.1)))], a.2.1⟩) (fun a => (a.1 ≤ T.ths.length ∧ 1 < a.2.2 ∧ a.2.2 < a.2.1) ∧ ∀ q x, q < a.1 → T.ths[q]? = some x → x.length ≤ 4 ∧ ∀ y ∈ x, y.op ≤ 15) (fun a => T.ths.length - a.1) (0, 3, 2) ?_ ?_ ?_
   ·exact ⟨by dsimp only; omega, fun q x h => absurd h (Nat.not_lt_zero _)⟩
   ·refine Weaker.fzk 1 1 (by first | omega | (dsimp only; omega)) ?_ ?_ ?_
    ·simp [go_sem, Tst.cs]
    ·first | (simp; done) | (simp; omega)
    ·simp [go_sem, fnU, thrs]
   rintro ⟨i, j, m⟩ ⟨⟨hi, hm1, hm2⟩, hbr⟩
   dsimp only at hi hm1 hm2 hbr ⊢
   have nn0 : ¬ m = 0 := by omega
   have mm0 : ¬ 0 = m := by omega
   have nn1 : ¬ m = 1 := by omega
   have mm1 : ¬ 1 = m := by omega
   have nn2 : ¬ m = j := by omega
   have mm2 : ¬ j = m := by omega
   have nn3 : ¬ m = j + 1 := by omega
   have mm3 : ¬ j + 1 = m := by omega
   have nn4 : ¬ m = j + 2 := by omega
   have mm4 : ¬ j + 2 = m := by omega
   have nn5 : ¬ m = j + 3 := by omega
   have mm5 : ¬ j + 3 = m := by omega
   have nn6 : ¬ m = j + 4 := by omega
   have mm6 : ¬ j + 4 = m := by omega
   have nn7 : ¬ m = j + 5 := by omega
   have mm7 : ¬ j + 5 = m := by omega
   have nn8 : ¬ j = 0 := by omega
   have mm8 : ¬ 0 = j := by omega
   have nn9 : ¬ j = 1 := by omega
   have mm9 : ¬ 1 = j := by omega
   refine region_k T_ok (by decide) fun K hK => ?_
   simp [go_sem, nn0, mm0, nn1, mm1, nn2, mm2, nn3, mm3, nn4, mm4, nn5, mm5, nn6, mm6, nn7, mm7, nn8, mm8, nn9, mm9]
   refine hK _ ?_; clear hK K
   refine seq_k fun K3 hK3 => ?_
   refine cond_k rfl (fun h => ?_) (fun h => ?_)
   ·simp at h
    have hin : i < T.ths.length := by omega
    clear h
    have hinI : (i : Int) < (T.ths.length : Nat) := by omega
    obtain ⟨l, hx, hx'⟩ := getAt hin
    have hi0 : (0 : Int) ≤ (i : Nat) := by omega
    have hl8 := (hTT.thr i l hx).1
    have hw : IntKind.i64.wrap ((i : Nat) + 1) = (i : Nat) + 1 := wrap_i64 (by omega) (by omega)
    have hmi : List.take i (thrs (fnU T.ths i)) = thrs (fnU T.ths i) := List.take_of_length_le (by rw [thrs_len, fnU_len hi]; omega)
    refine tr_skip ?_
    refine hK3 _ ?_; try clear hK3 K3
    refine seq_k fun K4 hK4 => ?_
    refine tr_block ?_
    refine region_k T_ok (by decide) fun K hK => ?_
    simp [go_sem, hin, hinI, hx, hx', hi0, nn0, mm0, nn1, mm1, nn2, mm2, nn3, mm3, nn4, mm4, nn5, mm5, nn6, mm6, nn7, mm7, nn8, mm8, nn9, mm9]
    refine hK _ ?_; clear hK K
    refine region_k T_ok (by decide) fun K hK => ?_
    simp [go_sem, nn0, mm0, nn1, mm1, nn2, mm2, nn3, mm3, nn4, mm4, nn5, mm5, nn6, mm6, nn7, mm7, nn8, mm8, nn9, mm9]
    refine hK _ ?_; clear hK K
    refine seq_k fun K5 hK5 => ?_
    refine region_k T_ok (by decide) fun K hK => ?_
    simp [go_sem, nn0, mm0, nn1, mm1, nn2, mm2, nn3, mm3, nn4, mm4, nn5, mm5, nn6, mm6, nn7, mm7, nn8, mm8, nn9, mm9]
    refine hK _ ?_; clear hK K
    refine cond_k rfl (fun h => ?_) (fun h => ?_)
    ·clear h
     refine region_k T_ok (by decide) fun K hK => ?_
     simp [go_sem]
     refine call_pf (awake15) ?_
     simp [go_sem]
     refine hK _ ?_; clear hK K
     refine tr_ret ⟨.inr rfl, ?_⟩
     simp [go_sem]
    ·have h4 : l.length ≤ 4 := by have h9 : ¬ (4 : Int) < (l.length : Nat) := (by simpa using h); omega
     refine tr_skip ?_
     refine hK5 _ ?_; try clear hK5 K5
     refine seq_k fun K6 hK6 => ?_
     refine region_k T_ok (by decide) fun K hK => ?_
     simp [go_sem, nn0, mm0, nn1, mm1, nn2, mm2, nn3, mm3, nn4, mm4, nn5, mm5, nn6, mm6, nn7, mm7, nn8, mm8, nn9, mm9]
     refine hK _ ?_; clear hK K
     refine tr_block ?_
     refine loop_p (α := Nat × Nat × Nat) (fun b => ⟨87, [(1, .rp T.cs 0), (2, bV false), (3, .ptr 1 0 0), (28, .ro 1 (thrs T.ths)), (29, iV (T.ths.length : Nat)), (30, iV (i : Nat)), (39, .ro 13 (inss l)), (40, iV (l.length : Nat)), (41, iV (b.1 : Nat)), (6, .sl b.2.2 0 (fnI l b.1).length)], [(b.2.2, .rows 13 (inss (fnI l b.1))), (1, .rows 3 [.agg [.ro 2 (inis T.locs), .sl m 0 i, .ro 3 (atms T.asks)]]), (m, .rows 1 (thrs (fnU T.ths i)))], b.2.1⟩) (fun b => (b.1 ≤ l.length ∧ m < b.2.2 ∧ b.2.2 < b.2.1) ∧ ∀ y ∈ l.take b.1, y.op ≤ 15) (fun b => l.length - b.1) (0, j + 1, j) ?_ ?_ ?_
     ·exact ⟨by dsimp only; omega, fun y hy => by simp at hy⟩
     ·refine Weaker.fzk 1 0 (by first | omega | (dsimp only; omega)) ?_ ?_ ?_
      ·simp [go_sem, fnI, fenF, nn0, mm0, nn1, mm1, nn2, mm2, nn3, mm3, nn4, mm4, nn5, mm5, nn6, mm6, nn7, mm7, nn8, mm8, nn9, mm9]
      ·first | (simp; done) | (simp; omega)
      ·simp [go_sem, fnI, fenF, inss, nn0, mm0, nn1, mm1, nn2, mm2, nn3, mm3, nn4, mm4, nn5, mm5, nn6, mm6, nn7, mm7, nn8, mm8, nn9, mm9]
     rintro ⟨b, jj, g⟩ ⟨⟨hb, hg1, hg2⟩, hby⟩
     dsimp only at hb hg1 hg2 hby ⊢
     have nn40 : ¬ g = 0 := by omega
     have mm40 : ¬ 0 = g := by omega
     have nn41 : ¬ g = 1 := by omega
     have mm41 : ¬ 1 = g := by omega
     have nn42 : ¬ g = m := by omega
     have mm42 : ¬ m = g := by omega
     have nn43 : ¬ g = jj := by omega
     have mm43 : ¬ jj = g := by omega
     have nn44 : ¬ g = jj + 1 := by omega
     have mm44 : ¬ jj + 1 = g := by omega
     have nn45 : ¬ g = jj + 2 := by omega
     have mm45 : ¬ jj + 2 = g := by omega
     have nn46 : ¬ g = jj + 3 := by omega
     have mm46 : ¬ jj + 3 = g := by omega
     have nn47 : ¬ g = jj + 4 := by omega
     have mm47 : ¬ jj + 4 = g := by omega
     have nn48 : ¬ g = jj + 5 := by omega
     have mm48 : ¬ jj + 5 = g := by omega
     have nn49 : ¬ g = jj + 6 := by omega
     have mm49 : ¬ jj + 6 = g := by omega
     have nn50 : ¬ g = jj + 7 := by omega
     have mm50 : ¬ jj + 7 = g := by omega
     have nn51 : ¬ m = jj := by omega
     have mm51 : ¬ jj = m := by omega
     have nn52 : ¬ jj = 1 := by omega
     have mm52 : ¬ 1 = jj := by omega
     have nn53 : ¬ jj = 0 := by omega
     have mm53 : ¬ 0 = jj := by omega
     have nn54 : ¬ m = jj + 1 := by omega
     have mm54 : ¬ jj + 1 = m := by omega
     have nn55 : ¬ m = jj + 2 := by omega
     have mm55 : ¬ jj + 2 = m := by omega
     have nn56 : ¬ m = jj + 3 := by omega
     have mm56 : ¬ jj + 3 = m := by omega
     have nn57 : ¬ m = jj + 4 := by omega
     have mm57 : ¬ jj + 4 = m := by omega
     have nn58 : ¬ m = jj + 5 := by omega
     have mm58 : ¬ jj + 5 = m := by omega
     have nn59 : ¬ m = jj + 6 := by omega
     have mm59 : ¬ jj + 6 = m := by omega
     have nn60 : ¬ m = jj + 7 := by omega
     have mm60 : ¬ jj + 7 = m := by omega
     refine region_k T_ok (by decide) fun K hK => ?_
     simp [go_sem, nn0, mm0, nn1, mm1, nn2, mm2, nn3, mm3, nn4, mm4, nn5, mm5, nn6, mm6, nn7, mm7, nn8, mm8, nn9, mm9, nn40, mm40, nn41, mm41, nn42, mm42, nn43, mm43, nn44, mm44, nn45, mm45, nn46, mm46, nn47, mm47, nn48, mm48, nn49, mm49, nn50, mm50, nn51, mm51, nn52, mm52, nn53, mm53, nn54, mm54, nn55, mm55, nn56, mm56, nn57, mm57, nn58, mm58, nn59, mm59, nn60, mm60]
     refine hK _ ?_; clear hK K
     refine seq_k fun K7 hK7 => ?_
     refine cond_k rfl (fun h => ?_) (fun h => ?_)
     ·simp at h
      have hbn : b < l.length := by omega
      clear h
      have hbI : (b : Int) < (l.length : Nat) := by omega
      obtain ⟨x, hg, hg'⟩ := getAt hbn
      have hb0 : (0 : Int) ≤ (b : Nat) := by omega
      have hw2 : IntKind.i64.wrap ((b : Nat) + 1) = (b : Nat) + 1 := wrap_i64 (by omega) (by omega)
      have hfl9 := fnI_len l b
      have hmb : List.take (fnI l b).length (inss (fnI l b)) = inss (fnI l b) := List.take_of_length_le (by rw [inss_len]; omega)
      refine tr_skip ?_
      refine hK7 _ ?_; try clear hK7 K7
      refine seq_k fun K8 hK8 => ?_
      refine tr_block ?_
      refine region_k T_ok (by decide) fun K hK => ?_
      simp [go_sem, hbn, hbI, hg, hg', hb0, len_ins, fits_ins, insC, nn0, mm0, nn1, mm1, nn2, mm2, nn3, mm3, nn4, mm4, nn5, mm5, nn6, mm6, nn7, mm7, nn8, mm8, nn9, mm9, nn40, mm40, nn41, mm41, nn42, mm42, nn43, mm43, nn44, mm44, nn45, mm45, nn46, mm46, nn47, mm47, nn48, mm48, nn49, mm49, nn50, mm50, nn51, mm51, nn52, mm52, nn53, mm53, nn54, mm54, nn55, mm55, nn56, mm56, nn57, mm57, nn58, mm58, nn59, mm59, nn60, mm60]
      refine hK _ ?_; clear hK K
      refine seq_k fun K9 hK9 => ?_
      refine region_k T_ok (by decide) fun K hK => ?_
      simp [go_sem, insC, Ins.cs, nn0, mm0, nn1, mm1, nn2, mm2, nn3, mm3, nn4, mm4, nn5, mm5, nn6, mm6, nn7, mm7, nn8, mm8, nn9, mm9, nn40, mm40, nn41, mm41, nn42, mm42, nn43, mm43, nn44, mm44, nn45, mm45, nn46, mm46, nn47, mm47, nn48, mm48, nn49, mm49, nn50, mm50, nn51, mm51, nn52, mm52, nn53, mm53, nn54, mm54, nn55, mm55, nn56, mm56, nn57, mm57, nn58, mm58, nn59, mm59, nn60, mm60]
      refine hK _ ?_; clear hK K
      refine cond_k rfl (fun h => ?_) (fun h => ?_)
      ·clear h
       refine region_k T_ok (by decide) fun K hK => ?_
       simp [go_sem]
       refine call_pf (awake15) ?_
       simp [go_sem]
       refine hK _ ?_; clear hK K
       refine tr_ret ⟨.inr rfl, ?_⟩
       simp [go_sem]
      ·have h15 : x.op ≤ 15 := by simpa using h
       refine tr_skip ?_
       refine hK9 _ ?_; try clear hK9 K9
       refine region_k T_ok (by decide) fun K hK => ?_
       simp [go_sem, insC, Ins.cs, nn0, mm0, nn1, mm1, nn2, mm2, nn3, mm3, nn4, mm4, nn5, mm5, nn6, mm6, nn7, mm7, nn8, mm8, nn9, mm9, nn40, mm40, nn41, mm41, nn42, mm42, nn43, mm43, nn44, mm44, nn45, mm45, nn46, mm46, nn47, mm47, nn48, mm48, nn49, mm49, nn50, mm50, nn51, mm51, nn52, mm52, nn53, mm53, nn54, mm54, nn55, mm55, nn56, mm56, nn57, mm57, nn58, mm58, nn59, mm59, nn60, mm60, hmb, inss_len]
       refine ⟨by omega, ?_⟩
       refine hK _ ?_; clear hK K
       refine region_k T_ok (by decide) fun K hK => ?_
       simp [go_sem, insC, Ins.cs, nn0, mm0, nn1, mm1, nn2, mm2, nn3, mm3, nn4, mm4, nn5, mm5, nn6, mm6, nn7, mm7, nn8, mm8, nn9, mm9, nn40, mm40, nn41, mm41, nn42, mm42, nn43, mm43, nn44, mm44, nn45, mm45, nn46, mm46, nn47, mm47, nn48, mm48, nn49, mm49, nn50, mm50, nn51, mm51, nn52, mm52, nn53, mm53, nn54, mm54, nn55, mm55, nn56, mm56, nn57, mm57, nn58, mm58, nn59, mm59, nn60, mm60]
       refine hK _ ?_; clear hK K
       refine cond_k rfl (fun h => ?_) (fun h => ?_)
       ·have h10 : x.op = 10 := by simpa using h
        have hfs : inss (fnI l (b + 1)) = inss (fnI l b) ++ [insC x, insC (fenI 2 1)] := by rw [fnI_step hg, inss_append, fenX, if_pos h10]; rfl
        have hfl : (fnI l (b + 1)).length = (fnI l b).length + 1 + 1 := by rw [fnI_step hg, List.length_append, fenX, if_pos h10]; rfl
        have hmb2 : ∀ v : V, List.take ((fnI l b).length + 1) (inss (fnI l b) ++ [v]) = inss (fnI l b) ++ [v] := fun v => List.take_of_length_le (by simp [inss_len])
        refine region_e T_ok (by decide) fun K hK => ?_
        simp [go_sem, insC, Ins.cs, nn0, mm0, nn1, mm1, nn2, mm2, nn3, mm3, nn4, mm4, nn5, mm5, nn6, mm6, nn7, mm7, nn8, mm8, nn9, mm9, nn40, mm40, nn41, mm41, nn42, mm42, nn43, mm43, nn44, mm44, nn45, mm45, nn46, mm46, nn47, mm47, nn48, mm48, nn49, mm49, nn50, mm50, nn51, mm51, nn52, mm52, nn53, mm53, nn54, mm54, nn55, mm55, nn56, mm56, nn57, mm57, nn58, mm58, nn59, mm59, nn60, mm60, hmb2, inss_len]
        repeat refine ⟨by omega, ?_⟩
        refine hK _ ?_; clear hK K
        refine hK8 _ ?_; try clear hK8 K8
        refine region_e T_ok (by decide) fun K hK => ?_
        simp [go_sem, hw2]
        refine hK _ ?_; clear hK K
        refine ⟨(b + 1, jj + 40, jj + 4), ?_, ?_, ?_⟩
        ·dsimp only
         refine ⟨by omega, fun y hy => ?_⟩
         rw [takeAt hg] at hy
         rcases List.mem_append.1 hy with hy | hy
         ·exact hby y hy
         ·simp at hy; subst hy; exact h15
        ·dsimp only; omega
        ·refine Weaker.fzk 1 0 (by first | omega | (dsimp only; omega)) ?_ ?_ ?_
         ·simp [go_sem, hfl, nn0, mm0, nn1, mm1, nn2, mm2, nn3, mm3, nn4, mm4, nn5, mm5, nn6, mm6, nn7, mm7, nn8, mm8, nn9, mm9, nn40, mm40, nn41, mm41, nn42, mm42, nn43, mm43, nn44, mm44, nn45, mm45, nn46, mm46, nn47, mm47, nn48, mm48, nn49, mm49, nn50, mm50, nn51, mm51, nn52, mm52, nn53, mm53, nn54, mm54, nn55, mm55, nn56, mm56, nn57, mm57, nn58, mm58, nn59, mm59, nn60, mm60]
         ·first | (simp; done) | (simp; omega)
         simp [go_sem, hfs, insC, Ins.cs, fenI, nn0, mm0, nn1, mm1, nn2, mm2, nn3, mm3, nn4, mm4, nn5, mm5, nn6, mm6, nn7, mm7, nn8, mm8, nn9, mm9, nn40, mm40, nn41, mm41, nn42, mm42, nn43, mm43, nn44, mm44, nn45, mm45, nn46, mm46, nn47, mm47, nn48, mm48, nn49, mm49, nn50, mm50, nn51, mm51, nn52, mm52, nn53, mm53, nn54, mm54, nn55, mm55, nn56, mm56, nn57, mm57, nn58, mm58, nn59, mm59, nn60, mm60]
       ·have h10 : ¬ x.op = 10 := by simpa using h
        have hfs : inss (fnI l (b + 1)) = inss (fnI l b) ++ [insC x] := by rw [fnI_step hg, inss_append, fenX, if_neg h10]; rfl
        have hfl : (fnI l (b + 1)).length = (fnI l b).length + 1 := by rw [fnI_step hg, List.length_append, fenX, if_neg h10]; rfl
        refine tr_skip ?_
        refine hK8 _ ?_; try clear hK8 K8
        refine region_e T_ok (by decide) fun K hK => ?_
        simp [go_sem, hw2]
        refine hK _ ?_; clear hK K
        refine ⟨(b + 1, jj + 40, jj + 2), ?_, ?_, ?_⟩
        ·dsimp only
         refine ⟨by omega, fun y hy => ?_⟩
         rw [takeAt hg] at hy
         rcases List.mem_append.1 hy with hy | hy
         ·exact hby y hy
         ·simp at hy; subst hy; exact h15
        ·dsimp only; omega
        ·refine Weaker.fzk 1 0 (by first | omega | (dsimp only; omega)) ?_ ?_ ?_
         ·simp [go_sem, hfl, nn0, mm0, nn1, mm1, nn2, mm2, nn3, mm3, nn4, mm4, nn5, mm5, nn6, mm6, nn7, mm7, nn8, mm8, nn9, mm9, nn40, mm40, nn41, mm41, nn42, mm42, nn43, mm43, nn44, mm44, nn45, mm45, nn46, mm46, nn47, mm47, nn48, mm48, nn49, mm49, nn50, mm50, nn51, mm51, nn52, mm52, nn53, mm53, nn54, mm54, nn55, mm55, nn56, mm56, nn57, mm57, nn58, mm58, nn59, mm59, nn60, mm60]
         ·first | (simp; done) | (simp; omega)
         simp [go_sem, hfs, insC, Ins.cs, fenI, nn0, mm0, nn1, mm1, nn2, mm2, nn3, mm3, nn4, mm4, nn5, mm5, nn6, mm6, nn7, mm7, nn8, mm8, nn9, mm9, nn40, mm40, nn41, mm41, nn42, mm42, nn43, mm43, nn44, mm44, nn45, mm45, nn46, mm46, nn47, mm47, nn48, mm48, nn49, mm49, nn50, mm50, nn51, mm51, nn52, mm52, nn53, mm53, nn54, mm54, nn55, mm55, nn56, mm56, nn57, mm57, nn58, mm58, nn59, mm59, nn60, mm60]
     ·simp at h
      obtain rfl : b = l.length := by omega
      clear h
      rw [List.take_length] at hby
      have htl : List.take (fnI l l.length).length (fnI l l.length) = fnI l l.length := List.take_of_length_le (Nat.le_refl _)
      have nn80 : ¬ g = 1 := by omega
      have mm80 : ¬ 1 = g := by omega
      have nn81 : ¬ g = m := by omega
      have mm81 : ¬ m = g := by omega
      have nn82 : ¬ g = 0 := by omega
      have mm82 : ¬ 0 = g := by omega
      have nn83 : ¬ g = jj := by omega
      have mm83 : ¬ jj = g := by omega
      have nn84 : ¬ m = jj := by omega
      have mm84 : ¬ jj = m := by omega
      have nn85 : ¬ jj = 1 := by omega
      have mm85 : ¬ 1 = jj := by omega
      have nn86 : ¬ jj = 0 := by omega
      have mm86 : ¬ 0 = jj := by omega
      have nn87 : ¬ g = jj + 1 := by omega
      have mm87 : ¬ jj + 1 = g := by omega
      have nn88 : ¬ g = jj + 2 := by omega
      have mm88 : ¬ jj + 2 = g := by omega
      have nn89 : ¬ g = jj + 3 := by omega
      have mm89 : ¬ jj + 3 = g := by omega
      have nn90 : ¬ m = jj + 1 := by omega
      have mm90 : ¬ jj + 1 = m := by omega
      have nn91 : ¬ m = jj + 2 := by omega
      have mm91 : ¬ jj + 2 = m := by omega
      have nn92 : ¬ m = jj + 3 := by omega
      have mm92 : ¬ jj + 3 = m := by omega
      refine tr_exit ?_
      refine hK6 _ ?_; try clear hK6 K6
      refine region_e T_ok (by decide) fun K hK => ?_
      simp [go_sem, nn0, mm0, nn1, mm1, nn2, mm2, nn3, mm3, nn4, mm4, nn5, mm5, nn6, mm6, nn7, mm7, nn8, mm8, nn9, mm9, nn80, mm80, nn81, mm81, nn82, mm82, nn83, mm83, nn84, mm84, nn85, mm85, nn86, mm86, nn87, mm87, nn88, mm88, nn89, mm89, nn90, mm90, nn91, mm91, nn92, mm92, hmi]
      refine ⟨by rw [fnU_len hi]; omega, by omega, ?_⟩
      refine hK _ ?_; clear hK K
      refine hK4 _ ?_; try clear hK4 K4
      refine region_e T_ok (by decide) fun K hK => ?_
      simp [go_sem, hw]
      refine hK _ ?_; clear hK K
      refine ⟨(i + 1, jj + 40, jj + 1), ?_, ?_, ?_⟩
      ·dsimp only
       refine ⟨by omega, fun q y hq hy => ?_⟩
       by_cases e : q = i
       ·subst e; rw [hx] at hy; cases hy; exact ⟨h4, hby⟩
       ·exact hbr q y (by omega) hy
      ·dsimp only; omega
      ·refine Weaker.fzk 1 1 (by first | omega | (dsimp only; omega)) ?_ ?_ ?_
       ·simp [go_sem, nn0, mm0, nn1, mm1, nn2, mm2, nn3, mm3, nn4, mm4, nn5, mm5, nn6, mm6, nn7, mm7, nn8, mm8, nn9, mm9, nn80, mm80, nn81, mm81, nn82, mm82, nn83, mm83, nn84, mm84, nn85, mm85, nn86, mm86, nn87, mm87, nn88, mm88, nn89, mm89, nn90, mm90, nn91, mm91, nn92, mm92]
       ·first | (simp; done) | (simp; omega)
       simp [go_sem, fnU_step hx, thrs_append, thrs_one, htl, nn0, mm0, nn1, mm1, nn2, mm2, nn3, mm3, nn4, mm4, nn5, mm5, nn6, mm6, nn7, mm7, nn8, mm8, nn9, mm9, nn80, mm80, nn81, mm81, nn82, mm82, nn83, mm83, nn84, mm84, nn85, mm85, nn86, mm86, nn87, mm87, nn88, mm88, nn89, mm89, nn90, mm90, nn91, mm91, nn92, mm92]
   ·simp at h
    obtain rfl : i = T.ths.length := by omega
    clear h
    have hnp := noPairs_of hp
    have h4 : ∀ i, (lth T i).length ≤ 4 := fun i => by
     by_cases hi : i < T.ths.length
     ·exact (hbr i _ hi (thr_at hi)).1
     ·rw [lth_out (by omega)]; simp
    have hnb : ∀ (i p : Nat) (x : Ins), (lth T i)[p]? = some x → x.op ≤ 15 ∧ 0 ≤ x.skip := fun i p x hx => by
     have hi : i < T.ths.length := by
      by_cases hi : i < T.ths.length
      ·exact hi
      ·rw [lth_out (by omega)] at hx; cases hx
     exact ⟨(hbr i _ hi (thr_at hi)).2 x (List.mem_of_getElem? hx), ((hTT.thr i _ (thr_at hi)).2 p x hx).skip0⟩
    have hTF := fen_ok hTS h4
    have hpp := fenS_pairs hp
    have hff := fenS_few hTS h4 (by omega)
    have hfs := seq_few hTS hnp hfe
    have hs1 := seq_in_fen hTS hnp h4 hnb
    have hs2 := fen_in_seq hTS hnp h4 hnb
    have hpl1 := fenS_len T
    have htk : List.take T.ths.length (fenS T).ths = (fenS T).ths := List.take_of_length_le (by omega)
    refine tr_exit ?_
    refine hK2 _ ?_; try clear hK2 K2
    refine region_k T_ok (by decide) fun K hK => ?_
    simp [go_sem]
    refine call_pf (seqc_pf T hTS hfs) ?_
    simp [go_sem]
    refine hK _ ?_; clear hK K
    refine Tr.weaken (Weaker.fz (H' := []) (t' := [(3, .rp (fenS T).cs 0), (9, .ro 41 (stR (setOf (seqEnds T))))]) 2 0 ?_ ?_ ?_) ?_
    ·simp [go_sem, fenS_cs, fnU_all, hpl1, htk, nn0, mm0, nn1, mm1, nn2, mm2, nn3, mm3, nn4, mm4, nn5, mm5, nn6, mm6, nn7, mm7, nn8, mm8, nn9, mm9]
    ·simp
    ·simp
    refine region_k T_ok (by decide) fun K hK => ?_
    simp [go_sem]
    refine call_pf (tso_pf (fenS T) hTF hpp hff) ?_
    simp [go_sem]
    refine hK _ ?_; clear hK K
    refine region_k T_ok (by decide) fun K hK => ?_
    simp [go_sem]
    refine call_pf (awake15) ?_
    simp [go_sem]
    refine call_pf (within_pf _ (seq41 hTS) (by rw [seqLen]; exact hfs) _ (set41 hTF) (rising_setOf _) (by rw [setLen hTF]; exact hff)) ?_
    simp [go_sem, sub_set hs1]
    refine call_pf (within_pf _ (set41 hTF) (by rw [setLen hTF]; exact hff) _ (seq41 hTS) (rising_setOf _) (by rw [seqLen]; exact hfs)) ?_
    simp [go_sem, sub_set hs1, sub_set hs2]
    refine hK _ ?_; clear hK K
    refine tr_ret ⟨.inr rfl, ?_⟩
    simp [go_sem]
open Go Go.Sl Go.Proofs.Try
theorem ownKnob16 : ownKnob Try.prog.godebug = none := by kernel_rfl
theorem laidOut16 : laidOutB Try.prog = true := by kernel_rfl
theorem ImpAs.to {P : Program} {t : TypeId} {α β : Type} {ok : α → Prop} {f : α → List V} {ok' : β → Prop} {f' : β → List V} (φ : α → β) (h : ImpAs P t ok f) (hok : ∀ a, ok a → ok' (φ a)) (hs : ∀ a, ok a → SeenAll (f a) (f' (φ a))) (hnl : ∀ b, NLs (f' b))
    (hone : ∀ b, (f' b).all V.one = true) (hlen : ∀ b, (f' b).length = P.cellsOf t) : ImpAs P t ok' f' where
  nl := hnl
  one b _ := hone b
  len b _ := hlen b
  imp hr := by
    obtain ⟨a, ha, hv⟩ := h.imp hr
    exact ⟨φ a, hok a ha, (hs a ha).rels hv⟩
theorem imp_list {P : Program} {t e : TypeId} {α : Type} {ok : α → Prop} {f : α → List V} {sz : Nat} (el : α → V) (ht : P.underlying t = some (.slice e)) (hc : P.cellsOf t = 1) (hsz : P.cellsOf e = sz) (hpos : 0 < sz) (hel : ∀ a, (el a).cells = f a) (hnl : ∀ a, NLs (el a).cells)
    (h : ImpAs P e ok f) : ImpAs P t (fun l : List α => l.length ≤ maxLen ∧ ∀ a ∈ l, ok a) fun l => [V.ro sz (l.map el)] :=
  ImpAs.to (fun o : Option (List α) => o.getD []) (imp_slice el ht hc hsz hpos (fun a _ => hel a) hnl h)
    (fun o ho => by cases o with | none => exact ⟨Nat.zero_le _, fun a ha => absurd ha (List.not_mem_nil)⟩ | some l => exact ho l rfl)
    (fun o ho => .cons (seen_slice sz el o) .nil)
    (fun l => .cons (.ro fun v hv => by obtain ⟨a, _, rfl⟩ := List.mem_map.1 hv; exact hnl a) .nil) (fun l => rfl) (fun l => hc.symm)
theorem iI : ImpAs Try.prog 3 (fun n : Int => (Lit.int .i64 n).wf = true) fun n => [.val (.int .i64 n)] := imp_int Try.underlying3 (by kernel_rfl)
theorem iB : ImpAs Try.prog 4 (fun _ : Bool => True) fun b => [.val (.bool b)] := imp_bool Try.underlying4 (by kernel_rfl)
theorem iU : ImpAs Try.prog 64 (fun n : Int => (Lit.int .u64 n).wf = true) fun n => [.val (.int .u64 n)] := imp_int Try.underlying64 (by kernel_rfl)
set_option maxRecDepth 100000 in
theorem imp_arg : ImpAs Try.prog 66 (fun p : Bool × Int => True ∧ (Lit.int .u64 p.2).wf = true) fun p => [.val (.bool p.1)] ++ [.val (.int .u64 p.2)] :=
 imp_struct (tot := 2) Try.underlying66 (by kernel_rfl) (impF_cons rfl (o' := 1) (by kernel_rfl) (imp_bool Try.underlying4 (by kernel_rfl)) (impF_last rfl (by kernel_rfl) (imp_int Try.underlying64 (by kernel_rfl))))
set_option maxRecDepth 100000 in
theorem imp_atm : ImpAs Try.prog 147 (fun _ : Atm => True) Atm.cs :=
 ImpAs.to (fun p : Int × Int × Int => ⟨p.1, p.2.1, p.2.2⟩)
  (imp_struct (tot := 3) Try.underlying147 (by kernel_rfl) (impF_cons rfl (o' := 1) (by kernel_rfl) iI (impF_cons rfl (o' := 2) (by kernel_rfl) iI (impF_last rfl (by kernel_rfl) iU))))
  (fun _ _ => trivial) (fun p _ => SeenAll.refl _) nl_atm (fun _ => rfl) (fun _ => by kernel_rfl)
def iniOk (x : Ini) : Prop := x.name.size ≤ 9223372036854775807
set_option maxRecDepth 100000 in
theorem imp_ini : ImpAs Try.prog 73 iniOk Ini.cs :=
 ImpAs.to (fun p : ByteArray × Int => ⟨p.1, p.2⟩)
  (imp_struct (tot := 2) Try.underlying73 (by kernel_rfl) (impF_cons rfl (o' := 1) (by kernel_rfl) (imp_string Try.underlying9 (by kernel_rfl)) (impF_last rfl (by kernel_rfl) iU)))
  (fun p h => h.1) (fun p _ => SeenAll.refl _) nl_ini (fun _ => rfl) (fun _ => by kernel_rfl)
theorem imp_inis : ImpAs Try.prog 55 (fun l : List Ini => l.length ≤ maxLen ∧ ∀ a ∈ l, iniOk a) fun l => [V.ro 2 (inis l)] := imp_list iniC Try.underlying55 (by kernel_rfl) (by kernel_rfl) (by omega) (fun _ => rfl) nl_ini imp_ini
theorem imp_atms : ImpAs Try.prog 57 (fun l : List Atm => l.length ≤ maxLen ∧ ∀ a ∈ l, True) fun l => [V.ro 3 (atms l)] := imp_list atmC Try.underlying57 (by kernel_rfl) (by kernel_rfl) (by omega) (fun _ => rfl) nl_atm imp_atm
def tstOk (t : Tst) : Prop := ∀ l ∈ t.locs, iniOk l
open Go Go.Sl Go.Proofs.Try
set_option maxRecDepth 100000 in
theorem imp_ins2 : ImpAs Try.prog 68 insWf Ins.cs :=
 ImpAs.to (fun p : Int × Int × Int × (Bool × Int) × (Bool × Int) × Bool × Bool × Int × Int × Int × Int => ⟨p.1, p.2.1, p.2.2.1, p.2.2.2.1.1, p.2.2.2.1.2, p.2.2.2.2.1.1, p.2.2.2.2.1.2, p.2.2.2.2.2.1, p.2.2.2.2.2.2.1, p.2.2.2.2.2.2.2.1, p.2.2.2.2.2.2.2.2.1, p.2.2.2.2.2.2.2.2.2.1, p.2.2.2.2.2.2.2.2.2.2⟩)
  (imp_struct (tot := 13) Try.underlying68 (by kernel_rfl) (impF_cons rfl (o' := 1) (by kernel_rfl) iI (impF_cons rfl (o' := 2) (by kernel_rfl) iI (impF_cons rfl (o' := 3) (by kernel_rfl) iI (impF_cons rfl (o' := 5) (by kernel_rfl) imp_arg (impF_cons rfl (o' := 7) (by kernel_rfl) imp_arg (impF_cons rfl (o' := 8) (by kernel_rfl) iB (impF_cons rfl (o' := 9) (by kernel_rfl) iB (impF_cons rfl (o' := 10) (by kernel_rfl) iI (impF_cons rfl (o' := 11) (by kernel_rfl) iI (impF_cons rfl (o' := 12) (by kernel_rfl) iI (impF_last rfl (by kernel_rfl) iI))))))))))))
  (fun p h => by
   have h1 := bounds_u64 h.2.2.2.1.2
   have h2 := bounds_u64 h.2.2.2.2.1.2
   exact ⟨⟨h1.1, by have := h1.2; dsimp only; omega⟩, h2.1, by have := h2.2; dsimp only; omega⟩) (fun p _ => SeenAll.refl _) nl_ins (fun _ => rfl) (fun _ => by kernel_rfl)
theorem imp_inss2 : ImpAs Try.prog 63 (fun l : List Ins => l.length ≤ maxLen ∧ ∀ a ∈ l, insWf a) fun l => [V.ro 13 (inss l)] := imp_list insC Try.underlying63 (by kernel_rfl) (by kernel_rfl) (by omega) (fun _ => rfl) nl_ins imp_ins2
theorem imp_thrs2 : ImpAs Try.prog 56 (fun l : List (List Ins) => l.length ≤ maxLen ∧ ∀ a ∈ l, a.length ≤ maxLen ∧ ∀ b ∈ a, insWf b) fun l => [V.ro 1 (thrs l)] :=
 imp_list (fun x => .ro 13 (inss x)) Try.underlying56 (by kernel_rfl) (by kernel_rfl) (by omega) (fun _ => rfl) (fun x => .cons (nl_inss x) .nil) imp_inss2
set_option maxRecDepth 100000 in
theorem imp_tst2 : ImpAs Try.prog 59 (fun t => tstOk t ∧ tstWf t) Tst.cs :=
 ImpAs.to (fun p : List Ini × List (List Ins) × List Atm => ⟨p.1, p.2.1, p.2.2⟩)
  (imp_struct (tot := 3) Try.underlying59 (by kernel_rfl) (impF_cons rfl (o' := 1) (by kernel_rfl) imp_inis (impF_cons rfl (o' := 2) (by kernel_rfl) imp_thrs2 (impF_last rfl (by kernel_rfl) imp_atms))))
  (fun p h => ⟨h.1.2, fun l hl x hx => (h.2.1.2 l hl).2 x hx⟩) (fun p _ => SeenAll.refl _) nl_tst (fun _ => rfl) (fun _ => by kernel_rfl)
end Go.Proofs.Ytflooghnoljpcaa
