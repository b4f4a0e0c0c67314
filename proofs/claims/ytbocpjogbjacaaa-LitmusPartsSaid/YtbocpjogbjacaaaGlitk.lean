/- Litmus tests: the walk of the law LitmusParts. -/
import Derived.Test.YtbocpjogbjacaaaGliti
import Derived.Test.YtbocpjogbjacaaaGlitj
import Derived.Test.YtbocpjogbjacaaaW11
set_option linter.unusedVariables false
set_option linter.unusedSimpArgs false
namespace Go.Proofs.Ytbocpjogbjacaaa
open Go Go.Sl Go.Proofs.Try

theorem Weaker.see {N k : Nat} {t t' : List (Nat × V)} {H : Heap} (h : ∀ p ∈ t', SeenAs (Sl.get t p.1) p.2) : Weaker ⟨N, t, H, k⟩ ⟨N, t', H, k⟩ :=
  ⟨fun F ι a w hh => ⟨ι, ⟨hh.defers, hh.size, fun i => by
    rcases get_mem t' i with e | hm
    · simp only []; rw [e]; exact .any _
    · exact h _ hm _ _ _ _ (hh.tmps i), hh.rep, hh.fresh⟩, Ext.refl _ _ _ _ _⟩⟩
theorem few_names {t : Tst} : ∀ l ∈ (few t).locs, l.name.size ≤ 1000000 := fun l hl => by
  obtain ⟨x, _, rfl⟩ := List.mem_map.1 hl
  exact Nat.le_trans (cutS_le _ _) (by omega)
def badTh (T : Tst) (th : Int) : Bool := decide (th < 0) || (decide ((T.ths.length : Int) ≤ th) || decide ((T.ths.getD th.toNat []).length = 0))
def skB (l : List Ins) (i : Nat) (x : Ins) : Bool := decide (x.skip = (l.length : Int) - 1 - i) && decide (0 < x.skip)
theorem thrs_set (l : List (List Ins)) (n : Nat) (x : List Ins) : (thrs l).set n (.ro 13 (inss x)) = thrs (l.set n x) := (List.map_set ..).symm
theorem see_plain (t : Tst) : SeenAs (.rp [.ro 2 (inis t.locs), .ro 1 (thrs t.ths), .val (.slice none 0 0)] 0) (.rp (plainT t).cs 0) :=
  seen_rp (.cons (SeenAs.refl _) (.cons (SeenAs.refl _) (.cons (seen_nil 3) .nil))) rfl

set_option maxRecDepth 100000 in
set_option maxHeartbeats 16000000 in
theorem litmusParts_pf (t : Tst) (th : Int) (hs : ∀ l ∈ t.locs, l.name.size ≤ 9223372036854775807) : Pf Try.prog 3 [.agg t.cs, iV th] (bV true) := by
  refine Pf.of_fn (.cons (.agg (nl_tst t)) (.cons (.val _) .nil)) (.val _) ?_
  have hnm : ∀ l ∈ (few t).locs, l.name.size ≤ 1000000 := few_names
  have hfew := few_pf t hs
  generalize few t = T at hnm hfew
  refine fn_in T_ok func3 rfl rfl ntmps3 rfl (by simp) ?_
  refine region_k T_ok (by decide) fun K hK => ?_
  simp [go_sem, Tst.cs]
  refine hK _ ?_; clear hK K
  refine region_k T_ok (by decide) fun K hK => ?_
  simp [go_sem]
  refine call_pf hfew ?_
  simp [go_sem, Tst.cs]
  refine hK _ ?_; clear hK K
  refine seq_k fun K1 hK1 => ?_
  refine Tr.weaken (Weaker.fz (H' := []) (t' := [(1, iV th), (2, .rp T.cs 0)]) 1 0 ?_ ?_ ?_) ?_
  · simp [go_sem, Tst.cs]
  · simp
  · simp
  refine region_k T_ok (by decide) fun K hK => ?_
  simp [go_sem]
  refine call_pf (awake08) ?_
  simp [go_sem]
  refine call_pf (Check_pf T hnm) ?_
  simp [go_sem]
  refine hK _ ?_; clear hK K
  refine cond_k rfl (fun h => ?_) (fun h => ?_)
  · skip
    refine region_k T_ok (by decide) fun K hK => ?_
    simp [go_sem]
    refine call_pf (awake08) ?_
    simp [go_sem]
    refine hK _ ?_; clear hK K
    refine tr_ret ⟨.inr rfl, ?_⟩
    simp [go_sem]
  · have hc : chkErr T = 0 := by simpa using h
    have hpl := plain_good hc
    refine tr_skip ?_
    refine hK1 _ ?_; try clear hK1 K1
    refine region_k T_ok (by decide) fun K hK => ?_
    simp [go_sem, Tst.cs]
    refine hK _ ?_; clear hK K
    refine region_k T_ok (by decide) fun K hK => ?_
    simp [go_sem, Tst.cs]
    refine hK _ ?_; clear hK K
    refine seq_k fun K2 hK2 => ?_
    refine Tr.weaken (Weaker.fz (H' := []) (t' := [(1, iV th), (2, .rp T.cs 0), (5, .rp [.ro 2 (inis T.locs), .ro 1 (thrs T.ths), .val (.slice none 0 0)] 0)]) 1 0 ?_ ?_ ?_) ?_
    · simp [go_sem, Tst.cs]
    · simp
    · simp
    refine Tr.weaken (Weaker.see (t' := [(1, iV th), (2, .rp T.cs 0), (5, .rp (plainT T).cs 0)]) ?_) ?_
    · intro p hp
      simp only [List.mem_cons, List.not_mem_nil, or_false] at hp
      rcases hp with rfl | rfl | rfl
      · exact SeenAs.refl _
      · exact SeenAs.refl _
      · exact see_plain T
    refine region_k T_ok (by decide) fun K hK => ?_
    simp [go_sem]
    refine call_pf (Check_pf (plainT T) hnm) ?_
    simp [go_sem]
    refine hK _ ?_; clear hK K
    refine cond_k rfl (fun h => ?_) (fun h => ?_)
    · rw [hpl] at h
      simp at h
    · clear h
      refine tr_skip ?_
      refine hK2 _ ?_; try clear hK2 K2
      refine seq_to ⟨110, [(1, iV th), (2, .rp T.cs 0), (5, .rp (plainT T).cs 0)], [], 10⟩ ?_ ?_
      · skip
        refine region_k T_ok (by decide) fun K hK => ?_
        simp [go_sem, Tst.cs]
        refine hK _ ?_; clear hK K
        refine cond_k rfl (fun h => ?_) (fun h => ?_)
        · simp at h
          have hgt : 1 < T.ths.length := by omega
          have hls := less_good hc hgt
          have hw1 : IntKind.i64.wrap ((T.ths.length : Int) - 1) = ((T.ths.length - 1 : Nat) : Int) := by rw [wrap_i64 (by omega) (by have := (sizeErr_zero (chkErr_zero.1 hc).1).2.1; omega)]; omega
          have hw2 : ((T.ths.length - 1 : Nat) : Int) ≤ (T.ths.length : Nat) := by omega
          have hw3 : T.ths.length - 1 ≤ T.ths.length := by omega
          have hw4 : (0 : Int) ≤ ((T.ths.length - 1 : Nat) : Int) := by omega
          refine region_k T_ok (by decide) fun K hK => ?_
          simp [go_sem, Tst.cs, plainT]
          refine hK _ ?_; clear hK K
          refine region_k T_ok (by decide) fun K hK => ?_
          simp [go_sem, Tst.cs, plainT, hw1, hw2, hw3, hw4]
          refine hK _ ?_; clear hK K
          refine Tr.weaken (Weaker.fz (H' := []) (t' := [(1, iV th), (2, .rp T.cs 0), (5, .rp (plainT T).cs 0), (6, .rp (lessT T).cs 0)]) 1 0 ?_ ?_ ?_) ?_
          · simp [go_sem, Tst.cs, lessT, plainT]
          · simp
          · simp
          refine region_k T_ok (by decide) fun K hK => ?_
          simp [go_sem]
          refine call_pf (Check_pf (lessT T) hnm) ?_
          simp [go_sem]
          refine hK _ ?_; clear hK K
          refine cond_k rfl (fun h => ?_) (fun h => ?_)
          · rw [hls] at h
            simp at h
          · clear h
            refine tr_skip ?_
            refine Weaker.fzk 1 0 (by omega) ?_ ?_ ?_
            · simp [go_sem, Tst.cs, plainT]
            · first | (simp; done) | (simp; omega)
            · simp [go_sem, Tst.cs, plainT]
        · skip
          refine tr_skip ?_
          refine Weaker.fzk 1 0 (by omega) ?_ ?_ ?_
          · simp [go_sem, Tst.cs, plainT]
          · first | (simp; done) | (simp; omega)
          · simp [go_sem, Tst.cs, plainT]
      · skip
        refine seq_k fun K3 hK3 => ?_
        refine region_to T_ok (by decide) ⟨110, [(1, iV th), (2, .rp T.cs 0), (5, .rp (plainT T).cs 0), (56, bV (badTh T th))], [], 10⟩ ?_ ?_
        · by_cases c1 : th < 0
          · simp [go_sem, c1, Tst.cs]
            refine Weaker.fz 1 0 ?_ ?_ ?_
            · simp [go_sem, c1, badTh, Tst.cs]
            · first | (simp; done) | (simp; omega)
            · simp [go_sem, c1, badTh, Tst.cs]
          · by_cases c2 : (T.ths.length : Int) ≤ th
            · simp [go_sem, c1, c2, Tst.cs]
              refine Weaker.fz 1 0 ?_ ?_ ?_
              · simp [go_sem, c1, c2, badTh, Tst.cs]
              · first | (simp; done) | (simp; omega)
              · simp [go_sem, c1, c2, badTh, Tst.cs]
            · by_cases c3 : (T.ths.getD th.toNat []).length = 0
              · obtain ⟨n, rfl⟩ := Int.eq_ofNat_of_zero_le (show 0 ≤ th by omega)
                obtain ⟨l, hx, hx'⟩ := getAt (show n < T.ths.length by omega)
                have hI : (n : Int) < (T.ths.length : Nat) := by omega
                have hi0 : (0 : Int) ≤ (n : Nat) := by omega
                have h' : n < T.ths.length := by omega
                have hgd : T.ths.getD n [] = l := by simp [List.getD, hx]
                simp only [Int.toNat_natCast, hgd] at c3
                have c3I : (((l.length : Nat) : Int) = 0) = (l.length = 0) := propext (by omega)
                simp [go_sem, c1, c2, c3, Tst.cs, hx, hx', hI, hi0, h', c3I]
                refine Weaker.fz 1 0 ?_ ?_ ?_
                · simp [go_sem, c1, c2, c3, badTh, Tst.cs, hx, hx', hI, hi0, h', c3I]
                · first | (simp; done) | (simp; omega)
                · simp [go_sem, c1, c2, c3, badTh, Tst.cs, hx, hx', hI, hi0, h', c3I]
              · obtain ⟨n, rfl⟩ := Int.eq_ofNat_of_zero_le (show 0 ≤ th by omega)
                obtain ⟨l, hx, hx'⟩ := getAt (show n < T.ths.length by omega)
                have hI : (n : Int) < (T.ths.length : Nat) := by omega
                have hi0 : (0 : Int) ≤ (n : Nat) := by omega
                have h' : n < T.ths.length := by omega
                have hgd : T.ths.getD n [] = l := by simp [List.getD, hx]
                simp only [Int.toNat_natCast, hgd] at c3
                have c3I : (((l.length : Nat) : Int) = 0) = (l.length = 0) := propext (by omega)
                simp [go_sem, c1, c2, c3, Tst.cs, hx, hx', hI, hi0, h', c3I]
                refine Weaker.fz 1 0 ?_ ?_ ?_
                · simp [go_sem, c1, c2, c3, badTh, Tst.cs, hx, hx', hI, hi0, h', c3I]
                · first | (simp; done) | (simp; omega)
                · simp [go_sem, c1, c2, c3, badTh, Tst.cs, hx, hx', hI, hi0, h', c3I]
        · skip
          refine cond_k rfl (fun h => ?_) (fun h => ?_)
          · clear h
            refine region_k T_ok (by decide) fun K hK => ?_
            simp [go_sem]
            refine call_pf (awake08) ?_
            simp [go_sem]
            refine hK _ ?_; clear hK K
            refine tr_ret ⟨.inr rfl, ?_⟩
            simp [go_sem]
          · have hb := h
            clear h
            unfold badTh at hb
            simp only [Bool.or_eq_false_iff, decide_eq_false_iff_not] at hb
            obtain ⟨b1, b2, b3⟩ := hb
            obtain ⟨n, rfl⟩ := Int.eq_ofNat_of_zero_le (show 0 ≤ th by omega)
            obtain ⟨l, hn, hn'⟩ := getAt (show n < T.ths.length by omega)
            have hgd : T.ths.getD n [] = l := by simp [List.getD, hn]
            simp only [Int.toNat_natCast, hgd] at b3
            have nI : (n : Int) < (T.ths.length : Nat) := by omega
            have n0 : (0 : Int) ≤ (n : Nat) := by omega
            have nN : n < T.ths.length := by omega
            have hll : l.length ≤ 8 := (sizeErr_zero (chkErr_zero.1 hc).1).2.2.2.2.1 l (List.mem_of_getElem? hn)
            have hwa : IntKind.i64.wrap ((l.length : Int) - 1) = (l.length : Int) - 1 := wrap_i64 (by omega) (by omega)
            refine tr_skip ?_
            refine hK3 _ ?_; try clear hK3 K3
            refine region_k T_ok (by decide) fun K hK => ?_
            simp [go_sem, Tst.cs, nI, n0, nN, hn, hn']
            refine hK _ ?_; clear hK K
            refine seq_k fun K4 hK4 => ?_
            refine region_k T_ok (by decide) fun K hK => ?_
            simp [go_sem]
            refine hK _ ?_; clear hK K
            refine tr_block ?_
            refine loop_p (α := Nat × Nat) (fun a => ⟨110, [(1, iV (n : Nat)), (2, .rp T.cs 0), (5, .rp (plainT T).cs 0), (7, .ro 13 (inss l)), (63, .ro 13 (inss l)), (64, iV (l.length : Nat)), (65, iV (a.1 : Nat))], [], a.2 + 10⟩) (fun a => a.1 ≤ l.length ∧ ∀ (q : Nat) (y : Ins), q < a.1 → l[q]? = some y → skB l q y = false) (fun a => l.length - a.1) (0, 0) ?_ ?_ ?_
            · exact ⟨by dsimp only; omega, fun q y h => by dsimp only at h; omega⟩
            · refine Weaker.fz 1 0 ?_ ?_ ?_
              · simp [go_sem, Tst.cs, plainT]
              · first | (simp; done) | (simp; omega)
              · simp [go_sem]
            rintro ⟨i, j⟩ ⟨hi, hbr⟩
            dsimp only at hi hbr ⊢
            refine region_k T_ok (by decide) fun K hK => ?_
            simp [go_sem]
            refine hK _ ?_; clear hK K
            refine seq_k fun K5 hK5 => ?_
            refine cond_k rfl (fun h => ?_) (fun h => ?_)
            · simp at h
              have hI := h
              clear h
              have h' : i < l.length := by omega
              obtain ⟨x, hx, hx'⟩ := getAt h'
              have hi0 : (0 : Int) ≤ (i : Nat) := by omega
              have hw : IntKind.i64.wrap ((i : Nat) + 1) = (i : Nat) + 1 := wrap_i64 (by omega) (by omega)
              have hwc : IntKind.i64.wrap ((l.length : Int) - 1 - (i : Int)) = (l.length : Int) - 1 - i := wrap_i64 (by omega) (by omega)
              refine tr_skip ?_
              refine hK5 _ ?_; try clear hK5 K5
              refine seq_k fun K6 hK6 => ?_
              refine tr_block ?_
              refine region_k T_ok (by decide) fun K hK => ?_
              simp [go_sem, hI, hx, hx', hi0, h', insC]
              refine hK _ ?_; clear hK K
              refine region_to T_ok (by decide) ⟨110, [(1, iV (n : Nat)), (2, .rp T.cs 0), (5, .rp (plainT T).cs 0), (7, .ro 13 (inss l)), (63, .ro 13 (inss l)), (64, iV (l.length : Nat)), (65, iV (i : Nat)), (82, bV (skB l i x))], [], j + 11⟩ ?_ ?_
              · by_cases c1 : x.skip = (l.length : Int) - 1 - i
                · by_cases c2 : 0 < x.skip
                  · simp [go_sem, c1, c2, hwa, hwc]
                    refine Weaker.fz 1 0 ?_ ?_ ?_
                    · simp [go_sem, c1, c2, skB]
                    · first | (simp; done) | (simp; omega)
                    · simp [go_sem, c1, c2, skB]
                  · simp [go_sem, c1, c2, hwa, hwc]
                    refine Weaker.fz 1 0 ?_ ?_ ?_
                    · simp [go_sem, c1, c2, skB]
                    · first | (simp; done) | (simp; omega)
                    · simp [go_sem, c1, c2, skB]
                · simp [go_sem, c1, hwa, hwc]
                  refine Weaker.fz 1 0 ?_ ?_ ?_
                  · simp [go_sem, c1, skB]
                  · first | (simp; done) | (simp; omega)
                  · simp [go_sem, c1, skB]
              · skip
                refine cond_k rfl (fun h => ?_) (fun h => ?_)
                · clear h
                  refine region_k T_ok (by decide) fun K hK => ?_
                  simp [go_sem]
                  refine call_pf (awake08) ?_
                  simp [go_sem]
                  refine hK _ ?_; clear hK K
                  refine tr_ret ⟨.inr rfl, ?_⟩
                  simp [go_sem]
                · have hk : skB l i x = false := h
                  refine tr_skip ?_
                  refine hK6 _ ?_; try clear hK6 K6
                  refine region_e T_ok (by decide) fun K hK => ?_
                  simp [go_sem, hw]
                  refine hK _ ?_; clear hK K
                  refine ⟨(i + 1, j + 1), ?_, ?_, ?_⟩
                  · refine ⟨by dsimp only; omega, fun q y hq hy => ?_⟩
                    dsimp only at hq
                    by_cases e : q = i
                    · subst e; rw [hx] at hy; cases hy; exact hk
                    · exact hbr q y (by omega) hy
                  · dsimp only; omega
                  · refine Weaker.fz 1 0 ?_ ?_ ?_
                    · simp [go_sem]
                    · first | (simp; done) | (simp; omega)
                    simp [go_sem]
            · simp at h
              obtain rfl : i = l.length := by omega
              have hsg := short_good hc hn (fun q y hy => by have h9 := hbr q y (List.getElem?_eq_some_iff.1 hy).1 hy; unfold skB at h9; simp at h9; omega)
              have hev := short_events hn
              have hge : (0 : Int) ≤ (l.length : Int) - 1 := by omega
              have hle : (l.length : Int) - 1 ≤ (l.length : Nat) := by omega
              have hwt : ((l.length : Int) - 1).toNat = l.length - 1 := by omega
              have hle2 : l.length - 1 ≤ l.length := by omega
              have htk : (T.ths.set n (l.take (l.length - 1))).take T.ths.length = T.ths.set n (l.take (l.length - 1)) := List.take_of_length_le (by simp)
              have zS := sizeErr_zero (chkErr_zero.1 hsg).1
              have zT := sizeErr_zero (chkErr_zero.1 hc).1
              refine tr_exit ?_
              refine hK4 _ ?_; try clear hK4 K4
              refine region_k T_ok (by decide) fun K hK => ?_
              simp [go_sem, Tst.cs, plainT]
              refine hK _ ?_; clear hK K
              refine region_k T_ok (by decide) fun K hK => ?_
              simp [go_sem, Tst.cs, plainT]
              refine ⟨by omega, ?_⟩
              refine hK _ ?_; clear hK K
              refine draw_k T_ok (by kernel_rfl) 8 [[], [0], [], [], [], [4], [4, 5], [3, 4, 5, 6], [0, 1, 2, 3, 4, 5, 6, 7], [0, 1, 2, 3, 4, 5, 6, 7, 8]] [] (by decide) (by decide) (by decide) fun K hK => ?_
              first | dsimp only [List.take, List.drop] | dsimp [List.take, List.drop]
              simp [go_sem, hwa, hge, hle, hwt, hle2, nI, n0, nN, thrs_set]
              refine ⟨by omega, ?_⟩
              refine hK _ ?_; clear hK K
              refine Tr.weaken (Weaker.fz (H' := []) (t' := [(2, .rp T.cs 0), (10, .rp (shortT T n l).cs 0)]) 2 0 ?_ ?_ ?_) ?_
              · simp [go_sem, Tst.cs, shortT, plainT, thrs_set, htk]
              · simp
              · simp
              refine region_k T_ok (by decide) fun K hK => ?_
              simp [go_sem]
              refine call_pf (awake08) ?_
              simp [go_sem]
              refine call_pf (Check_pf (shortT T n l) hnm) ?_
              simp [go_sem, hsg]
              refine call_pf (events_pf (shortT T n l) (by have := zS.2.1; omega) (fun x hx => by have := zS.2.2.2.2.1 x hx; omega) (by have := zS.2.2.2.2.2; omega)) ?_
              simp [go_sem]
              refine call_pf (events_pf T (by have := zT.2.1; omega) (fun x hx => by have := zT.2.2.2.2.1 x hx; omega) (by have := zT.2.2.2.2.2; omega)) ?_
              simp [go_sem, hev]
              refine hK _ ?_; clear hK K
              refine tr_ret ⟨.inr rfl, ?_⟩
              simp [go_sem]

end Go.Proofs.Ytbocpjogbjacaaa
