/- Flow: the walk of FlowStraight. -/
import Derived.Test.YtokdphmnlcmbbaaGfloh
import Derived.KernelRfl
set_option linter.unusedVariables false
set_option linter.unusedSimpArgs false
namespace Go.Proofs.Ytokdphmnlcmbbaa
open Go Go.Sl Go.Proofs.Try

def tS (v w : Int) : Tst := { locs := [⟨⟨#[120]⟩, 0⟩], ths := [[{ zI with op := 1, rd := 1, aN := v }, { zI with op := 2, rd := 1, aR := true, aN := 1, bN := w }, { zI with op := 13, rd := 2 }, { zI with op := 14, rd := 3, aR := true, aN := 1 }, { zI with op := 12, rd := 4, aR := true, aN := 1 }]], asks := [] }
theorem tS_len (v w : Int) : ∀ x ∈ (tS v w).ths, x.length ≤ 1000 := fun x hx => by simp [tS] at hx; subst hx; simp
theorem tS_ok (v w : Int) : ∀ l ∈ (tS v w).ths, ∀ x ∈ l, InsOk x := fun l hl x hx => by
  simp [tS] at hl; subst hl
  simp at hx
  rcases hx with rfl | rfl | rfl | rfl | rfl <;> exact ⟨by simp [zI], by simp [zI], by simp [zI], by simp [zI], by simp [zI], by simp [zI]⟩
def rS : List Vl := [⟨true, 5⟩, ⟨false, 0⟩, ⟨true, 7⟩]
theorem flow_S (v w : Int) (b : Bool) : Pf Try.prog 10 [.rp (tS v w).cs 0, .ro 2 (vls rS), .ro 1 (bVs [false, b, false])] (.rp (flowOf (tS v w) rS [false, b, false]).cs 0) := flow_pf (tS v w) (by simp [tS]) (tS_len v w) (tS_ok v w) _ _ (show 3 ≤ 3 by decide) (show 3 ≤ 3 by decide)
theorem exS (v w : Int) (b : Bool) : ∃ (s : Os') (st1 : Int) (w1 : Vl) (r3 : Int) (g : Nat → Vl), Pf Try.prog 10 [.rp (tS v w).cs 0, .ro 2 (vls rS), .ro 1 (bVs [false, b, false])] (.rp s.cs 0) ∧ s.f.state = [1, st1, 1] ∧ s.f.pair = [0, 1, 0] ∧ s.f.write = [⟨false, 0⟩, w1, ⟨true, IntKind.u64.wrap (IntKind.u64.wrap (v + w) + 7)⟩] ∧
    s.regs = [g] ∧ g 2 = ⟨true, 5⟩ ∧ g 4 = ⟨true, 7⟩ ∧ g 3 = ⟨true, r3⟩ ∧ s.whole = true ∧ (b = true → st1 = 1 ∧ w1 = ⟨true, IntKind.u64.wrap (v + w)⟩ ∧ r3 = 0) ∧ (b = false → st1 = 2 ∧ w1 = ⟨false, 0⟩ ∧ r3 = 1) := by
  cases b
  · exact ⟨_, 2, ⟨false, 0⟩, 1, _, flow_S v w false, by kernel_rfl, by kernel_rfl, by kernel_rfl, rfl, by kernel_rfl, by kernel_rfl, by kernel_rfl, by kernel_rfl, by simp, by simp⟩
  · exact ⟨_, 1, ⟨true, IntKind.u64.wrap (v + w)⟩, 0, _, flow_S v w true, by kernel_rfl, by kernel_rfl, by kernel_rfl, rfl, by kernel_rfl, by kernel_rfl, by kernel_rfl, by kernel_rfl, by simp, by simp⟩
theorem rv2 (g : Nat → Vl) : partV false 1 (regsC g) 5 = uV (g 2).v := Eq.trans rfl rfl
theorem rv3 (g : Nat → Vl) : partV false 1 (regsC g) 7 = uV (g 3).v := Eq.trans rfl rfl
theorem rv4 (g : Nat → Vl) : partV false 1 (regsC g) 9 = uV (g 4).v := Eq.trans rfl rfl

set_option maxRecDepth 100000 in
set_option maxHeartbeats 8000000 in
theorem flowStraight_pf (v w : Int) (b : Bool) : Pf Try.prog 4 [uV v, uV w, bV b] (bV true) := by
  obtain ⟨s, st1, w1, r3, g, hpf, hst, hpa, hwr, hrg, hg2, hg4, hg3, hwh, hT, hF⟩ := exS v w b
  refine Pf.of_fn (.cons (.val _) (.cons (.val _) (.cons (.val _) .nil))) (.val _) ?_
  refine fn_in T_ok func4 rfl rfl ntmps4 rfl (by simp) ?_
  refine region_k T_ok (by decide) fun K hK => ?_
  simp [go_sem]
  refine hK _ ?_; clear hK K
  refine region_k T_ok (by decide) fun K hK => ?_
  simp [go_sem]
  refine hK _ ?_; clear hK K
  refine region_k T_ok (by decide) fun K hK => ?_
  simp [go_sem]
  refine hK _ ?_; clear hK K
  refine Tr.weaken (Weaker.fz (H' := []) (t' := [(0, uV v), (1, uV w), (2, bV b), (8, .rp [.ro 2 (inis (tS v w).locs), .ro 1 (thrs (tS v w).ths), .val (.slice none 0 0)] 0)]) 3 0 ?_ ?_ ?_) ?_
  · simp [go_sem, tS, inis, iniC, Ini.cs, thrs, inss, insC, Ins.cs, zI]
  · simp
  · simp
  refine Tr.weaken (Weaker.seen (t' := [(0, uV v), (1, uV w), (2, bV b), (8, .rp (tS v w).cs 0)]) (seen_all (.cons (SeenAs.refl _) (.cons (SeenAs.refl _) (.cons (SeenAs.refl _) (.cons (see_asks _ _) .nil)))))) ?_
  refine region_k T_ok (by decide) fun K hK => ?_
  simp [go_sem]
  refine call_fz [] [.rp (tS v w).cs 0, .ro 2 (vls rS), .ro 1 (bVs [false, b, false])] 1 0 hpf (by simp [go_sem, vls, vlC, bVs, rS]) (by simp) (by simp) ?_
  simp [go_sem]
  refine hK _ ?_; clear hK K
  refine seq_k fun K1 hK1 => ?_
  refine region_k T_ok (by decide) fun K hK => ?_
  simp [go_sem, Os'.cs, hst, hpa, hwr, hrg, hg2, hg3, hg4, hwh, iVs, vls, vlC, uVs, regsRows, rv2, rv3, rv4]
  refine hK _ ?_; clear hK K
  refine cond_k rfl (fun h => ?_) (fun h => ?_)
  · simp at h
  · clear h
    refine tr_skip ?_
    refine hK1 _ ?_; try clear hK1 K1
    refine seq_k fun K2 hK2 => ?_
    refine reg_start ?_
    refine reg_cut T_ok 21 [(0, uV v), (1, uV w), (2, bV b), (9, .rp s.cs 0), (72, bV false)] [] (7) (by decide) ?_ ?_
    · dsimp only [List.take, List.drop]
      simp [go_sem, Os'.cs, hst, hpa, hwr, hrg, hg2, hg3, hg4, hwh, iVs, vls, vlC, uVs, regsRows, rv2, rv3, rv4]
      refine Weaker.fz 1 0 ?_ ?_ ?_
      · simp [go_sem]
      · first | (simp; done) | (simp; omega)
      · simp [go_sem]
    refine reg_cut T_ok 11 [(0, uV v), (1, uV w), (2, bV b), (9, .rp s.cs 0), (83, bV false)] [] (7) (by decide) ?_ ?_
    · dsimp only [List.take, List.drop]
      simp [go_sem, Os'.cs, hst, hpa, hwr, hrg, hg2, hg3, hg4, hwh, iVs, vls, vlC, uVs, regsRows, rv2, rv3, rv4]
      refine Weaker.fz 1 0 ?_ ?_ ?_
      · simp [go_sem]
      · first | (simp; done) | (simp; omega)
      · simp [go_sem]
    refine reg_end T_ok (by decide) fun K hK => ?_
    dsimp only [List.take, List.drop]
    simp [go_sem, Os'.cs, hst, hpa, hwr, hrg, hg2, hg3, hg4, hwh, iVs, vls, vlC, uVs, regsRows, rv2, rv3, rv4]
    refine hK _ ?_; clear hK K
    refine cond_k rfl (fun h => ?_) (fun h => ?_)
    · simp at h
    · clear h
      refine tr_skip ?_
      refine hK2 _ ?_; try clear hK2 K2
      refine seq_k fun K3 hK3 => ?_
      refine region_k T_ok (by decide) fun K hK => ?_
      simp [go_sem]
      refine hK _ ?_; clear hK K
      refine cond_k rfl (fun h => ?_) (fun h => ?_)
      · have hB : b = true := by simpa using h
        obtain ⟨rfl, rfl, rfl⟩ := hT hB
        refine reg_start ?_
        refine reg_cut T_ok 10 [(0, uV v), (1, uV w), (2, bV b), (9, .rp s.cs 0), (105, bV true)] [] (7) (by decide) ?_ ?_
        · dsimp only [List.take, List.drop]
          simp [go_sem, Os'.cs, hst, hpa, hwr, hrg, hg2, hg3, hg4, hwh, iVs, vls, vlC, uVs, regsRows, rv2, rv3, rv4, hB]
          refine call_pf awake13 ?_
          simp [go_sem, hB, Os'.cs, hst, hpa, hwr, hrg, hg2, hg3, hg4, hwh, iVs, vls, vlC, uVs, regsRows, rv2, rv3, rv4]
          refine Weaker.fz 1 0 ?_ ?_ ?_
          · simp [go_sem]
          · first | (simp; done) | (simp; omega)
          · simp [go_sem]
        refine reg_cut T_ok 13 [(0, uV v), (1, uV w), (2, bV b), (9, .rp s.cs 0), (118, bV true)] [] (7) (by decide) ?_ ?_
        · dsimp only [List.take, List.drop]
          simp [go_sem, Os'.cs, hst, hpa, hwr, hrg, hg2, hg3, hg4, hwh, iVs, vls, vlC, uVs, regsRows, rv2, rv3, rv4, hB]
          refine Weaker.fz 1 0 ?_ ?_ ?_
          · simp [go_sem]
          · first | (simp; done) | (simp; omega)
          · simp [go_sem]
        refine reg_end T_ok (by decide) fun K hK => ?_
        dsimp only [List.take, List.drop]
        simp [go_sem, Os'.cs, hst, hpa, hwr, hrg, hg2, hg3, hg4, hwh, iVs, vls, vlC, uVs, regsRows, rv2, rv3, rv4, hB]
        refine hK _ ?_; clear hK K
        refine tr_ret ⟨.inr rfl, ?_⟩
        simp [go_sem]
      · have hB : b = false := by simpa using h
        obtain ⟨rfl, rfl, rfl⟩ := hF hB
        refine tr_skip ?_
        refine hK3 _ ?_; try clear hK3 K3
        refine reg_start ?_
        refine reg_cut T_ok 10 [(0, uV v), (1, uV w), (2, bV b), (9, .rp s.cs 0), (139, bV true)] [] (7) (by decide) ?_ ?_
        · dsimp only [List.take, List.drop]
          simp [go_sem, Os'.cs, hst, hpa, hwr, hrg, hg2, hg3, hg4, hwh, iVs, vls, vlC, uVs, regsRows, rv2, rv3, rv4, hB]
          refine call_pf awake13 ?_
          simp [go_sem, hB, Os'.cs, hst, hpa, hwr, hrg, hg2, hg3, hg4, hwh, iVs, vls, vlC, uVs, regsRows, rv2, rv3, rv4]
          refine Weaker.fz 1 0 ?_ ?_ ?_
          · simp [go_sem]
          · first | (simp; done) | (simp; omega)
          · simp [go_sem]
        refine reg_cut T_ok 10 [(0, uV v), (1, uV w), (2, bV b), (9, .rp s.cs 0), (149, bV true)] [] (7) (by decide) ?_ ?_
        · dsimp only [List.take, List.drop]
          simp [go_sem, Os'.cs, hst, hpa, hwr, hrg, hg2, hg3, hg4, hwh, iVs, vls, vlC, uVs, regsRows, rv2, rv3, rv4, hB]
          refine Weaker.fz 1 0 ?_ ?_ ?_
          · simp [go_sem]
          · first | (simp; done) | (simp; omega)
          · simp [go_sem]
        refine reg_end T_ok (by decide) fun K hK => ?_
        dsimp only [List.take, List.drop]
        simp [go_sem, Os'.cs, hst, hpa, hwr, hrg, hg2, hg3, hg4, hwh, iVs, vls, vlC, uVs, regsRows, rv2, rv3, rv4, hB]
        refine hK _ ?_; clear hK K
        refine tr_ret ⟨.inr rfl, ?_⟩
        simp [go_sem]

end Go.Proofs.Ytokdphmnlcmbbaa
