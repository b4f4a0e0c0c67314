/- Flow: the walk of the law's awake, and of FlowStraight. -/
import Derived.Test.YtokdphmnlcmbbaaGflog
import Derived.Test.YtokdphmnlcmbbaaSl21
import Derived.KernelRfl
set_option linter.unusedVariables false
set_option linter.unusedSimpArgs false
namespace Go.Proofs.Ytokdphmnlcmbbaa
open Go Go.Sl Go.Proofs.Try

def tA : Tst := { locs := [⟨⟨#[120]⟩, 0⟩, ⟨⟨#[121]⟩, 0⟩], ths := [[{ zI with op := 9 }, { zI with op := 16, aR := true, bN := 1, skip := 1 }, { zI with op := 10, loc := 1, aR := true }]], asks := [] }
theorem tA_len : ∀ x ∈ tA.ths, x.length ≤ 1000 := fun x hx => by simp [tA] at hx; subst hx; decide
theorem tA_ok : ∀ l ∈ tA.ths, ∀ x ∈ l, InsOk x := fun l hl x hx => by
  simp [tA] at hl; subst hl
  simp at hx
  rcases hx with rfl | rfl | rfl <;> exact ⟨by decide, by decide, by decide, by decide, by decide, by decide⟩
theorem see_asks (a b : List V) : SeenAs (.rp [.ro 2 a, .ro 1 b, .val (.slice none 0 0)] 0) (.rp [.ro 2 a, .ro 1 b, .ro 3 []] 0) :=
  seen_rp (.cons (SeenAs.refl _) (.cons (SeenAs.refl _) (.cons (seen_nil 3) .nil))) rfl
def fA : Os' := flowOf tA [⟨true, 2⟩, ⟨false, 0⟩] [false, false]
def fB : Os' := flowOf tA [⟨false, 0⟩, ⟨false, 0⟩] [false, false]
theorem flow_A : Pf Try.prog 10 [.rp tA.cs 0, .ro 2 (vls [⟨true, 2⟩, ⟨false, 0⟩]), .ro 1 (bVs [false, false])] (.rp fA.cs 0) := flow_pf tA (by decide) tA_len tA_ok _ _ (by decide) (by decide)
theorem flow_B : Pf Try.prog 10 [.rp tA.cs 0, .ro 2 (vls [⟨false, 0⟩, ⟨false, 0⟩]), .ro 1 (bVs [false, false])] (.rp fB.cs 0) := flow_pf tA (by decide) tA_len tA_ok _ _ (by decide) (by decide)
theorem fA_state : fA.f.state = [1, 1] := by decide +kernel
theorem fA_write : fA.f.write = [⟨false, 0⟩, ⟨true, 2⟩] := by decide +kernel
theorem fA_value : fA.f.value = [0, 1] := by decide +kernel
theorem fA_path : fA.f.path = [0, 1] := by decide +kernel
theorem fA_whole : fA.whole = true := by decide +kernel
theorem fB_state : fB.f.state = [1, 0] := by decide +kernel
theorem fB_whole : fB.whole = false := by decide +kernel
theorem exA : ∃ s : Os', Pf Try.prog 10 [.rp tA.cs 0, .ro 2 (vls [⟨true, 2⟩, ⟨false, 0⟩]), .ro 1 (bVs [false, false])] (.rp s.cs 0) ∧ s.f.state = [1, 1] ∧ s.f.write = [⟨false, 0⟩, ⟨true, 2⟩] ∧ s.f.value = [0, 1] ∧ s.f.path = [0, 1] ∧ s.whole = true := ⟨fA, flow_A, fA_state, fA_write, fA_value, fA_path, fA_whole⟩
theorem exB : ∃ s : Os', Pf Try.prog 10 [.rp tA.cs 0, .ro 2 (vls [⟨false, 0⟩, ⟨false, 0⟩]), .ro 1 (bVs [false, false])] (.rp s.cs 0) ∧ s.f.state = [1, 0] ∧ s.whole = false := ⟨fB, flow_B, fB_state, fB_whole⟩

set_option maxRecDepth 100000 in
set_option maxHeartbeats 8000000 in
theorem awake13  : Pf Try.prog 7 [] (bV true) := by
  obtain ⟨fA, flow_A, fA_state, fA_write, fA_value, fA_path, fA_whole⟩ := exA
  obtain ⟨fB, flow_B, fB_state, fB_whole⟩ := exB
  refine Pf.of_fn .nil (.val _) ?_
  refine fn_in T_ok func7 rfl rfl ntmps7 rfl (by simp) ?_
  refine region_k T_ok (by decide) fun K hK => ?_
  simp [go_sem]
  refine hK _ ?_; clear hK K
  refine region_k T_ok (by decide) fun K hK => ?_
  simp [go_sem]
  refine hK _ ?_; clear hK K
  refine Tr.weaken (Weaker.fz (H' := []) (t' := [(1, .rp [.ro 2 (inis tA.locs), .ro 1 (thrs tA.ths), .val (.slice none 0 0)] 0)]) 3 0 ?_ ?_ ?_) ?_
  · simp [go_sem, tA, inis, iniC, Ini.cs, thrs, inss, insC, Ins.cs, zI]
  · simp
  · simp
  refine Tr.weaken (Weaker.seen (t' := [(1, .rp tA.cs 0)]) (seen_all (.cons (see_asks _ _) .nil))) ?_
  refine region_k T_ok (by decide) fun K hK => ?_
  simp [go_sem]
  refine call_fz [] [.rp tA.cs 0, .ro 2 (vls [⟨true, 2⟩, ⟨false, 0⟩]), .ro 1 (bVs [false, false])] 1 0 flow_A (by simp [go_sem, vls, vlC, bVs]) (by simp) (by simp) ?_
  simp [go_sem]
  refine hK _ ?_; clear hK K
  refine draw_k T_ok (by kernel_rfl) 2 [[], [], [0, 1], [0, 1, 2]] [(0, 1)] (by decide) (by decide) (by decide) fun K hK => ?_
  first | dsimp only [List.take, List.drop] | dsimp [List.take, List.drop]
  simp [go_sem]
  refine call_fz [] [.rp tA.cs 0, .ro 2 (vls [⟨false, 0⟩, ⟨false, 0⟩]), .ro 1 (bVs [false, false])] 1 0 flow_B (by simp [go_sem, vls, vlC, bVs]) (by simp) (by simp) ?_
  simp [go_sem]
  refine hK _ ?_; clear hK K
  refine seq_k fun K1 hK1 => ?_
  refine region_k T_ok (by decide) fun K hK => ?_
  simp [go_sem, Os'.cs, fA_state, fA_write, fA_value, fA_path, fA_whole, fB_state, fB_whole, iVs, vls, vlC, uVs]
  refine hK _ ?_; clear hK K
  refine cond_k rfl (fun h => ?_) (fun h => ?_)
  · simp at h
  · clear h
    refine tr_skip ?_
    refine hK1 _ ?_; try clear hK1 K1
    refine reg_start ?_
    refine reg_cut T_ok 26 [(2, .rp fA.cs 0), (3, .rp fB.cs 0), (71, bV true)] [] (8) (by decide) ?_ ?_
    · dsimp only [List.take, List.drop]
      simp [go_sem, Os'.cs, fA_state, fA_write, fA_value, fA_path, fA_whole, fB_state, fB_whole, iVs, vls, vlC, uVs]
      refine Weaker.fz 1 0 ?_ ?_ ?_
      · simp [go_sem]
      · first | (simp; done) | (simp; omega)
      · simp [go_sem]
    refine reg_cut T_ok 15 [(2, .rp fA.cs 0), (3, .rp fB.cs 0), (86, bV true)] [] (8) (by decide) ?_ ?_
    · dsimp only [List.take, List.drop]
      simp [go_sem, Os'.cs, fA_state, fA_write, fA_value, fA_path, fA_whole, fB_state, fB_whole, iVs, vls, vlC, uVs]
      refine Weaker.fz 1 0 ?_ ?_ ?_
      · simp [go_sem]
      · first | (simp; done) | (simp; omega)
      · simp [go_sem]
    refine reg_end T_ok (by decide) fun K hK => ?_
    dsimp only [List.take, List.drop]
    simp [go_sem, Os'.cs, fA_state, fA_write, fA_value, fA_path, fA_whole, fB_state, fB_whole, iVs, vls, vlC, uVs]
    refine hK _ ?_; clear hK K
    refine tr_ret ⟨.inr rfl, ?_⟩
    simp [go_sem]

end Go.Proofs.Ytokdphmnlcmbbaa
