/- The law RvwmoRuns: whatever test it is given it returns true, and what it was given reads as it did. No condition. -/
import Derived.KernelRfl
import Derived.Test.YtmpbalepefpllaaGreatB9
open List
set_option maxRecDepth 100000
set_option maxHeartbeats 16000000
set_option linter.unusedVariables false
set_option linter.unusedSimpArgs false
namespace Go.Proofs.YtmpbalepefpllaaGreat
open Go Go.Sl Go.Proofs.Tryz
theorem Ym_ (os : Os) (started : os.Started) (H : Type) (enc : TypeId × Value → H) :
    ReturnsInHanded {} Tryz.checked os 9 .any (Rows.rvwmoRunsSpec.pre6 enc Tryz.prog Tryz.f9 Rows.rvwmoRunsRow.domain false) (Rows.rvwmoRunsSpec.post enc Tryz.prog Tryz.f9 false true false false):=by
  refine Wr_ (C:=Tryz.checked) (rt:=4) QG_ started (by kernel_rfl) Tryz.func9 QH_ (by kernel_rfl) (by kernel_rfl) Tryz.underlying4 rfl ?_
    (ChangeSpec.witness6 (enc:=enc) (C:=Tryz.checked) false ⟨#[],#[.agg #[.slice none 0 0,.slice none 0 0,.slice none 0 0]],[]⟩ 16 (by kernel_rfl) (by kernel_rfl) (by kernel_rfl) (by kernel_rfl))
    (α:=Tst × Unit) (ok:=fun a=>(zcf a.1/\Z4_ a.1)/\True) (g:=fun a=>[.agg a.1.cs]) ?_ ?_
  . intro H ds hds
    have:Tryz.f9.params.size=1:=by kernel_rfl
    rw [this] at hds
    match ds,hds with
    | [_],_=>rfl
  . rw [Tryz.params9]
    exact zMq (by rw [Tryz.underlying26]) zO3 zBf
  rintro ⟨t,_⟩ ⟨⟨ht,hw⟩,_⟩
  exact JJ_ t ht hw
theorem zLm {a b:Bool} (ha:a=true) (hb:b=true):(a&&b)=true:=by rw [ha,hb];rfl
theorem Yn_:joinedFacts Tryz.pinned.checked.prog 9 Tryz.f9 Rows.rvwmoRunsSpec Rows.rvwmoRunsRow=true:=by
 unfold joinedFacts
 repeat' with_reducible refine zLm ?_ ?_
 all_goals (as_aux_lemma=>kernel_rfl)
theorem Wg_:Rows.rvwmoRunsRow.holds Tryz.pinned (OpenSpec.ofChange Rows.rvwmoRunsSpec) :=
 OpenClaim.holds_of_wide 9 Tryz.f9 rfl rfl rfl rfl rfl rfl rfl ⟨rfl,rfl,rfl,rfl,rfl⟩ rfl rfl rfl rfl rfl (by kernel_rfl) Tryz.func9 Yn_
  (of_decide_eq_true (by kernel_rfl)) (by unfold Func.isWrapper;first|(rw [if_pos (by decide +kernel)];kernel_rfl)|(rw [if_neg (by decide +kernel)];exact ⟨rfl,rfl⟩))
  (fun os started H enc _=>Ym_ os started H enc)
theorem rvwmoRuns_holds:Rows.RvwmoRunsSaid:=Wg_
#print axioms rvwmoRuns_holds
end Go.Proofs.YtmpbalepefpllaaGreat
