/- The law RvwmoTso: whatever test it is given it returns true, and what it was given reads as it did. No condition. -/
import Derived.KernelRfl
import Derived.Test.YtmpbalepefpllaaGreatD9
open List
set_option maxRecDepth 100000
set_option maxHeartbeats 16000000
set_option linter.unusedVariables false
set_option linter.unusedSimpArgs false
namespace Go.Proofs.YtmpbalepefpllaaGreat
open Go Go.Sl Go.Proofs.Tryz
theorem Wm_ (os : Os) (started : os.Started) (H : Type) (enc : TypeId × Value → H) :
    ReturnsInHanded {} Tryz.checked os 8 .any (Rows.rvwmoTsoSpec.pre6 enc Tryz.prog Tryz.f8 Rows.rvwmoTsoRow.domain false) (Rows.rvwmoTsoSpec.post enc Tryz.prog Tryz.f8 false true false false):=by
  refine zFm (C:=Tryz.checked) (rt:=4) zIn started (by kernel_rfl) Tryz.func8 zIo (by kernel_rfl) (by kernel_rfl) Tryz.underlying4 rfl ?_
    (ChangeSpec.witness6 (enc:=enc) (C:=Tryz.checked) false ⟨#[],#[.agg #[.slice none 0 0,.slice none 0 0,.slice none 0 0]],[]⟩ 16 (by kernel_rfl) (by kernel_rfl) (by kernel_rfl) (by kernel_rfl))
    (α:=Tst × Unit) (ok:=fun a=>(zfj a.1/\X5_ a.1)/\True) (g:=fun a=>[.agg a.1.cs]) ?_ ?_
  . intro H ds hds
    have:Tryz.f8.params.size=1:=by kernel_rfl
    rw [this] at hds
    match ds,hds with
    | [_],_=>rfl
  . rw [Tryz.params8]
    exact zOm (by rw [Tryz.underlying26]) zPy zOl
  rintro ⟨t,_⟩ ⟨⟨ht,hw⟩,_⟩
  exact zC9 t ht hw
theorem zil {a b:Bool} (ha:a=true) (hb:b=true):(a&&b)=true:=by rw [ha,hb];rfl
theorem Wn_:joinedFacts Tryz.pinned.checked.prog 8 Tryz.f8 Rows.rvwmoTsoSpec Rows.rvwmoTsoRow=true:=by
 unfold joinedFacts
 repeat' with_reducible refine zil ?_ ?_
 all_goals (as_aux_lemma=>kernel_rfl)
theorem U8_:Rows.rvwmoTsoRow.holds Tryz.pinned (OpenSpec.ofChange Rows.rvwmoTsoSpec) :=
 OpenClaim.holds_of_wide 8 Tryz.f8 rfl rfl rfl rfl rfl rfl rfl ⟨rfl,rfl,rfl,rfl,rfl⟩ rfl rfl rfl rfl rfl (by kernel_rfl) Tryz.func8 Wn_
  (of_decide_eq_true (by kernel_rfl)) (by unfold Func.isWrapper;first|(rw [if_pos (by decide +kernel)];kernel_rfl)|(rw [if_neg (by decide +kernel)];exact ⟨rfl,rfl⟩))
  (fun os started H enc _=>Wm_ os started H enc)
theorem rvwmoTso_holds:Rows.RvwmoTsoSaid:=U8_
#print axioms rvwmoTso_holds
end Go.Proofs.YtmpbalepefpllaaGreat
