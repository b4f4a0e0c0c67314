/- The law RvwmoAlone: whatever instructions it is given it returns true, and what it was given reads as it did. No condition. -/
import Derived.KernelRfl
import Derived.Test.YtmpbalepefpllaaGreatB9
open List
set_option maxRecDepth 100000
set_option maxHeartbeats 16000000
set_option linter.unusedVariables false
set_option linter.unusedSimpArgs false
namespace Go.Proofs.YtmpbalepefpllaaGreat
open Go Go.Sl Go.Proofs.Tryz
theorem YG_ (os : Os) (started : os.Started) (H : Type) (enc : TypeId × Value → H) :
    ReturnsInHanded {} Tryz.checked os 7 .any (Rows.rvwmoAloneSpec.pre6 enc Tryz.prog Tryz.f7 Rows.rvwmoAloneRow.domain false) (Rows.rvwmoAloneSpec.post enc Tryz.prog Tryz.f7 false true false false):=by
  refine Wr_ (C:=Tryz.checked) (rt:=4) QG_ started (by kernel_rfl) Tryz.func7 QH_ (by kernel_rfl) (by kernel_rfl) Tryz.underlying4 rfl ?_
    (ChangeSpec.witness6 (enc:=enc) (C:=Tryz.checked) false ⟨#[],#[.slice none 0 0],[]⟩ 16 (by kernel_rfl) (by kernel_rfl) (by kernel_rfl) (by kernel_rfl))
    (α:=List Ins × Unit) (ok:=fun a=>(a.1.length<=maxLen/\∀ b∈a.1,J9_ b)/\True) (g:=fun a=>[.ro 13 (W0 a.1)]) ?_ ?_
  . intro H ds hds
    have:Tryz.f7.params.size=1:=by kernel_rfl
    rw [this] at hds
    match ds,hds with
    | [_],_=>rfl
  . rw [Tryz.params7]
    exact zMp (by rw [Tryz.underlying53]) QT_ zBf
  rintro ⟨l,_⟩ ⟨⟨h1,h2⟩,_⟩
  exact Ue_ l h1 h2
theorem zLm {a b:Bool} (ha:a=true) (hb:b=true):(a&&b)=true:=by rw [ha,hb];rfl
theorem YH_:joinedFacts Tryz.pinned.checked.prog 7 Tryz.f7 Rows.rvwmoAloneSpec Rows.rvwmoAloneRow=true:=by
 unfold joinedFacts
 repeat' with_reducible refine zLm ?_ ?_
 all_goals (as_aux_lemma=>kernel_rfl)
theorem WP_:Rows.rvwmoAloneRow.holds Tryz.pinned (OpenSpec.ofChange Rows.rvwmoAloneSpec) :=
 OpenClaim.holds_of_wide 7 Tryz.f7 rfl rfl rfl rfl rfl rfl rfl ⟨rfl,rfl,rfl,rfl,rfl⟩ rfl rfl rfl rfl rfl (by kernel_rfl) Tryz.func7 YH_
  (of_decide_eq_true (by kernel_rfl)) (by unfold Func.isWrapper;first|(rw [if_pos (by decide +kernel)];kernel_rfl)|(rw [if_neg (by decide +kernel)];exact ⟨rfl,rfl⟩))
  (fun os started H enc _=>YG_ os started H enc)
theorem rvwmoAlone_holds:Rows.RvwmoAloneSaid:=WP_
#print axioms rvwmoAlone_holds
end Go.Proofs.YtmpbalepefpllaaGreat
