/- Texts put together, in order: W78, W79, W80, W81, W82, W83, W84, W85, W86, W87, W88, W89, W90, W91, W92, W97, Grvwm, Grvwr. -/
import Derived.KernelRfl
import Derived.Test.YtmpbalepefpllaaGreatD8
open List
set_option maxRecDepth 100000
set_option maxHeartbeats 16000000
set_option linter.unusedVariables false
set_option linter.unusedSimpArgs false
namespace Go.Proofs.YtmpbalepefpllaaGreat
open Go Go.Sl
section
variable {t:Tst} {w:List Bool} {reads:List Vl} {pos:Nat->Nat} {ord:Cs->Rl}
theorem Uz_ (h:(D5 t reads w).whole=true) {k:Nat} (hk:k<nO t):(fxO t reads w k).st≠0:=by
 obtain ⟨p1,_,_,p4⟩:=I5 hk
 exact (R6 hk).2 (zBo (Nat.le_of_lt (List.getElem?_eq_some_iff.1 p1).1) ((e8 t reads w).1 h _ p4).1)
theorem U0_ {i:Nat}:∀ b,(B8 t reads w i b).2=true->(B8 t reads w i b).1.w.lr=0\/∃ q:Nat,(B8 t reads w i b).1.w.lr=(q:Int)+1/\q<nO t/\(opX t q).op=13/\E5 t q=i/\opAt t q<b/\(fxO t reads w q).st=1/\(opX t q).loc=(B8 t reads w i b).1.w.lrLoc
 | 0,_=>.inl rfl
 | b+1,h=>by
  have hp:=W0 h
  have ih:=U0_ b hp
  by_cases hb:b<(lth t i).length
  .have hx:=List.getElem?_eq_getElem hb
   have hat:=JY_ (reads:=reads) (works:=w) hx
   have hno:=J6 hx
   rw [E9 hx,if_pos hp]
   have up:∀ {a c:Int},a=(B8 t reads w i b).1.w.lr->c=(B8 t reads w i b).1.w.lrLoc->a=0\/∃ q:Nat,a=(q:Int)+1/\q<nO t/\(opX t q).op=13/\E5 t q=i/\opAt t q<b+1/\(fxO t reads w q).st=1/\(opX t q).loc=c:=fun e1 e2=>by
    subst e1 e2
    rcases ih with ih|⟨q,h1,h2,h3,h4,h5,h6⟩
    .exact .inl ih
    exact .inr ⟨q,h1,h2,h3,h4,by omega,h6⟩
   generalize hs:(B8 t reads w i b).1=s at *
   unfold N8
   split
   .exact up rfl rfl
   rename_i ho
   split
   .rename_i hm
    obtain ⟨a1,a2,a3⟩:=hat hm hp ho
    obtain ⟨b1,b2,b3,b4⟩:=hno hm
    dsimp only
    unfold O1
    split
    .exact up rfl rfl
    split
    .rename_i h13
     right
     refine ⟨s.k,rfl,by omega,by rw [a2,b2];exact h13,by rw [a2];exact b3,by rw [a2,b4];omega,?_,by rw [a2,b2]⟩
     rw [a2,a3];unfold r6;rw [if_neg (by omega)]
    split
    .exact up rfl rfl
    split
    .exact up rfl rfl
    split
    .unfold x7
     left
     cases w.getD s.k false<;>rfl
    exact up rfl rfl
   split
   .exact up rfl rfl
   dsimp only
   unfold H8
   split
   .exact up rfl rfl
   split<;>exact up rfl rfl
  rw [I0 hb]
  rcases ih with ih|⟨q,h1,h2,h3,h4,h5,h6⟩
  .exact .inl ih
  exact .inr ⟨q,h1,h2,h3,h4,by omega,h6⟩
theorem zBv {k:Nat} (h:(fxO t reads w k).st=1) (hp:(fxO t reads w k).pr≠0):(opX t k).op=14/\∃ q:Nat,(fxO t reads w k).pr=(q:Int)+1/\q<k/\(opX t q).op=13/\E5 t q=E5 t k/\(fxO t reads w q).st=1/\(opX t q).loc=(opX t k).loc:=by
 have hk:=run_lt h
 obtain ⟨h1,ho,h14,e,_⟩:=WY_ hk h
 rw [e] at hp ⊢
 replace hp:(if (opX t k).op=14/\0<(B8 t reads w (E5 t k) (opAt t k)).1.w.lr/\(B8 t reads w (E5 t k) (opAt t k)).1.w.lrLoc=(opX t k).loc then (B8 t reads w (E5 t k) (opAt t k)).1.w.lr else 0)≠0:=hp
 show (opX t k).op=14/\∃ q:Nat,(if (opX t k).op=14/\0<(B8 t reads w (E5 t k) (opAt t k)).1.w.lr/\(B8 t reads w (E5 t k) (opAt t k)).1.w.lrLoc=(opX t k).loc then (B8 t reads w (E5 t k) (opAt t k)).1.w.lr else 0)=(q:Int)+1/\_
 split at hp
 .rename_i hc
  rw [if_pos hc]
  refine ⟨hc.1,?_⟩
  rcases U0_ _ h1 with h0|⟨q,a1,a2,a3,a4,a5,a6,a7⟩
  .omega
  exact ⟨q,a1,(n5 hk a2 a4).2 a5,a3,a4,a6,a7.trans hc.2.2⟩
 exact absurd rfl hp
theorem N9 (hinj:∀ a b,a<nO t->b<nO t->pos a=pos b->a=b) {k i:Nat} (hk:k<nO t) (hi:i<nO t) (h:Vp_ t pos k i=true):i≠k/\wrB (opX t i).op=true/\(opX t i).loc=(opX t k).loc/\(pos i<pos k\/(E5 t i=E5 t k/\i<k)):=by
 unfold Vp_ poA at h
 simp only [Bool.and_eq_true,Bool.or_eq_true,Bool.not_eq_true',decide_eq_false_iff_not,decide_eq_true_eq] at h
 obtain ⟨h1,h2,h3,h4⟩:=h
 refine ⟨h1,h2,h3,?_⟩
 rcases h4 with h4|h4
 .have:pos i≠pos k:=fun e=>h1 (hinj i k hi hk e)
  exact .inl (by omega)
 exact .inr h4
theorem Je_ {k i:Nat} (h1:i≠k) (h2:wrB (opX t i).op=true) (h3:(opX t i).loc=(opX t k).loc) (h4:¬ pos k<pos i\/(E5 t i=E5 t k/\i<k)):Vp_ t pos k i=true:=by
 unfold Vp_ poA
 simp only [Bool.and_eq_true,Bool.or_eq_true,Bool.not_eq_true',decide_eq_false_iff_not,decide_eq_true_eq]
 exact ⟨h1,h2,h3,h4⟩
theorem zF2 {k:Nat} (hk:k<nO t) (d:Int):(frO t w pos).getD k d=frK t pos (G9 t w pos) k:=L8 hk
theorem U1_ {k:Nat} (h:(G9 t w pos k).st=1) (hr:rdB (opX t k).op=true) (d:Int):(frO t w pos).getD k d=(M1 t pos (G9 t w pos) k (nO t):Int)-1:=by
 rw [zF2 (run_lt h)]
 unfold frK
 rw [hr,h];rfl
theorem OrdE.resp (hE:OrdE ord t w pos):zc8 t ord (Jc_ t w pos) w (frO t w pos) pos:=hE.kept
theorem zMn (ht:TG t) (ho:OrdOk t ord) (hE:OrdE ord t w pos) {k:Nat} (hk:(G9 t w pos k).st=1) (hr:rdB (opX t k).op=true):((Jc_ t w pos).getD k zV).k=true:=by
 have key:∀ m k,Wv_ t (Jc_ t w pos) w pos k<m->(G9 t w pos k).st=1->rdB (opX t k).op=true->((Jc_ t w pos).getD k zV).k=true:=fun m=>by
  induction m with
  | zero=>intro k h;exact absurd h (Nat.not_lt_zero _)
  | succ m ih =>
   intro k hm hk hr
   have hkn:=run_lt hk
   have hnx:(nxO t pos (G9 t w pos) k).k=true:=by
    unfold nxO
    have hd:zGn t pos (G9 t w pos) k=true:=XN_.2 fun i hi _=>Uz_ hE.whole hi
    rw [if_pos (show (rdB (opX t k).op&&zGn t pos (G9 t w pos) k)=true by rw [hr,hd];rfl)]
    split
    .rfl
    rename_i hL
    obtain ⟨s1,s2,s3,s4⟩:=(H5 (t:=t) (pos:=pos) (f:=G9 t w pos) (k:=k) (nO t)).2 hL
    have hfr:(frO t w pos).getD k (-1)=((M1 t pos (G9 t w pos) k (nO t)-1:Nat):Int):=by rw [U1_ hk hr];omega
    generalize M1 t pos (G9 t w pos) k (nO t)-1=i at *
    obtain ⟨c1,c2,c3,c4⟩:=N9 hE.inj hkn s1 s2
    have hdep:∀ q,(rdB (opX t q).op=true/\P8 (G9 t w pos i).vl q=true)\/(q=i/\(opX t i).op=12)->Wv_ t (Jc_ t w pos) w pos q<Wv_ t (Jc_ t w pos) w pos k:=fun q hq=>by
     rcases c4 with c4|⟨c4,c5⟩
     .exact Wb_ ht ho hE.resp s3 c2 hkn c4 (hq.elim (fun h=>.inr (.inl h.2)) fun h=>.inr (.inr h.1))
     exact zMf ht ho hE.resp s3 c2 hk hr c4 c5 hfr hq
    refine WZ_ ht s1 c2 s3 (fun q hq hqr=>?_) fun h12 hir=>?_
    .exact ih q (by have:=hdep q (.inl ⟨hqr,hq⟩);omega) (YO_ ht s1 s3 hq).2.2.2 hqr
    exact ih i (by have:=hdep i (.inr ⟨rfl,h12⟩);omega) s3 hir
   have e:(itR t w (nxN t pos) (nO t+1)).getD k zV=nxO t pos (G9 t w pos) k:=L8 hkn
   have hs:=Vo_ (t:=t) (w:=w) (N:=nxN t pos) k
   rw [e] at hs
   show ((itR t w (nxN t pos) (nO t)).getD k zV).k=true
   rw [<-hs hnx];exact hnx
 exact key _ k (Nat.lt_succ_self _) hk hr
def stN (t:Tst) (fr:List Int):Nx t where
 N f k:=if rdB (opX t k).op then (if fr.getD k 0<0 then zi0 t k else if (fr.getD k 0).toNat<nO t/\(f (fr.getD k 0).toNat).st=1 then (f (fr.getD k 0).toNat).wr else zV) else zV
 mono f g h k _:=by
  split
  .split
   .exact le_refl _
   by_cases hc:(fr.getD k 0).toNat<nO t/\(f (fr.getD k 0).toNat).st=1
   .rw [if_pos hc]
    have:=h _ hc.1
    rw [if_pos ⟨hc.1,by rw [this.1 (by rw [hc.2];decide)];exact hc.2⟩]
    exact this.2
   rw [if_neg hc];intro hk;cases hk
  exact le_refl _
theorem zBw (fr:List Int):∀ j,ZM_ t w fr j=D5 t (itR t w (stN t fr) j) w
 | 0=>rfl
 | j+1=>by
  show D5 t (knT t (ZM_ t w fr j).f fr) w=D5 t (tab (nO t) ((stN t fr).N (fxO t (itR t w (stN t fr) j) w))) w
  congr 1
  unfold knT
  congr 1
  funext k
  rw [zBw fr j]
  show (if rdB (opX t k).op then _ else _)=(if rdB (opX t k).op then _ else _)
  split
  .split
   .rfl
   show (if (fxO t (itR t w (stN t fr) j) w (fr.getD k 0).toNat).st=1 then (fxO t (itR t w (stN t fr) j) w (fr.getD k 0).toNat).wr else zV)=_
   by_cases hc:(fxO t (itR t w (stN t fr) j) w (fr.getD k 0).toNat).st=1
   .rw [if_pos hc,if_pos ⟨run_lt hc,hc⟩]
   rw [if_neg hc,if_neg fun h=>hc h.2]
  rfl
theorem zMo (ht:TG t) (ho:OrdOk t ord) (hE:OrdE ord t w pos):ZM_ t w (frO t w pos) (nO t)=flO t w pos:=by
 rw [zBw]
 have key:∀ j,j<=nO t->RLe t w (itR t w (nxN t pos) j) (itR t w (stN t (frO t w pos)) j):=fun j=>by
  induction j with
  | zero=>exact fun _ q _ _=>le_refl _
  | succ j ih =>
   intro hj q hq hrun
   have ih:=ih (by omega)
   have hF:(G9 t w pos q).st=1:=by
    rw [<-hrun]
    exact ((Z0_ (RLe.of (zMc (t:=t) (w:=w) (N:=nxN t pos) (j+1) (nO t) hj)) hq (by omega)).1).symm
   show le ((tab (nO t) (nxO t pos (fxO t (itR t w (nxN t pos) j) w))).getD q zV) ((tab (nO t) ((stN t (frO t w pos)).N (fxO t (itR t w (stN t (frO t w pos)) j) w))).getD q zV)
   rw [L8 hq,L8 hq]
   unfold nxO
   by_cases hc:(rdB (opX t q).op&&zGn t pos (fxO t (itR t w (nxN t pos) j) w) q)=true
   .rw [if_pos hc]
    obtain ⟨c1,c2⟩:=Bool.and_eq_true_iff.1 hc
    obtain ⟨d1,d2⟩:=zEv (Jb_ (RLe.of (zMc (t:=t) (w:=w) (N:=nxN t pos) j (nO t) (by omega)))) c2
    have hfr:(frO t w pos).getD q 0=(M1 t pos (fxO t (itR t w (nxN t pos) j) w) q (nO t):Int)-1:=by rw [U1_ hF c1,d2];rfl
    show le _ (if rdB (opX t q).op then _ else _)
    rw [if_pos c1,hfr]
    by_cases hL:M1 t pos (fxO t (itR t w (nxN t pos) j) w) q (nO t)=0
    .rw [if_pos hL,hL,if_pos (by decide)];exact le_refl _
    obtain ⟨s1,s2,s3,s4⟩:=(H5 (t:=t) (pos:=pos) (f:=fxO t (itR t w (nxN t pos) j) w) (k:=q) (nO t)).2 hL
    rw [if_neg hL,if_neg (by omega),show ((M1 t pos (fxO t (itR t w (nxN t pos) j) w) q (nO t):Int)-1).toNat=M1 t pos (fxO t (itR t w (nxN t pos) j) w) q (nO t)-1 by omega]
    have hl:=Jb_ ih _ s1
    rw [if_pos ⟨s1,by rw [hl.1 (by rw [s3];decide)];exact s3⟩]
    exact hl.2
   rw [if_neg hc];intro hk;cases hk
 have hR:=key (nO t) (Nat.le_refl _)
 refine (Alike.eq (works':=w) ⟨fun q hq hr hrun=>?_,fun _ _ _ _ _ _ _ _=>rfl⟩).symm
 exact hR q hq hrun (zMn ht ho hE hrun hr)
def zBx (t:Tst) (w:List Bool) (pos:Nat->Nat):List Bool:=tab (nO t) fun k=>w.getD k false&&decide ((G9 t w pos k).st=1)
theorem zMp {k:Nat} (hk:k<nO t):(zBx t w pos).getD k false=(w.getD k false&&decide ((G9 t w pos k).st=1)):=L8 hk
theorem Jf_ {j:Nat} (hj:j<=nO t):Alike t (itR t w (nxN t pos) j) (itR t w (nxN t pos) j) w (zBx t w pos) :=
 ⟨fun _ _ _ _=>rfl,fun i b x hx hm h14 hp hout=>by
  obtain ⟨a1,a2,a3⟩:=JY_ hx hm hp hout
  rw [zMp a1]
  cases hw:w.getD (F8 t i b) false with
  | false=>rfl
  | true =>
   rw [hw] at a3
   have h1:(fxO t (itR t w (nxN t pos) j) w (F8 t i b)).st=1:=by rw [a3];unfold r6;simp
   have h2:(G9 t w pos (F8 t i b)).st=1:=by
    rw [<-h1]
    exact ((Z0_ (RLe.of (zMc (t:=t) (w:=w) (N:=nxN t pos) j (nO t) hj)) a1 (by omega)).1).symm
   rw [h2];rfl⟩
theorem zU0:∀ j,j<=nO t->itR t w (nxN t pos) j=itR t (zBx t w pos) (nxN t pos) j
 | 0,_=>rfl
 | j+1,hj=>by
  have ih:=zU0 j (by omega)
  show tab (nO t) ((nxN t pos).N (fxO t (itR t w (nxN t pos) j) w))=tab (nO t) ((nxN t pos).N (fxO t (itR t (zBx t w pos) (nxN t pos) j) (zBx t w pos)))
  rw [<-ih]
  have:fxO t (itR t w (nxN t pos) j) w=fxO t (itR t w (nxN t pos) j) (zBx t w pos):=by
   funext k
   unfold fxO
   rw [(Jf_ (pos:=pos) (w:=w) (by omega:j<=nO t)).eq]
  rw [this]
theorem zau:Jc_ t (zBx t w pos) pos=Jc_ t w pos:=(zU0 (nO t) (Nat.le_refl _)).symm
theorem zMq:flO t (zBx t w pos) pos=flO t w pos:=by
 unfold flO
 rw [zau]
 exact ((Jf_ (pos:=pos) (w:=w) (Nat.le_refl _)).eq).symm
theorem zF3:G9 t (zBx t w pos) pos=G9 t w pos:=by
 funext k
 show n4 (flO t (zBx t w pos) pos).f k=n4 (flO t w pos).f k
 rw [zMq]
theorem zU1:csO t (zBx t w pos) pos=csO t w pos:=by
 unfold csO frO
 rw [zMq,zF3]
theorem zRq (h:OrdE ord t w pos):OrdE ord t (zBx t w pos) pos :=
 ⟨h.inj,by rw [zMq];exact h.whole,by rw [zU1];exact h.kept,fun k hk=>by
  have:=h.par k hk
  unfold zk3 zar at this ⊢
  rw [zF3];exact this⟩
theorem zav:Yi_ t (zBx t w pos) pos=Yi_ t w pos:=by
 unfold Yi_ zi1
 rw [zU1,zF3]
theorem zBy:(zBx t w pos).length=nO t:=U8 ..
theorem zaw {k:Nat} (h:(zBx t w pos).getD k false=true):(G9 t w pos k).st=1:=by
 by_cases hk:k<nO t
 .rw [zMp hk,Bool.and_eq_true,decide_eq_true_eq] at h;exact h.2
 rw [List.getD,List.getElem?_eq_none (by rw [zBy];omega)] at h;cases h
end
structure TB (t:Tst):Prop where
 n16:nO t<=16
 locs:t.locs.length<=8
 loc:∀ k,k<nO t->0<=(opX t k).loc/\(opX t k).loc<t.locs.length
section
variable {t:Tst} {w:List Bool} {pos:Nat->Nat} {ord:Cs->Rl}
theorem zBz {k:Nat}:(csO t w pos).run k=true↔(G9 t w pos k).st=1:=YP_
theorem zU2 {k:Nat}:(csO t w pos).rd k=true↔(G9 t w pos k).st=1/\rdB (opX t k).op=true:=zEz
theorem t8 {k:Nat}:(csO t w pos).wr k=true↔(G9 t w pos k).st=1/\wrB (opX t k).op=true:=Jd_
theorem Jg_ {a b:Nat}:poP (csO t w pos) a b=true↔a<b/\b<nO t/\E5 t a=E5 t b/\(G9 t w pos a).st=1/\(G9 t w pos b).st=1:=Wa_
theorem zax {k i:Nat} (hi:(G9 t w pos i).st=1) (hc:Vp_ t pos k i=true):M1 t pos (G9 t w pos) k (nO t)≠0/\pos i<=pos (M1 t pos (G9 t w pos) k (nO t)-1):=by
 have hn:=run_lt hi
 obtain ⟨h1,h2⟩:=H5 (t:=t) (pos:=pos) (f:=G9 t w pos) (k:=k) (nO t)
 have hL:M1 t pos (G9 t w pos) k (nO t)≠0:=fun e=>h1 e i hn ⟨hc,hi⟩
 exact ⟨hL,(h2 hL).2.2.2 i hn hc hi⟩
theorem U2_ {f : Nat → Fx} {loc : Nat} : ∀ m, (XO_ t pos f loc m = 0 → ∀ i, i < m → ¬ (wrB (opX t i).op = true ∧ (opX t i).loc = (loc : Nat) ∧ (f i).st = 1)) ∧
    (XO_ t pos f loc m≠0->XO_ t pos f loc m-1<m/\wrB (opX t (XO_ t pos f loc m-1)).op=true/\(opX t (XO_ t pos f loc m-1)).loc=(loc:Nat)/\(f (XO_ t pos f loc m-1)).st=1/\∀ i,i<m->wrB (opX t i).op=true->(opX t i).loc=(loc:Nat)->(f i).st=1->pos i<=pos (XO_ t pos f loc m-1))
  | 0=>⟨fun _ i h=>absurd h (Nat.not_lt_zero _),fun h=>absurd rfl h⟩
  | m+1=>by
    obtain ⟨h1,h2⟩:=U2_ (f:=f) (loc:=loc) m
    unfold XO_
    by_cases hc:(wrB (opX t m).op&&(decide ((opX t m).loc=(loc:Nat))&&(decide ((f m).st=1)&&(decide (XO_ t pos f loc m=0)||decide (pos (XO_ t pos f loc m-1)<pos m)))))=true
    . rw [if_pos hc]
      simp only [Bool.and_eq_true,Bool.or_eq_true,decide_eq_true_eq] at hc
      obtain ⟨c0,c1,c2,c3⟩:=hc
      refine ⟨fun h=>absurd h (by omega),fun _=>⟨by omega,c0,c1,c2,fun i hi a0 a1 a2=>?_⟩⟩
      show pos i<=pos m
      by_cases e:i=m
      . subst e;exact Nat.le_refl _
      rcases c3 with c3|c3
      . exact absurd ⟨a0,a1,a2⟩ (h1 c3 i (by omega))
      by_cases e0:XO_ t pos f loc m=0
      . exact absurd ⟨a0,a1,a2⟩ (h1 e0 i (by omega))
      have:=(h2 e0).2.2.2.2 i (by omega) a0 a1 a2
      omega
    rw [if_neg hc]
    simp only [Bool.and_eq_true,Bool.or_eq_true,decide_eq_true_eq] at hc
    refine ⟨fun h i hi a=>?_,fun h=>?_⟩
    . by_cases e:i=m
      . subst e;exact hc ⟨a.1,a.2.1,a.2.2,.inl h⟩
      exact h1 h i (by omega) a
    obtain ⟨a1,a2,a3,a4,a5⟩:=h2 h
    refine ⟨by omega,a2,a3,a4,fun i hi b1 b2 b3=>?_⟩
    by_cases e:i=m
    . subst e
      rcases Nat.lt_or_ge (pos (XO_ t pos f loc i-1)) (pos i) with h5|h5
      . exact absurd ⟨b1,b2,b3,.inr h5⟩ hc
      exact h5
    exact a5 i (by omega) b1 b2 b3
structure Fits (t:Tst) (w:List Bool) (pos:Nat->Nat) (ps:List (List Nat)):Prop where
 len:ps.length=t.locs.length
 perm:∀ i,i<t.locs.length->(ps.getD i []).Perm (j6 (csO t w pos) i (nO t))
 sorted:∀ p∈ps,p.Pairwise fun a b=>pos a<pos b
theorem zay (hE:OrdE ord t w pos):∃ ps,Fits t w pos ps:=by
 have h:∀ i,∃ p:List Nat,p.Perm (j6 (csO t w pos) i (nO t))/\p.Pairwise fun a b=>pos a<pos b:=fun i =>
  zMi pos _ zMl fun a ha b hb e=>hE.inj a b (k8.1 ha).1 (k8.1 hb).1 e
 refine ⟨(List.range t.locs.length).map fun i=>Classical.choose (h i),by simp,fun i hi=>?_,fun p hp=>?_⟩
 .rw [List.getD,List.getElem?_map,List.getElem?_range hi]
  exact (Classical.choose_spec (h i)).1
 obtain ⟨i,_,rfl⟩:=List.mem_map.1 hp
 exact (Classical.choose_spec (h i)).2
def coO (ps:List (List Nat)):Rl:=fun a b=>false||ps.any fun p=>UZ_ p a b
theorem Jh_ (hb:TB t) {ps:List (List Nat)} (hf:Fits t w pos ps) {a b:Nat}:coO ps a b=true↔(csO t w pos).wr a=true/\(csO t w pos).wr b=true/\(opX t a).loc=(opX t b).loc/\pos a<pos b:=by
 unfold coO
 rw [Bool.false_or,any_eq_true]
 constructor
 .rintro ⟨p,hp,h⟩
  obtain ⟨i,hi⟩:=List.getElem?_of_mem hp
  have hi2:i<t.locs.length:=by rw [<-hf.len];exact (List.getElem?_eq_some_iff.1 hi).1
  have hperm:=hf.perm i hi2
  rw [List.getD,hi] at hperm
  obtain ⟨h1,h2,h3⟩:=(Vr_ (hf.sorted p hp)).1 h
  obtain ⟨a1,a2,a3⟩:=k8.1 (hperm.mem_iff.1 h1)
  obtain ⟨b1,b2,b3⟩:=k8.1 (hperm.mem_iff.1 h2)
  exact ⟨a2,b2,a3.trans b3.symm,h3⟩
 rintro ⟨h1,h2,h3,h4⟩
 have ha:=run_lt (t8.1 h1).1
 have hbn:=run_lt (t8.1 h2).1
 obtain ⟨l0,l1⟩:=hb.loc a ha
 have hi:(opX t a).loc.toNat<t.locs.length:=by omega
 have hperm:=hf.perm _ hi
 have hmem:ps.getD (opX t a).loc.toNat []∈ps:=by
  rw [List.getD,List.getElem?_eq_getElem (by rw [hf.len];exact hi)]
  exact List.getElem_mem _
 refine ⟨_,hmem,(Vr_ (hf.sorted _ hmem)).2 ⟨hperm.mem_iff.2 (k8.2 ⟨ha,h1,?_⟩),hperm.mem_iff.2 (k8.2 ⟨hbn,h2,?_⟩),h4⟩⟩
 .show (opX t a).loc=_;omega
 show (opX t b).loc=_;omega
theorem zMr (hb:TB t) (hE:OrdE ord t w pos) {ps:List (List Nat)} (hf:Fits t w pos ps) {a b:Nat} (h:S4 (csO t w pos) (coO ps) a b=true):pos a<pos b/\¬ poP (csO t w pos) b a=true:=by
 unfold S4 at h
 simp only [Bool.and_eq_true,Bool.or_eq_true,Bool.not_eq_true',decide_eq_true_eq,decide_eq_false_iff_not] at h
 obtain ⟨h1,h2,h3,h4,h5,h6,h7⟩:=h
 obtain ⟨r1,r2⟩:=zU2.1 h3
 obtain ⟨w1,w2⟩:=t8.1 h5
 replace h6:(opX t b).loc=(opX t a).loc:=h6
 have hfr:(csO t w pos).fr.getD a 0=(M1 t pos (G9 t w pos) a (nO t):Int)-1:=U1_ r1 r2 0
 rw [hfr] at h7
 have no:¬ Vp_ t pos a b=true:=fun hc=>by
  obtain ⟨hL,hm⟩:=zax w1 hc
  rcases h7 with h7|h7
  .omega
  rw [show ((M1 t pos (G9 t w pos) a (nO t):Int)-1).toNat=M1 t pos (G9 t w pos) a (nO t)-1 by omega] at h7
  have:=((Jh_ hb hf).1 h7).2.2.2
  omega
 constructor
 .rcases Nat.lt_or_ge (pos a) (pos b) with h8|h8
  .exact h8
  exact absurd (Je_ h4 w2 h6 (.inl (by omega))) no
 intro hp
 obtain ⟨p1,_,p3,_⟩:=Jg_.1 hp
 exact no (Je_ h4 w2 h6 (.inr ⟨p3,p1⟩))
theorem zaz (hE:OrdE ord t w pos) {a b:Nat} (h:zYd (csO t w pos) a b=true):pos a<pos b/\(G9 t w pos a).st=1/\(G9 t w pos b).st=1/\M1 t pos (G9 t w pos) b (nO t)=a+1:=by
 unfold zYd at h
 simp only [Bool.and_eq_true,Bool.not_eq_true',decide_eq_true_eq] at h
 obtain ⟨h1,h2,h3⟩:=h
 replace h3:decide (E5 t a=E5 t b)=false:=h3
 rw [decide_eq_false_iff_not] at h3
 replace h2:(frO t w pos).getD b 0=(a:Nat):=h2
 rw [zF2 (t:=t) h1] at h2
 unfold frK at h2
 split at h2
 .rename_i hc
  rw [Bool.and_eq_true,decide_eq_true_eq] at hc
  have hL:M1 t pos (G9 t w pos) b (nO t)=a+1:=by omega
  obtain ⟨s1,s2,s3,s4⟩:=(H5 (t:=t) (pos:=pos) (f:=G9 t w pos) (k:=b) (nO t)).2 (by omega)
  have e9:M1 t pos (G9 t w pos) b (nO t)-1=a:=by omega
  rw [e9] at s1 s2 s3
  obtain ⟨c1,c2,c3,c4⟩:=N9 hE.inj h1 s1 s2
  rcases c4 with c4|c4
  .exact ⟨c4,s3,hc.2,hL⟩
  exact absurd c4.1 h3
 omega
theorem zMs (hb:TB t) (ho:OrdOk t ord) (hE:OrdE ord t w pos) {ps:List (List Nat)} (hf:Fits t w pos ps) {a b:Nat} (h:Ua_ (zDx ord (csO t w pos)) (coO ps) (S4 (csO t w pos) (coO ps)) a b=true):pos a<pos b:=by
 unfold Ua_ zDx at h
 simp only [Bool.or_eq_true] at h
 rcases h with ((h|h)|h)|h
 .obtain ⟨p1,p2,_⟩:=Jg_.1 (ho.po (csO t w pos) rfl (Q9 t (Jc_ t w pos) w) a b h)
  exact hE.kept a b (by omega) p2 h
 .exact (zaz hE h).1
 .exact ((Jh_ hb hf).1 h).2.2.2
 exact (zMr hb hE hf h).1
theorem zi7 (hb:TB t) (ho:OrdOk t ord) (hE:OrdE ord t w pos) {ps:List (List Nat)} (hf:Fits t w pos ps):zDw (csO t w pos) (coO ps)=true:=by
 unfold zDw
 rw [all_eq_true]
 intro k hk
 replace hk:k<nO t:=List.mem_range.1 hk
 unfold zNm
 split
 .rfl
 rename_i hc
 rw [not_or] at hc
 obtain ⟨hpr,hwr⟩:=hc
 replace hpr:(G9 t w pos k).pr≠0:=hpr
 have hwr:(csO t w pos).wr k=true:=by simpa using hwr
 obtain ⟨w1,w2⟩:=t8.1 hwr
 obtain ⟨h14,q,e1,e2,e3,e4,e5,e6⟩:=zBv w1 hpr
 obtain ⟨p1,p2,p3⟩:=hE.par k hk h14 w1
 have hbeg:zar t w pos k=if M1 t pos (G9 t w pos) q (nO t)=0 then none else some (pos (M1 t pos (G9 t w pos) q (nO t)-1)):=by
  unfold zar
  replace e1:(G9 t w pos k).pr=(q:Int)+1:=e1
  rw [e1,show ((q:Int)+1-1).toNat=q by omega]
 have hq13:rdB (opX t q).op=true:=by simp [rdB,e3]
 have hfr:(csO t w pos).fr.getD ((csO t w pos).f.f.pair.getD k 0-1).toNat 0=(M1 t pos (G9 t w pos) q (nO t):Int)-1:=by
  show (frO t w pos).getD ((G9 t w pos k).pr-1).toNat 0=_
  replace e1:(G9 t w pos k).pr=(q:Int)+1:=e1
  rw [e1,show ((q:Int)+1-1).toNat=q by omega]
  exact U1_ e5 hq13 0
 dsimp only
 rw [hfr]
 have hqk:pos q<pos k:=hE.kept q k (by omega) hk (ho.loc (csO t w pos) rfl (Q9 t (Jc_ t w pos) w) q k (Jg_.2 ⟨e2,hk,e4,e5,w1⟩) e6 hwr)
 simp only [Bool.and_eq_true,Bool.not_eq_true',Bool.and_eq_false_iff,decide_eq_false_iff_not,Bool.not_eq_false']
 constructor
 .by_cases hL:M1 t pos (G9 t w pos) q (nO t)=0
  .left;omega
  right
  rw [show ((M1 t pos (G9 t w pos) q (nO t):Int)-1).toNat=M1 t pos (G9 t w pos) q (nO t)-1 by omega]
  obtain ⟨s1,s2,s3,s4⟩:=(H5 (t:=t) (pos:=pos) (f:=G9 t w pos) (k:=q) (nO t)).2 hL
  obtain ⟨c1,c2,c3,c4⟩:=N9 hE.inj (by omega) s1 s2
  have hle:=p2 _ (by rw [hbeg,if_neg hL])
  refine (Jh_ hb hf).2 ⟨t8.2 ⟨s3,c2⟩,hwr,c3.trans e6,?_⟩
  have hne:pos (M1 t pos (G9 t w pos) q (nO t)-1)≠pos k:=fun e=>by
   have:=hE.inj _ _ s1 hk e
   rw [this] at c4
   rcases c4 with c4|c4<;>omega
  omega
 rw [Bool.eq_false_iff]
 intro hany
 rw [any_eq_true] at hany
 obtain ⟨i,hi,h⟩:=hany
 simp only [Bool.and_eq_true,Bool.not_eq_true',Bool.or_eq_true,decide_eq_true_eq] at h
 obtain ⟨h1,h2,h3,h4⟩:=h
 replace hi:i<nO t:=List.mem_range.1 hi
 replace h2:decide (E5 t i=E5 t k)=false:=h2
 rw [decide_eq_false_iff_not] at h2
 obtain ⟨i1,i2⟩:=t8.1 h1
 obtain ⟨_,_,g3,g4⟩:=(Jh_ hb hf).1 h3
 refine p3 i hi i2 i1 g3 h2 (fun p hp=>?_) g4
 rw [hbeg] at hp
 split at hp
 .cases hp
 rename_i hL
 cases hp
 rcases h4 with h4|h4
 .omega
 rw [show ((M1 t pos (G9 t w pos) q (nO t):Int)-1).toNat=M1 t pos (G9 t w pos) q (nO t)-1 by omega] at h4
 exact ((Jh_ hb hf).1 h4).2.2.2
theorem zi8 (hb : TB t) (ho : OrdOk t ord) (hE : OrdE ord t w pos) {ps : List (List Nat)} (hf : Fits t w pos ps) (las : List Int) : Jw_ (zDx ord (csO t w pos)) (csO t w pos) las (coO ps) =
    [⟨csO t w pos,coO ps,Ua_ (zDx ord (csO t w pos)) (coO ps) (S4 (csO t w pos) (coO ps)),T4 t (Ws_ (csO t w pos)) fun i=>(Yu_ (csO t w pos) las).getD i 0⟩]:=by
  unfold Jw_
  have h1:zGz (fun a b=>S4 (csO t w pos) (coO ps) a b&&poP (csO t w pos) b a)=false:=by
    rw [Bool.eq_false_iff]
    intro h
    obtain ⟨a,b,_,_,h⟩:=zRp.1 h
    rw [Bool.and_eq_true] at h
    exact (zMr hb hE hf h.1).2 h.2
  have h2:Zc_ (Ua_ (zDx ord (csO t w pos)) (coO ps) (S4 (csO t w pos) (coO ps)))=false:=zMm fun a b h=>zMs hb ho hE hf h
  rw [h1,h2,zi7 hb ho hE hf]
  rfl
theorem zb0 (hb:TB t) (hE:OrdE ord t w pos) {ps:List (List Nat)} (hf:Fits t w pos ps) {i:Nat} (hi:i<t.locs.length):zKc (csO t w pos) (zMj 0 ps (List.replicate 8 0)) i=zi1 t w pos i:=by
 have hl:=hb.locs
 have hlas:(zMj 0 ps (List.replicate 8 0)).getD i 0=match (ps.getD i []).getLast? with|none=>0|some k=>(k:Int)+1:=by
  rw [zMk _ _ _ _ (by rw [hf.len,length_replicate];omega),if_pos (by rw [hf.len];omega),Nat.sub_zero]
  have:(List.replicate 8 (0:Int)).getD i 0=0:=by rw [List.getD,List.getElem?_replicate];split<;>rfl
  rw [this]
  first|done|(cases (ps.getD i []).getLast?<;>rfl)
 have hperm:=hf.perm i hi
 have hmem:ps.getD i []∈ps:=by
  rw [List.getD,List.getElem?_eq_getElem (by rw [hf.len];exact hi)]
  exact List.getElem_mem _
 have hs:=hf.sorted _ hmem
 generalize ps.getD i []=p at *
 obtain ⟨f1,f2⟩:=U2_ (t:=t) (pos:=pos) (f:=G9 t w pos) (loc:=i) (nO t)
 unfold zKc zi1
 rw [hlas]
 rcases eq_nil_or_concat p with rfl|⟨u,k,rfl⟩
 .have hF:XO_ t pos (G9 t w pos) i (nO t)=0:=Classical.byContradiction fun hc=>by
   obtain ⟨a1,a2,a3,a4,_⟩:=f2 hc
   have:=hperm.mem_iff.2 (k8.2 ⟨a1,t8.2 ⟨a4,a2⟩,a3⟩)
   cases this
  rw [hF];rfl
 rw [concat_eq_append] at *
 have hk:=hperm.mem_iff.1 (by simp:k∈u++[k])
 obtain ⟨k1,k2,k3⟩:=k8.1 hk
 obtain ⟨k4,k5⟩:=t8.1 k2
 replace k3:(opX t k).loc=(i:Nat):=k3
 have hF:XO_ t pos (G9 t w pos) i (nO t)≠0:=fun e=>f1 e k k1 ⟨k5,k3,k4⟩
 obtain ⟨a1,a2,a3,a4,a5⟩:=f2 hF
 have hin:=hperm.mem_iff.2 (k8.2 ⟨a1,t8.2 ⟨a4,a2⟩,a3⟩)
 have hle:=a5 k k1 k5 k3 k4
 have e:XO_ t pos (G9 t w pos) i (nO t)-1=k:=by
  rcases List.mem_append.1 hin with h|h
  .have h9:pos (XO_ t pos (G9 t w pos) i (nO t)-1)<pos k:=(List.pairwise_append.1 hs).2.2 _ h k (by simp)
   omega
  simpa using h
 rw [if_neg hF,e]
 have e2:(u++[k]).getLast?=some k:=by simp
 rw [e2]
 show (if 0<((k:Nat):Int)+1 then ((csO t w pos).f.f.write.getD (((k:Nat):Int)+1-1).toNat zV).v else _)=_
 rw [if_pos (by omega),show (((k:Nat):Int)+1-1).toNat=k by omega]
 rfl
theorem zi9 (ht : TG t) (hb : TB t) (ho : OrdOk t ord) (hE : OrdE ord t w pos) (hwl : w.length = nO t) (hw14 : ∀ k, w.getD k false = true → (opX t k).op = 14) (hnr : ∀ k, w.getD k false = true → (G9 t w pos k).st = 1) :
    ∃ r∈j7 ord t,r.st=Yi_ t w pos/\r.c=csO t w pos/\∀ a b,r.ah a b=true->pos a<pos b:=by
  obtain ⟨ps,hf⟩:=zay hE
  refine ⟨⟨csO t w pos,coO ps,Ua_ (zDx ord (csO t w pos)) (coO ps) (S4 (csO t w pos) (coO ps)),T4 t (Ws_ (csO t w pos)) fun i=>(Yu_ (csO t w pos) (zMj 0 ps (List.replicate 8 0))).getD i 0⟩,?_,?_,rfl,fun a b h=>zMs hb ho hE hf h⟩
  . unfold j7
    refine List.mem_flatMap.2 ⟨w,(zBq _ _ _ (by simp) (by omega) fun q _=>by rw [List.getD,List.getElem?_replicate];split<;>rfl).2 ⟨hwl,fun q hq=>absurd hq (Nat.not_lt_zero _),fun q _ h=>hw14 q h⟩,List.mem_flatMap.2 ⟨frO t w pos,zas.2 ⟨U8 ..,fun q hq=>?_⟩,?_⟩⟩
    . rw [zF2 hq]
      unfold frK
      split
      . rename_i hc
        rw [Bool.and_eq_true,decide_eq_true_eq] at hc
        refine zMg.2 ?_
        by_cases hL:M1 t pos (G9 t w pos) q (nO t)=0
        . left;omega
        right
        obtain ⟨s1,s2,s3,s4⟩:=(H5 (t:=t) (pos:=pos) (f:=G9 t w pos) (k:=q) (nO t)).2 hL
        obtain ⟨c1,c2,c3,c4⟩:=N9 hE.inj hq s1 s2
        refine ⟨hc.1,_,by omega,s1,?_⟩
        unfold zGy
        simp only [Bool.and_eq_true,Bool.or_eq_true,Bool.not_eq_true',decide_eq_true_eq,decide_eq_false_iff_not]
        refine ⟨c1,c2,c3,?_⟩
        by_cases hth:E5 t (M1 t pos (G9 t w pos) q (nO t)-1)=E5 t q
        . right
          rcases c4 with c4|c4
          . rcases Nat.lt_or_ge (M1 t pos (G9 t w pos) q (nO t)-1) q with h|h
            . exact h
            have hlt:q<M1 t pos (G9 t w pos) q (nO t)-1:=by omega
            have:=hE.kept q _ hq s1 (ho.loc (csO t w pos) rfl (Q9 t (Jc_ t w pos) w) q _ (Jg_.2 ⟨hlt,s1,hth.symm,hc.2,s3⟩) c3.symm (t8.2 ⟨s3,c2⟩))
            omega
          exact c4.2
        exact .inl hth
      exact zMg.2 (.inl rfl)
    unfold WG_
    have hset:Z9 t w (frO t w pos)=some (flO t w pos):=by
      unfold Z9
      dsimp only
      rw [zMo ht ho hE,if_pos hE.whole]
      rw [if_neg]
      rw [Bool.not_eq_true,any_eq_false]
      intro k hk
      replace hk:k<nO t:=List.mem_range.1 hk
      have hfk:=zF2 (w:=w) (pos:=pos) hk 0
      unfold zT1
      dsimp only
      rw [hfk]
      show ¬ ((!decide ((G9 t w pos k).st=1)&&_||decide ((G9 t w pos k).st=1)&&(_&&!decide ((G9 t w pos (frK t pos (G9 t w pos) k).toNat).st=1))||decide ((G9 t w pos k).st=1)&&(_&&decide ((G9 t w pos k).pr=0)))=true)
      simp only [Bool.or_eq_true,Bool.and_eq_true,Bool.not_eq_true',decide_eq_true_eq,decide_eq_false_iff_not]
      rintro ((⟨h1,h2⟩|⟨h1,h2,h3⟩)|⟨h1,h2,h3⟩)
      . rcases h2 with h2|h2
        . unfold frK at h2
          rw [if_neg (by rw [Bool.and_eq_true,decide_eq_true_eq];exact fun hc=>h1 hc.2)] at h2
          omega
        exact h1 (hnr k h2)
      . unfold frK at h2 h3
        split at h2
        . rename_i hc
          rw [if_pos hc] at h3
          have hL:M1 t pos (G9 t w pos) k (nO t)≠0:=by omega
          obtain ⟨s1,s2,s3,s4⟩:=(H5 (t:=t) (pos:=pos) (f:=G9 t w pos) (k:=k) (nO t)).2 hL
          rw [show ((M1 t pos (G9 t w pos) k (nO t):Int)-1).toNat=M1 t pos (G9 t w pos) k (nO t)-1 by omega] at h3
          exact h3 s3
        omega
      exact (hE.par k hk (hw14 k h2) h1).1 h3
    rw [hset]
    refine List.mem_flatMap.2 ⟨(zMj 0 ps (List.replicate 8 0),coO ps),(zBu _ _ _ _).2 ⟨ps,hf.len,fun i hi=>?_,rfl,rfl⟩,?_⟩
    . rw [Nat.zero_add];exact hf.perm i hi
    have:=zi8 hb ho hE hf (zMj 0 ps (List.replicate 8 0))
    show _∈Jw_ (zDx ord (csO t w pos)) (csO t w pos) (zMj 0 ps (List.replicate 8 0)) (coO ps)
    rw [this]
    exact List.mem_singleton.2 rfl
  show T4 t _ _=T4 t _ _
  congr 1
  funext i
  have hl:=hb.locs
  unfold Yu_
  by_cases h8:i<8
  . rw [List.getD,List.getElem?_map,List.getElem?_range h8]
    show (if i<t.locs.length then zKc _ _ i else 0)=_
    split
    . rename_i hi;exact zb0 hb hE hf hi
    rfl
  rw [List.getD,List.getElem?_eq_none (by simp;omega),if_neg (by omega)]
  rfl
theorem G1 (ht:TG t) (hb:TB t) (ho:OrdOk t ord) (hE:OrdE ord t w pos) (hw14:∀ k,w.getD k false=true->(opX t k).op=14):∃ r∈j7 ord t,r.st=Yi_ t w pos:=by
 obtain ⟨r,h1,h2,_⟩:=zi9 ht hb ho (zRq hE) zBy (fun k h=>hw14 k (by
  by_cases hk:k<nO t
  .rw [zMp hk,Bool.and_eq_true] at h;exact h.1
  rw [List.getD,List.getElem?_eq_none (by rw [zBy];omega)] at h;cases h)) (fun k h=>by rw [zF3];exact zaw h)
 exact ⟨r,h1,h2.trans zav⟩
end
section
variable {t:Tst} {w:List Bool} {fr:List Int} {pos:Nat->Nat} {ord:Cs->Rl} {ps:List (List Nat)}
theorem zMt {reads R:List Vl} (hA:∀ q,q<nO t->(fxO t R w q).st=1->le (reads.getD q zV) (R.getD q zV)):FLe (nO t) (fxO t reads w) (fxO t R w)/\RLe t w reads R:=by
 have e:D5 t R w=D5 t (tab (nO t) fun q=>if (fxO t R w q).st=1 then R.getD q zV else reads.getD q zV) w:=Alike.eq ⟨fun q hq hr hs=>by rw [L8 hq,if_pos hs],fun _ _ _ _ _ _ _ _=>rfl⟩
 have hf:fxO t R w=fxO t (tab (nO t) fun q=>if (fxO t R w q).st=1 then R.getD q zV else reads.getD q zV) w:=by
  funext k
  show n4 (D5 t R w).f k=n4 (D5 t _ w).f k
  rw [<-e]
 have hle:RLe t w reads (tab (nO t) fun q=>if (fxO t R w q).st=1 then R.getD q zV else reads.getD q zV):=fun q hq _=>by
  rw [L8 hq]
  split
  .rename_i h;exact hA q hq h
  exact le_refl _
 have h1:FLe (nO t) (fxO t reads w) (fxO t R w):=by rw [hf];exact Jb_ hle
 exact ⟨h1,fun q hq hs=>hA q hq (by rw [(h1 q hq).1 (by rw [hs];decide)];exact hs)⟩
end
theorem S3 {c:Cs} {a b:Nat} (h:poP c a b=true):a<b/\b<c.n/\c.th a b=true/\c.run a=true/\c.run b=true:=by
 unfold poP po0 at h
 simp only [Bool.and_eq_true,decide_eq_true_eq] at h
 exact ⟨h.1.1.1,h.1.1.2,h.1.2,h.2.1,h.2.2⟩
theorem zU3 {c:Cs} {a b:Nat} (h1:a<b) (h2:b<c.n) (h3:c.th a b=true) (h4:c.run a=true) (h5:c.run b=true):poP c a b=true:=by
 unfold poP po0
 simp only [Bool.and_eq_true,decide_eq_true_eq]
 exact ⟨⟨⟨h1,h2⟩,h3⟩,h4,h5⟩
theorem Wc_ {c:Cs} {a m b:Nat} (h:poP c a m=true) (h':poP c m b=true):poP c a b=true:=by
 obtain ⟨a1,a2,a3,a4,a5⟩:=S3 h
 obtain ⟨b1,b2,b3,b4,b5⟩:=S3 h'
 refine zU3 (by omega) b2 ?_ a4 b5
 unfold Cs.th at *
 rw [decide_eq_true_eq] at *
 exact a3.trans b3
theorem zMu {c:Cs} {a:Nat} (h:c.rd a=true):c.run a=true/\rdB (c.x a).op=true:=by
 unfold Cs.rd Cs.at_ at h
 exact Bool.and_eq_true_iff.1 h
theorem zMv {c:Cs} {a:Nat} (h:c.wr a=true):c.run a=true/\wrB (c.x a).op=true:=by
 unfold Cs.wr Cs.at_ at h
 exact Bool.and_eq_true_iff.1 h
theorem Ji_ {c:Cs} {i:Nat} {r:Nat->Nat->Bool} (h:(rul c)[i]?=some r) {a b:Nat} (hr:r a b=true) (hp:poP c a b=true):WF_ c a b=true:=by
 unfold WF_ orU
 rw [hp,Bool.and_true,any_eq_true]
 refine ⟨r,?_,hr⟩
 have h13:(rul c).length=13:=rfl
 rw [take_of_length_le (by omega)]
 exact List.mem_of_getElem? h
theorem zb1 {t:Tst} (hb:nO t<=16):OrdOk t WF_ where
 po c _ _ a b h:=by unfold WF_ at h;exact (Bool.and_eq_true_iff.1 h).2
 loc c _ _ a b hp hl hw:=by
  obtain ⟨a1,a2,a3,a4,a5⟩:=S3 hp
  refine Ji_ (i:=0) rfl ?_ hp
  show ((poP c a b&&lcP c a b)&&(c.run a&&c.wr b))=true
  have:lcP c a b=true:=by
   unfold lcP
   simp only [Bool.and_eq_true,decide_eq_true_eq]
   exact ⟨⟨by omega,a2⟩,hl⟩
  rw [hp,this,a4,hw];rfl
 path c _ hf a b hp hw hb':=by
  obtain ⟨a1,a2,a3,a4,a5⟩:=S3 hp
  refine Ji_ (i:=10) rfl ?_ hp
  show (zjs c a b&&(c.run a&&c.wr b))=true
  have:zjs c a b=true:=by
   unfold zjs QB_
   rw [a4,a5,hb',hf.l6];simp [a2]
  rw [this,a4,hw];rfl
 vl c _ hf a b hp hw hb':=by
  obtain ⟨a1,a2,a3,a4,a5⟩:=S3 hp
  refine Ji_ (i:=9) rfl ?_ hp
  show zQ3 c a b=true
  unfold zQ3 QB_
  rw [a4,a5,hb',hf.l5];simp [a2]
 inn c ht hf a m b h1 h2 h3 h4 h5 h6 h7:=by
  obtain ⟨a1,a2,a3,a4,a5⟩:=S3 h1
  obtain ⟨b1,b2,b3,b4,b5⟩:=S3 h2
  refine Ji_ (i:=11) rfl ?_ (Wc_ h1 h2)
  show th (fun a b=>(zc2 c a b||zQ3 c a b)&&(c.run a&&c.wr b)) (ip c) a b=true
  have hm:m<nO t:=by rw [<-ht];exact a2
  unfold th
  rw [G2]
  refine ⟨m,by omega,?_⟩
  have e1:zQ3 c a m=true:=by
   unfold zQ3 QB_
   rw [a4,a5,h7,hf.l5];simp [a2]
  have e2:ip c m b=true:=by
   unfold ip zgd zGx
   rw [h2,h6,b3,b4,b5];simp [b2]
  dsimp only
  rw [e1,e2,a4,h4];simp
 amo c _ _ m b h1 h2 h3 h4:=by
  obtain ⟨b1,b2,b3,b4,b5⟩:=S3 h1
  refine Ji_ (i:=2) rfl ?_ h1
  show (ip c m b&&(zjq c m&&c.rd b))=true
  have e2:ip c m b=true:=by
   unfold ip zgd zGx
   rw [h1,h4,b3,b4,b5];simp [b2]
  have e3:zjq c m=true:=by
   unfold zjq Cs.at_
   rw [b4];simp [h2]
  rw [e2,e3,h3];rfl
theorem zia {t:Tst}:OrdOk t poP where
 po c _ _ a b h:=h
 loc c _ _ a b hp hl hw:=hp
 path c _ hf a b hp hw hb':=hp
 vl c _ hf a b hp hw hb':=hp
 inn c ht hf a m b h1 h2 h3 h4 h5 h6 h7:=Wc_ h1 h2
 amo c _ _ m b h1 h2 h3 h4:=h1
def stB (c:Cs):Nat->Bool:=c.at_ fun x=>decide (x.op=10)||decide (x.op=14)
def ldB (c:Cs):Nat->Bool:=c.at_ fun x=>decide (x.op=9)||decide (x.op=13)
def QC_ (c:Cs) (a b:Nat):Bool:=stB c a&&ldB c b
def zRr (c:Cs) (a b:Nat):Bool:=(poP c a b&&!QC_ c a b)||(zT0 c a b&&QC_ c a b)
theorem zib {c:Cs} {a b:Nat} (h:zT0 c a b=true):poP c a b=true:=by
 unfold zT0 Q5_ at h
 rw [any_eq_true] at h
 obtain ⟨j,_,h⟩:=h
 unfold zB0 at h
 rw [any_eq_true] at h
 obtain ⟨s,_,h⟩:=h
 unfold zc1 zDv UY_ at h
 simp only [Bool.and_eq_true,Bool.not_eq_true',decide_eq_true_eq,decide_eq_false_iff_not] at h
 obtain ⟨_,⟨⟨h1,h2,h3⟩,h4⟩,⟨h5,h6,h7⟩,h8⟩:=h
 have side:∀ {m:Int} {k:Nat},Ys_ c m k=true->c.run k=true:=fun {m k} h=>by
  unfold Ys_ at h
  simp only [Bool.or_eq_true,Bool.and_eq_true,decide_eq_true_eq] at h
  rcases h with h|h
  .exact (zMu h.2).1
  exact (zMv h.2).1
 have hth:c.th a b=true:=by unfold Cs.th;rw [decide_eq_true_eq,h2,h6]
 have hlt:a<b:=by
  refine (n5 (t:=c.t) (k:=b) (q:=a) h5 h1 (show (c.op a).1=(c.op b).1 by rw [h2,h6])).2 ?_
  show (c.op a).2<(c.op b).2
  omega
 exact zU3 hlt h5 hth (side h4) (side h8)
theorem Vs_ {c:Cs} {a b:Nat} (h:poP c a b=true) (hl:QC_ c a b=false):zRr c a b=true:=by
 unfold zRr;rw [h,hl];rfl
theorem zMw {c:Cs} {a b:Nat} (hw:c.wr b=true):QC_ c a b=false:=by
 have h:=(zMv hw).2
 cases e:QC_ c a b with
 | false=>rfl
 | true =>
  unfold QC_ ldB Cs.at_ at e
  simp only [Bool.and_eq_true,Bool.or_eq_true,decide_eq_true_eq] at e
  simp only [wrB,Bool.or_eq_true,decide_eq_true_eq] at h
  omega
theorem zic {c:Cs} {a b:Nat} (hw:c.rd a=true):QC_ c a b=false:=by
 have h:=(zMu hw).2
 cases e:QC_ c a b with
 | false=>rfl
 | true =>
  unfold QC_ stB Cs.at_ at e
  simp only [Bool.and_eq_true,Bool.or_eq_true,decide_eq_true_eq] at e
  simp only [rdB,Bool.or_eq_true,decide_eq_true_eq] at h
  omega
theorem zb2 {t:Tst}:OrdOk t zRr where
 po c _ _ a b h:=by
  unfold zRr at h
  simp only [Bool.or_eq_true,Bool.and_eq_true] at h
  rcases h with h|h
  .exact h.1
  exact zib h.1
 loc c _ _ a b hp hl hw:=Vs_ hp (zMw hw)
 path c _ hf a b hp hw hb':=Vs_ hp (zMw hw)
 vl c _ hf a b hp hw hb':=Vs_ hp (zMw hw)
 inn c ht hf a m b h1 h2 h3 h4 h5 h6 h7:=Vs_ (Wc_ h1 h2) (zic h3)
 amo c _ _ m b h1 h2 h3 h4:=Vs_ h1 (by
  cases e:QC_ c m b with
  | false=>rfl
  | true =>
   unfold QC_ stB Cs.at_ at e
   simp only [Bool.and_eq_true,Bool.or_eq_true,decide_eq_true_eq] at e
   omega)
theorem zRs (l:List Ins):M8 l<=evL l:=by
 induction l with
 | nil=>exact Nat.le_refl _
 | cons x l ih =>
  have e1:M8 (x::l)=M8 l+if J8 x then 1 else 0:=by unfold M8;rw [countP_cons]
  have e2:evL (x::l)=evt x+evL l:=by simp [evL]
  rw [e1,e2]
  have:(if J8 x then 1 else 0)<=evt x:=by
   unfold J8 G4 evt
   cases rdB x.op<;>cases wrB x.op<;>decide
  omega
theorem Jj_ (t:Tst):nO t<=I6 t.ths:=by
 rw [zaq]
 unfold Z3_ I6
 induction t.ths with
 | nil=>exact Nat.le_refl _
 | cons l r ih=>simp only [map_cons,sum_cons];have:=zRs l;omega
theorem zC0 (l:List Ins):M8 l=(l.filter fun x=>G4 x.op).length:=by
 unfold M8
 rw [countP_eq_length_filter];rfl
theorem Jk_ (l:List (List Ins)):∀ n,n<=l.length->m9 l n=((l.take n).map M8).sum
 | 0,_=>by simp [m9]
 | n+1,h=>by
  have e:=List.getElem?_eq_getElem (show n<l.length by omega)
  rw [m9,Jk_ l n (by omega),N6 e,map_append,sum_append]
  have:l.getD n []=l[n]:=by rw [List.getD,e];rfl
  rw [this]
  unfold Wt_
  rw [take_length,<-zC0]
  simp
theorem zid (t:Tst):nO t=c9 t:=by
 rw [zaq]
 unfold Z3_ c9
 rw [Jk_ _ _ (Nat.le_refl _),take_length]
theorem zie {t:Tst} {k:Nat} (hk:k<nO t):∃ l∈t.ths,opX t k∈l/\G4 (opX t k).op=true:=by
 obtain ⟨h1,h2,h3,h4⟩:=I5 hk
 exact ⟨_,List.mem_of_getElem? (Zy_ h1),List.mem_of_getElem? h1,h2⟩
theorem XP_ {t:Tst} (h:I7 t=0) {l:List Ins} (hl:l∈t.ths) {x:Ins} (hx:x∈l):zP3 x=false/\zD0 x=false/\zAi t.locs.length x=false/\zP4 x=false/\zFq x=false/\zIm x=false:=by
 obtain ⟨left,_,he⟩:=zDh h hl hx
 obtain ⟨e1,e2,e3,e4,e5,e6,_⟩:=ZC_.1 he
 exact ⟨e1,e2,e3,e4,e5,e6⟩
theorem l7 {t:Tst} (h:I7 t=0) (hw:X5_ t):SeaOk t:=by
 have hs:=O6 (Q7.1 h).1
 obtain ⟨g1,g2,g3⟩:=zXt h hw
 refine ⟨hs.2.1,hs.2.2.2.2.1,Nat.le_trans (Jj_ t) hs.2.2.2.2.2,hs.2.2.1,fun k hk=>?_,g3,fun l hl x hx _=>⟨(g3 l hl x hx).rd0,(g3 l hl x hx).rd8⟩,fun l hl x hx h15=>?_⟩
 .obtain ⟨l,hl,hx,hm⟩:=zie hk
  obtain ⟨_,_,e3,_⟩:=XP_ h hl hx
  simp only [zAi,hm,Bool.true_and,Bool.or_eq_false_iff,decide_eq_false_iff_not] at e3
  omega
 obtain ⟨_,_,_,_,e5,_⟩:=XP_ h hl hx
 simp only [zFq,h15,decide_true,Bool.true_and,Bool.or_eq_false_iff,decide_eq_false_iff_not] at e5
 omega
theorem zMx {t:Tst} (h:I7 t=0):TG t:=by
 have hs:=O6 (Q7.1 h).1
 refine ⟨by have:=Jj_ t;omega,fun l hl x hx h1=>?_⟩
 obtain ⟨_,_,_,e4,_⟩:=XP_ h hl hx
 simpa [zP4,h1] using e4
theorem zb3 {t:Tst} (h:I7 t=0) (hw:X5_ t):TB t:=by
 have hs:=l7 h hw
 exact ⟨by have:=hs.n8;omega,hs.locs,hs.loc⟩
section
variable {t:Tst} {reads:List Vl} {works:List Bool} {i:Nat}
theorem Jl_ (hl:∀ l∈t.ths,l.length<=8):∀ b,U64 (B8 t reads works i b).1.w.left
 | 0=>L9
 | b+1=>by
  have ih:=Jl_ hl b
  by_cases hb:b<(lth t i).length
  .have hx:=List.getElem?_eq_getElem hb
   have h8:=hl _ (List.mem_of_getElem? (Zy_ hx))
   rw [E9 hx]
   split
   rotate_left
   .exact ih
   generalize (B8 t reads works i b).1=s at *
   dsimp only
   unfold N8
   split
   .exact (M0 ih (S2 (by omega)).1).1
   split
   .dsimp only
    unfold O1
    split
    .exact ih
    split
    .exact ih
    split
    .exact ih
    split
    .exact ih
    split
    .unfold x7
     cases works.getD s.k false<;>exact ih
    exact ih
   split
   .exact ih
   dsimp only
   unfold H8
   split
   .exact ih
   split<;>exact ih
  rw [I0 hb];exact ih
theorem zif (ht:TG t) {k:Nat} (hk:k<nO t):U64 (fxO t reads works k).pl/\U64 (fxO t reads works k).vl/\U64 (fxO t reads works k).ph/\0<=(fxO t reads works k).pr/\(fxO t reads works k).pr<=nO t:=by
 have h0:U64 0/\U64 0/\U64 0/\(0:Int)<=0/\(0:Int)<=nO t:=⟨L9,L9,L9,Int.le_refl _,by omega⟩
 rw [X6 hk]
 by_cases hp:(B8 t reads works (E5 t k) (opAt t k)).2=true
 .rw [if_pos hp]
  have hu:=s9 ht _ hp
  have hlr:=U0_ _ hp
  generalize (B8 t reads works (E5 t k) (opAt t k)).1=s at *
  unfold fxP
  split
  .exact h0
  unfold fxM
  refine ⟨?_,?_,?_,?_⟩
  .dsimp only
   split
   .exact L9
   split
   .exact hu.hangs _
   exact L9
  .dsimp only
   split
   .exact M7 hu _ _
   exact L9
  .dsimp only
   split
   .exact L9
   exact hu.path
  dsimp only
  split
  .rcases hlr with hlr|⟨q,h1,h2,_⟩<;>omega
  exact ⟨Int.le_refl _,by omega⟩
 rw [if_neg hp];exact h0
end
theorem U3_ {t:Tst} {reads:List Vl} {works:List Bool} (ht:TG t) {l:List Int} {g:Fx->Int} (hl:l.length=nO t) (hg:∀ k,k<nO t->l.getD k 0=g (fxO t reads works k)) {P:Int->Prop} (hP:∀ k,k<nO t->P (g (fxO t reads works k))):∀ (k:Nat) (x:Int),l[k]?=some x->P x:=fun k x h=>by
 have hk:k<nO t:=by rw [<-hl];exact (List.getElem?_eq_some_iff.1 h).1
 have:=hg k hk
 rw [List.getD,h] at this
 replace this:x=g (fxO t reads works k):=this
 rw [this];exact hP k hk
theorem zb4 {t:Tst} (hs:SeaOk t) (ht:TG t) (reads:List Vl) (works:List Bool) (fr:List Int) (hf:fr.length=nO t) (hfr:∀ (k:Nat) (x:Int),fr[k]?=some x->-1<=x/\x<nO t):CsOk ⟨t,D5 t reads works,fr⟩:=by
 have ok:=Q9 t reads works
 have h:∀ k,k<nO t->_:=fun k hk=>zif (reads:=reads) (works:=works) ht hk
 refine ⟨hs.ths,hs.len,hs.n8,ok,(w8 t reads works).2,hf,hfr,?_,?_,?_,?_,?_,hs.fen⟩
 .exact U3_ (g:=Fx.pr) ht ok.l3 (fun _ _=>rfl) fun k hk=>(h k hk).2.2.2
 .intro k x hx
  have hk:k<t.ths.length:=by rw [<-(w8 t reads works).2];exact (List.getElem?_eq_some_iff.1 hx).1
  have e:=(V9 t reads works hk).2
  rw [hx] at e
  cases e
  exact Jl_ hs.len _
 .exact U3_ (g:=Fx.pl) ht ok.l4 (fun _ _=>rfl) fun k hk=>(h k hk).1
 .exact U3_ (g:=Fx.vl) ht ok.l5 (fun _ _=>rfl) fun k hk=>(h k hk).2.1
 exact U3_ (g:=Fx.ph) ht ok.l6 (fun _ _=>rfl) fun k hk=>(h k hk).2.2.1
theorem zMy {t:Tst} {w:List Bool} {fr:List Int} {f:Os'} (h:Z9 t w fr=some f):∃ R,f=D5 t R w:=by
 unfold Z9 at h
 dsimp only at h
 split at h
 .split at h
  .cases h
  cases h
  exact ⟨_,zBw fr _⟩
 cases h
theorem zMz {t:Tst} (hs:SeaOk t) (ht:TG t) (w:List Bool) (fr:List Int) (hw:w.length=nO t) (hf:fr.length=nO t) (hfr:∀ (k:Nat) (x:Int),fr[k]?=some x->-1<=x/\x<nO t) (f:Os') (h:Z9 t w fr=some f):CsOk ⟨t,f,fr⟩/\f.regs.length=t.ths.length:=by
 obtain ⟨R,rfl⟩:=zMy h
 exact ⟨zb4 hs ht R w fr hf hfr,(w8 t R w).1⟩
theorem J7 {α β:Type} {l:List α} {f:α->List β} {m:Nat} (h:∀ a∈l,(f a).length<=m):(l.flatMap f).length<=l.length*m:=by
 induction l with
 | nil=>simp
 | cons a l ih =>
  have h1:=h a (.head _)
  have h2:=ih fun b hb=>h b (.tail _ hb)
  rw [flatMap_cons,length_append,length_cons,Nat.add_mul]
  omega
theorem zC1 (t:Tst):∀ (f k:Nat) (v:List Bool),(zB1 t f k v).length<=2 ^ f
 | 0,_,_=>Nat.le_refl _
 | f+1,k,v=>by
  unfold zB1
  rw [length_append,Nat.pow_succ]
  have h1:=zC1 t f (k+1) v
  have h2:(if (opX t k).op=14 then zB1 t f (k+1) (v.set k true) else []).length<=2 ^ f:=by
   split
   .exact zC1 t f (k+1) _
   simp
  omega
theorem zb5 (t:Tst) (k:Nat):(Yt_ t k).length<=nO t+1:=by
 unfold Yt_
 split
 .unfold Jv_
  have:=length_filter_le (zGy t k) (List.range (nO t))
  rw [length_range] at this
  simp only [length_cons,length_map];omega
 simp
theorem zN0 (t:Tst):∀ (f k:Nat) (p:List Int),(W2_ t f k p).length<=(nO t+1) ^ f
 | 0,_,_=>Nat.le_refl _
 | f+1,k,p=>by
  unfold W2_
  refine Nat.le_trans (J7 (m:=(nO t+1) ^ f) fun i _=>zN0 t f (k+1) _) ?_
  rw [Nat.pow_succ,Nat.mul_comm]
  exact Nat.mul_le_mul_left _ (zb5 t k)
theorem zN1:∀ (f m:Nat) (a l:List Nat),l.length=f->f<=m->(zKb f a l).length<=m ^ f
 | 0,_,_,_,_,_=>Nat.le_refl _
 | f+1,m,a,l,h,hm=>by
  unfold zKb
  refine Nat.le_trans (J7 (m:=m ^ f) fun i hi=>zN1 f m _ _ (by rw [length_eraseIdx_of_lt (List.mem_range.1 hi)];omega) (by omega)) ?_
  rw [length_range,Nat.pow_succ,Nat.mul_comm,h]
  exact Nat.mul_le_mul_left _ hm
def zNw (c:Cs) (loc f m:Nat):Nat:=(List.range m).countP fun k=>c.wr k&&(decide ((loc:Int)<=(c.x k).loc)&&decide ((c.x k).loc<(loc:Int)+f))
theorem Vt_ {α:Type} {p q r:α->Bool} (h:∀ a,(p a=true->r a=true)/\(q a=true->r a=true)/\¬ (p a=true/\q a=true)):∀ l:List α,l.countP p+l.countP q<=l.countP r
 | []=>by simp
 | a::l=>by
  have ih:=Vt_ h l
  obtain ⟨h1,h2,h3⟩:=h a
  rw [countP_cons,countP_cons,countP_cons]
  cases hp:p a<;>cases hq:q a
  .simp;omega
  .rw [h2 hq];simp;omega
  .rw [h1 hp];simp;omega
  exact absurd ⟨hp,hq⟩ h3
theorem zC2 (c:Cs):∀ (f loc:Nat) (l:List Int) (co:Rl),(zNl c f loc l co).length<=c.n ^ zNw c loc f c.n
 | 0,loc,_,_=>by
  have:zNw c loc 0 c.n=0:=List.countP_eq_zero.2 fun k _=>by
   simp only [Bool.and_eq_true,decide_eq_true_eq];omega
  rw [this];exact Nat.le_refl _
 | f+1,loc,l,co=>by
  unfold zNl
  refine Nat.le_trans (J7 (m:=c.n ^ zNw c (loc+1) f c.n) fun p _=>zC2 c f (loc+1) _ _) ?_
  have hl:(j6 c loc c.n).length<=c.n:=by
   unfold j6
   have:=length_filter_le (fun k=>c.wr k&&decide ((c.x k).loc=(loc:Nat))) (List.range c.n)
   rwa [length_range] at this
  have h1:=zN1 _ c.n [] (j6 c loc c.n) rfl hl
  have h2:(j6 c loc c.n).length+zNw c (loc+1) f c.n<=zNw c loc (f+1) c.n:=by
   unfold j6 zNw
   rw [<-countP_eq_length_filter]
   refine Vt_ (fun k=>?_) _
   cases c.wr k
   .simp
   simp only [Bool.true_and,Bool.and_eq_true,decide_eq_true_eq];omega
  refine Nat.le_trans (Nat.mul_le_mul_right _ h1) ?_
  rw [<-Nat.pow_add]
  rcases Nat.eq_zero_or_pos c.n with h0|h0
  .have e0:∀ q:Nat->Bool,(List.range c.n).countP q=0:=fun q=>by rw [h0];rfl
   have:j6 c loc c.n=[]:=by unfold j6;rw [h0];rfl
   rw [this]
   unfold zNw
   rw [e0,e0];exact Nat.le_refl _
  exact Nat.pow_le_pow_right h0 h2
theorem zN2 (c:Cs) (loc f:Nat):zNw c loc f c.n<=c.n:=by
 unfold zNw
 have:=countP_le_length (l:=List.range c.n) (p:=fun k=>c.wr k&&(decide ((loc:Int)<=(c.x k).loc)&&decide ((c.x k).loc<(loc:Int)+f)))
 rwa [length_range] at this
theorem zN3 (kept:Rl) (c:Cs) (las:List Int) (co:Rl):(Jw_ kept c las co).length<=1:=by
 unfold Jw_;split<;>simp
theorem zRt (ord:Cs->Rl) (t:Tst) (h:0<nO t):(j7 ord t).length<=2 ^ nO t*((nO t+1) ^ nO t*nO t ^ nO t):=by
 unfold j7
 refine Nat.le_trans (J7 (m:=(nO t+1) ^ nO t*nO t ^ nO t) fun w _=>?_) (Nat.mul_le_mul_right _ (zC1 t _ _ _))
 refine Nat.le_trans (J7 (m:=nO t ^ nO t) fun fr _=>?_) (Nat.mul_le_mul_right _ (zN0 t _ _ _))
 unfold WG_
 split
 .simp
 rename_i f _
 refine Nat.le_trans (J7 (m:=1) fun p _=>zN3 _ _ _ _) ?_
 rw [Nat.mul_one]
 refine Nat.le_trans (zC2 ⟨t,f,fr⟩ _ _ _ _) ?_
 exact Nat.pow_le_pow_right h (zN2 ⟨t,f,fr⟩ _ _)
theorem zN4:∀ (l:List Rn) (s:List (List Int)),(l.foldl (fun s r=>if r.st∈s then s else s++[r.st]) s).length<=s.length+l.length
 | [],s=>Nat.le_refl _
 | r::l,s=>by
  rw [foldl_cons]
  refine Nat.le_trans (zN4 l _) ?_
  split
  .simp only [length_cons];omega
  simp only [length_append,length_cons,length_nil];omega
theorem zU4 (ord:Cs->Rl) (t:Tst) (h6:nO t<=6):(O7 ord t).length<=400000000000:=by
 unfold O7 zYe
 refine Nat.le_trans (zN4 _ _) ?_
 rw [length_nil,Nat.zero_add]
 rcases Nat.eq_zero_or_pos (nO t) with h0|h0
 .unfold j7
  rw [h0]
  refine Nat.le_trans (J7 (m:=1) fun w _=>?_) (by show 1*1<=_;omega)
  refine Nat.le_trans (J7 (m:=1) fun fr _=>?_) (by show 1*1<=_;omega)
  unfold WG_
  split
  .simp
  rename_i f _
  refine Nat.le_trans (J7 (m:=1) fun p _=>zN3 _ _ _ _) ?_
  have hl:=zC2 ⟨t,f,fr⟩ t.locs.length 0 (List.replicate 8 0) fun _ _=>false
  have hu:=zN2 ⟨t,f,fr⟩ 0 t.locs.length
  have hn:(⟨t,f,fr⟩:Cs).n=0:=h0
  rw [hn] at hl hu
  have e:zNw ⟨t,f,fr⟩ 0 t.locs.length 0=0:=by omega
  rw [e] at hl
  simpa using hl
 refine Nat.le_trans (zRt ord t h0) ?_
 have h1:2 ^ nO t<=2 ^ 6:=Nat.pow_le_pow_right (by omega) h6
 have h2:(nO t+1) ^ nO t<=7 ^ 6:=Nat.le_trans (Nat.pow_le_pow_right (by omega) h6) (Nat.pow_le_pow_left (by omega) 6)
 have h3:nO t ^ nO t<=6 ^ 6:=Nat.le_trans (Nat.pow_le_pow_right h0 h6) (Nat.pow_le_pow_left h6 6)
 exact Nat.le_trans (Nat.mul_le_mul h1 (Nat.mul_le_mul h2 h3)) (by decide)
theorem zig {ord:Cs->Rl} {t:Tst} (hs:SeaOk t):∀ r∈j7 ord t,r.st.length=41:=fun r hr=>zZ3 (fun g f=>Zn_ hs.ths hs.locs g f) hr
def zGo (p s:Int):Ins:={ op:=15,rd:=0,loc:=0,aR:=false,aN:=0,bR:=false,bN:=0,acq:=false,rel:=false,dep:=0,pred:=p,succ:=s,skip:=0 }
def zb6 (f:Bool) (i:Int):List Ins:=if i=0 then (if f then [Q9_ 0,zGo 2 2,Q9_ 1] else [Q9_ 0,Q9_ 1]) else (if f then [JA_ 1,zGo 1 1,{ JA_ 0 with rd:=1 }] else [JA_ 1,{ JA_ 0 with rd:=1 }])
def YR_ (f:Bool):Tst:={ locs:=zNo,ths:=[zb6 f 0,zb6 f 1],asks:=[] }
theorem zGp:passing=YR_ false:=rfl
theorem zN5 (f:Bool):(YR_ f).cs=[.ro 2 (Z1 zNo),.ro 1 (O3 (YR_ f).ths),.ro 3 []]:=rfl
def zH3 (a b:Int):List Int:=4::([a,b,1,1]++List.replicate 36 0)
theorem Jm_:O7 WF_ (YR_ false)=[zH3 0 0,zH3 0 1,zH3 1 0,zH3 1 1]:=by kernel_rfl
theorem Jn_:O7 WF_ (YR_ true)=[zH3 0 0,zH3 0 1,zH3 1 1]:=by kernel_rfl
theorem XQ_ (f:Bool):I7 (YR_ f)=0:=by
 cases f
 .kernel_rfl
 kernel_rfl
theorem zF4 (f:Bool):X5_ (YR_ f):=fun l hl x hx=>by
 cases f<;>simp only [YR_,zb6,mem_cons,not_mem_nil,or_false,Bool.false_eq_true,if_true,if_false] at hl<;>rcases hl with rfl|rfl<;>simp only [mem_cons,not_mem_nil,or_false,Int.reduceEq,if_false] at hx
 .rcases hx with rfl|rfl<;>exact ⟨by decide,by decide⟩
 .rcases hx with rfl|rfl<;>exact ⟨by decide,by decide⟩
 .rcases hx with rfl|rfl|rfl<;>exact ⟨by decide,by decide⟩
 rcases hx with rfl|rfl|rfl<;>exact ⟨by decide,by decide⟩
theorem zih (f:Bool):nO (YR_ f)<=6:=by cases f<;>decide
theorem zRu {r:Rn} {s:List (List Int)} (h:s.Nodup):(if r.st∈s then s else s++[r.st]).Nodup:=by
 split
 .exact h
 rename_i hn
 exact List.nodup_append.2 ⟨h,by simp,fun a ha b hb=>by cases List.mem_singleton.1 hb;exact fun e=>hn (e▸ha)⟩
theorem zN6:∀ (l:List Rn) (s:List (List Int)),s.Nodup->(l.foldl (fun s r=>if r.st∈s then s else s++[r.st]) s).Nodup
 | [],_,h=>h
 | r::l,s,h=>zN6 l _ (zRu h)
theorem zRv (ord:Cs->Rl) (t:Tst):(O7 ord t).Nodup:=zN6 _ [] nodup_nil
theorem U4_ {ord:Cs->Rl} {t:Tst} (hs:SeaOk t):∀ q∈L5 (O7 ord t),q.length=41:=fun q hq=>by
 have h:=mem_setOf.1 hq
 have key:∀ (l:List Rn) (s:List (List Int)),(∀ r∈l,r.st.length=41)->(∀ q∈s,q.length=41)->∀ q∈l.foldl (fun s r=>if r.st∈s then s else s++[r.st]) s,q.length=41:=fun l=>by
  induction l with
  | nil=>exact fun s _ h=>h
  | cons r l ih =>
   intro s h1 h2
   refine ih _ (fun r' hr'=>h1 r' (.tail _ hr')) fun q hq=>?_
   dsimp only at hq
   split at hq
   .exact h2 q hq
   rcases List.mem_append.1 hq with hq|hq
   .exact h2 q hq
   rw [List.mem_singleton.1 hq];exact h1 r (.head _)
 exact key _ [] (zig hs) (fun q h=>nomatch h) q h
theorem U5_:decide (zH3 1 0∈L5 (O7 WF_ (YR_ false)))=true:=by
 rw [decide_eq_true_eq,mem_setOf,Jm_];exact .tail _ (.tail _ (.head _))
theorem zRw:decide (zH3 1 0∈L5 (O7 WF_ (YR_ true)))=false:=by
 rw [decide_eq_false_iff_not,mem_setOf,Jn_];decide
theorem zii {ord:Cs->Rl} {t:Tst} {e:List Int}:e∈O7 ord t↔∃ r∈j7 ord t,r.st=e:=by
 have key:∀ (l:List Rn) (s:List (List Int)),e∈l.foldl (fun s r=>if r.st∈s then s else s++[r.st]) s↔e∈s\/∃ r∈l,r.st=e:=fun l=>by
  induction l with
  | nil=>intro s;simp
  | cons r l ih =>
   intro s
   rw [foldl_cons,ih]
   by_cases h:r.st∈s
   .rw [if_pos h]
    constructor
    .rintro (h1|⟨q,h1,h2⟩)
     .exact .inl h1
     exact .inr ⟨q,.tail _ h1,h2⟩
    rintro (h1|⟨q,h1,h2⟩)
    .exact .inl h1
    rcases List.mem_cons.1 h1 with rfl|h1
    .exact .inl (h2▸h)
    exact .inr ⟨q,h1,h2⟩
   rw [if_neg h]
   constructor
   .rintro (h1|⟨q,h1,h2⟩)
    .rcases List.mem_append.1 h1 with h1|h1
     .exact .inl h1
     exact .inr ⟨r,.head _,(List.mem_singleton.1 h1).symm⟩
    exact .inr ⟨q,.tail _ h1,h2⟩
   rintro (h1|⟨q,h1,h2⟩)
   .exact .inl (mem_append_left _ h1)
   rcases List.mem_cons.1 h1 with rfl|h1
   .exact .inl (mem_append_right _ (by rw [h2];simp))
   exact .inr ⟨q,h1,h2⟩
 have:=key (j7 ord t) []
 simpa [O7,zYe] using this
section
variable {t:Tst} {R R':List Vl} {w w':List Bool} {i b k:Nat}
theorem Wd_:∀ b,(∀ k,k<nO t->E5 t k=i->opAt t k<b->R.getD k zV=R'.getD k zV/\w.getD k false=w'.getD k false)->B8 t R w i b=B8 t R' w' i b
 | 0,_=>rfl
 | b+1,h=>by
  have ih:=Wd_ b fun k h1 h2 h3=>h k h1 h2 (by omega)
  by_cases hb:b<(lth t i).length
  .have hx:=List.getElem?_eq_getElem hb
   rw [E9 hx,E9 (reads:=R') hx,<-ih]
   by_cases hp:(B8 t R w i b).2=true
   .rw [if_pos hp,if_pos hp]
    congr 1
    unfold N8
    split
    .rfl
    split
    .rename_i hm
     obtain ⟨a1,a2,a3,a4⟩:=J6 hx hm
     obtain ⟨e1,e2⟩:=h _ a1 a3 (by omega)
     rw [m6 hp,e1,e2]
    rfl
   rw [if_neg hp,if_neg hp]
  rw [I0 hb,I0 hb];exact ih
theorem zRx (hk:k<nO t) (h:∀ q,q<nO t->E5 t q=E5 t k->opAt t q<=opAt t k->R.getD q zV=R'.getD q zV/\w.getD q false=w'.getD q false):fxO t R w k=fxO t R' w' k:=by
 rw [X6 hk,X6 hk,Wd_ _ fun q h1 h2 h3=>h q h1 h2 (by omega)]
 by_cases hp:(B8 t R' w' (E5 t k) (opAt t k)).2=true
 .rw [if_pos hp,if_pos hp]
  have hkk:(B8 t R' w' (E5 t k) (opAt t k)).1.k=k:=by rw [m6 hp];exact (I5 hk).2.2.1
  obtain ⟨e1,e2⟩:=h k hk rfl (Nat.le_refl _)
  unfold fxP
  rw [hkk,e1,e2]
 rw [if_neg hp,if_neg hp]
theorem zN7 {q:Nat} (hk:k<nO t) (hq:q<nO t) (h1:E5 t q=E5 t k) (h2:opAt t q=opAt t k):q=k:=by
 have a:=(I5 hk).2.2.1
 have b:=(I5 hq).2.2.1
 rw [h1,h2] at b
 exact b.symm.trans a
end
structure At (t:Tst) (R:List Vl) (w:List Bool) (i:Nat) (h:Thr):Prop where
 len:h.pc<=(lth t i).length
 ok:(B8 t R w i h.pc).2=true
 out:(B8 t R w i h.pc).1.out<=0
 rg:∀ r,(B8 t R w i h.pc).1.w.regs r=⟨true,h.rg r⟩
section
variable {t:Tst} {R:List Vl} {w:List Bool} {i:Nat} {h:Thr} {x:Ins}
theorem At.arg (ha:At t R w i h) (r:Bool) (n:Int):T3 (B8 t R w i h.pc).1.w r n=⟨true,Yz_ h r n⟩:=by
 unfold T3 Yz_
 cases r
 .rfl
 exact ha.rg _
theorem We_ {u:Wk} {rg:Nat->Int} (hr:∀ r,u.regs r=⟨true,rg r⟩) (rd:Int) (v on:Int):∀ r,(Wr_ u rd ⟨true,v⟩ on).regs r=⟨true,upd rg rd.toNat v r⟩:=fun r=>by
 show (if r=rd.toNat then q7 ⟨true,v⟩ else u.regs r)=_
 unfold upd
 split
 .rfl
 exact hr r
theorem zN8 {b : Nat} {n : Nat} (hok : (B8 t R w i b).2 = true) (ho : (B8 t R w i b).1.out = (n : Int)) : ∀ j, j ≤ n → b + j ≤ (lth t i).length →
    (B8 t R w i (b+j)).2=true/\(B8 t R w i (b+j)).1.out=(n:Int)-j/\(B8 t R w i (b+j)).1.w.regs=(B8 t R w i b).1.w.regs/\(B8 t R w i (b+j)).1.w.lr=(B8 t R w i b).1.w.lr/\(B8 t R w i (b+j)).1.w.lrLoc=(B8 t R w i b).1.w.lrLoc
  | 0,_,_=>⟨hok,by simpa using ho,rfl,rfl,rfl⟩
  | j+1,hj,hl=>by
    obtain ⟨h1,h2,h3,h4,h5⟩:=zN8 hok ho j (by omega) (by omega)
    have hx:=List.getElem?_eq_getElem (show b+j<(lth t i).length by omega)
    rw [show b+(j+1)=b+j+1 by omega,E9 hx,if_pos h1]
    have hpos:0<(B8 t R w i (b+j)).1.out:=by omega
    unfold N8 goB
    rw [if_pos hpos]
    refine ⟨?_,?_,h3,h4,h5⟩
    . simp [show ¬ (B8 t R w i (b+j)).1.out<=0 by omega]
    dsimp only;omega
theorem At.loc (ht : TG t) (ha : At t R w i h) (hx : (lth t i)[h.pc]? = some x) (ok : TOk (lth t i).length h.pc x) (hm : G4 x.op = false) : At t R w i (m5 x h) ∧ h.pc < (m5 x h).pc ∧
    ((B8 t R w i (m5 x h).pc).1.w.lr=(B8 t R w i h.pc).1.w.lr/\(B8 t R w i (m5 x h).pc).1.w.lrLoc=(B8 t R w i h.pc).1.w.lrLoc) ∧
    (∀ b,h.pc<b->b<(m5 x h).pc->0<(B8 t R w i b).1.out):=by
  have hlt:=(List.getElem?_eq_some_iff.1 hx).1
  have hmI:J8 x=false:=hm
  have hout:=ha.out
  have hbk:brK (B8 t R w i h.pc).1.w x=true:=by unfold brK;rw [ha.arg,ha.arg];rfl
  have e1:=E9 (reads:=R) (works:=w) hx
  rw [if_pos ha.ok] at e1
  have hgo:goB x (B8 t R w i h.pc).1=true:=by unfold goB;rw [hbk];simp
  rw [hgo] at e1
  have hs:N8 R w h.pc x (B8 t R w i h.pc).1=if VL_ x.op then { (B8 t R w i h.pc).1 with w:=brW (B8 t R w i h.pc).1.w x,out:=brN (B8 t R w i h.pc).1.w x } else { (B8 t R w i h.pc).1 with w:=H8 (B8 t R w i h.pc).1.w x }:=by
    unfold N8
    rw [if_neg (by omega),hmI]
    rfl
  rw [hs] at e1
  have fin1:∀ {h':Thr},h'.pc=h.pc+1->∀ b,h.pc<b->b<h'.pc->0<(B8 t R w i b).1.out:=fun e b h1 h2=>by omega
  have h15:∀ {v:Bool},(decide (15<x.op)&&v)=true->15<x.op:=fun h=>by simpa using (Bool.and_eq_true_iff.1 h).1
  by_cases hb:VL_ x.op=true
  . rw [if_pos hb] at e1
    have hop:x.op=16\/x.op=17:=by simpa [VL_] using hb
    have hbrN:brN (B8 t R w i h.pc).1.w x=if brA h x=true then x.skip else 0:=by
      unfold brN brA
      rw [hbk,ha.arg,ha.arg]
      have:decide (15<x.op)=true:=by rw [decide_eq_true_eq];omega
      rw [this]
    by_cases hbr:brA h x=true
    . rw [if_pos hbr] at hbrN
      have el:m5 x h={ h with pc:=h.pc+x.skip.toNat+1 }:=by
        unfold m5
        rw [if_neg (by omega),if_neg (by omega),if_pos hbr]
      have hs0:=ok.skip0
      have hsk:=ok.skip
      have hst:=zN8 (t:=t) (R:=R) (w:=w) (i:=i) (b:=h.pc+1) (n:=x.skip.toNat) (by rw [e1]) (by rw [e1];dsimp only;rw [hbrN];omega)
      have hend:=hst x.skip.toNat (Nat.le_refl _) (by omega)
      rw [el]
      have ep:h.pc+1+x.skip.toNat=h.pc+x.skip.toNat+1:=by omega
      rw [ep] at hend
      obtain ⟨q1,q2,q3,q4,q5⟩:=hend
      refine ⟨⟨by dsimp only;omega,q1,by dsimp only;omega,fun r=>?_⟩,by dsimp only;omega,⟨?_,?_⟩,fun b hb1 hb2=>?_⟩
      . dsimp only;rw [q3,e1];exact ha.rg r
      . dsimp only;rw [q4,e1];rfl
      . dsimp only;rw [q5,e1];rfl
      dsimp only at hb2
      have:=(hst (b-(h.pc+1)) (by omega) (by omega)).2.1
      rw [show h.pc+1+(b-(h.pc+1))=b by omega] at this
      omega
    rw [if_neg hbr] at hbrN
    have el:m5 x h={ h with pc:=h.pc+1 }:=by
      unfold m5
      rw [if_neg (by omega),if_neg (by omega),if_neg hbr]
    rw [el]
    refine ⟨⟨by dsimp only;omega,by dsimp only;rw [e1],by dsimp only;rw [e1];dsimp only;omega,fun r=>?_⟩,by dsimp only;omega,⟨?_,?_⟩,fin1 rfl⟩
    . dsimp only;rw [e1];exact ha.rg r
    . dsimp only;rw [e1];rfl
    dsimp only;rw [e1];rfl
  rw [if_neg hb] at e1
  have hnb:¬ (x.op=16\/x.op=17):=by simpa [VL_] using hb
  have hbr:¬ brA h x=true:=fun hc=>by
    have:=h15 hc
    have:=ok.op17;omega
  by_cases h1:x.op=1
  . have el:m5 x h={ h with pc:=h.pc+1,rg:=upd h.rg x.rd.toNat x.aN }:=by unfold m5;rw [if_pos h1]
    have ep:H8 (B8 t R w i h.pc).1.w x=Wr_ (B8 t R w i h.pc).1.w x.rd ⟨true,x.aN⟩ 0:=by
      unfold H8
      rw [if_neg (by omega),if_pos h1,ha.arg]
      have:x.aR=false:=ht.one hx h1
      rw [this];rfl
    rw [ep] at e1
    rw [el]
    refine ⟨⟨by dsimp only;omega,by dsimp only;rw [e1],by dsimp only;rw [e1];exact hout,fun r=>?_⟩,by dsimp only;omega,⟨?_,?_⟩,fin1 rfl⟩
    . dsimp only;rw [e1];exact We_ ha.rg _ _ _ r
    . dsimp only;rw [e1];rfl
    dsimp only;rw [e1];rfl
  by_cases h9:x.op<9
  . have el:m5 x h={ h with pc:=h.pc+1,rg:=upd h.rg x.rd.toNat (QA_ x.op (Yz_ h x.aR x.aN) (Yz_ h x.bR x.bN)) }:=by unfold m5;rw [if_neg h1,if_pos h9]
    obtain ⟨on,ep⟩:∃ on,H8 (B8 t R w i h.pc).1.w x=Wr_ (B8 t R w i h.pc).1.w x.rd ⟨true,QA_ x.op (Yz_ h x.aR x.aN) (Yz_ h x.bR x.bN)⟩ on:=by
      unfold H8
      rw [if_neg (by omega),if_neg h1,ha.arg,ha.arg]
      exact ⟨_,rfl⟩
    rw [ep] at e1
    rw [el]
    refine ⟨⟨by dsimp only;omega,by dsimp only;rw [e1],by dsimp only;rw [e1];exact hout,fun r=>?_⟩,by dsimp only;omega,⟨?_,?_⟩,fin1 rfl⟩
    . dsimp only;rw [e1];exact We_ ha.rg _ _ _ r
    . dsimp only;rw [e1];rfl
    dsimp only;rw [e1];rfl
  have h15':x.op=15:=by
    have:=ok.op17
    simp [G4,rdB,wrB] at hm
    omega
  have el:m5 x h={ h with pc:=h.pc+1 }:=by unfold m5;rw [if_neg h1,if_neg h9,if_neg hbr]
  have ep:H8 (B8 t R w i h.pc).1.w x=(B8 t R w i h.pc).1.w:=by unfold H8;rw [if_pos h15']
  rw [ep] at e1
  rw [el]
  refine ⟨⟨by dsimp only;omega,by dsimp only;rw [e1],by dsimp only;rw [e1];exact hout,fun r=>?_⟩,by dsimp only;omega,⟨?_,?_⟩,fin1 rfl⟩
  . dsimp only;rw [e1];exact ha.rg r
  . dsimp only;rw [e1]
  dsimp only;rw [e1]
theorem At.mem (ha : At t R w i h) (hx : (lth t i)[h.pc]? = some x) (hm : G4 x.op = true) : F8 t i h.pc < nO t ∧ opX t (F8 t i h.pc) = x ∧ E5 t (F8 t i h.pc) = i ∧ opAt t (F8 t i h.pc) = h.pc ∧
    B8 t R w i (h.pc+1)=(⟨O1 (B8 t R w i h.pc).1.w x (F8 t i h.pc) (R.getD (F8 t i h.pc) zV) (w.getD (F8 t i h.pc) false),(B8 t R w i h.pc).1.out,F8 t i h.pc+1⟩,true) ∧
    fxO t R w (F8 t i h.pc)=fxM (B8 t R w i h.pc).1.w x (R.getD (F8 t i h.pc) zV) (w.getD (F8 t i h.pc) false):=by
  have hmI:J8 x=true:=hm
  obtain ⟨a1,a2,a3,a4⟩:=J6 hx hmI
  have hout:=ha.out
  refine ⟨a1,a2,a3,a4,?_,?_⟩
  . rw [E9 hx,if_pos ha.ok]
    unfold N8 goB
    rw [if_neg (by omega),hmI,m6 ha.ok]
    simp
  rw [X6 a1,a2,a3,a4,if_pos ha.ok]
  unfold fxP
  rw [if_neg (by omega),m6 ha.ok]
theorem At.next (ha : At t R w i h) (hx : (lth t i)[h.pc]? = some x) (hm : G4 x.op = true) {rg' : Nat → Int} (b : List (Nat × Int))
    (hr:∀ r,(O1 (B8 t R w i h.pc).1.w x (F8 t i h.pc) (R.getD (F8 t i h.pc) zV) (w.getD (F8 t i h.pc) false)).regs r=⟨true,rg' r⟩):At t R w i ⟨h.pc+1,rg',b⟩:=by
  obtain ⟨_,_,_,_,e,_⟩:=ha.mem hx hm
  have hlt:=(List.getElem?_eq_some_iff.1 hx).1
  refine ⟨by dsimp only;omega,by dsimp only;rw [e],by dsimp only;rw [e];exact ha.out,fun r=>?_⟩
  dsimp only;rw [e];exact hr r
end
structure Gs where
 th:Nat->Thr
 hd:Nat->Int
 ls:Nat->Bool
 mm:Nat->Int
def U6_ (g:Gs) (i:Nat) (l:Int):Nat->Bool:=fun j=>g.ls j||(decide (j≠i)&&decide (g.hd j=l+1))
def swV (x:Ins) (a b:Int):Int:=if x.op=12 then IntKind.u64.wrap (a+b) else a
inductive GStep (m:Bool) (t:Tst):Gs->Gs->Prop
 | loc {g:Gs} {i:Nat} {x:Ins} (hi:i<t.ths.length) (hx:(lth t i)[(g.th i).pc]?=some x) (hm:G4 x.op=false) (hw:drB x=true->(g.th i).bf=[]):GStep m t g ⟨upd g.th i (m5 x (g.th i)),g.hd,g.ls,g.mm⟩
 | ld {g:Gs} {i:Nat} {x:Ins} (hi:i<t.ths.length) (hx:(lth t i)[(g.th i).pc]?=some x) (h:x.op=9):GStep m t g ⟨upd g.th i ⟨(g.th i).pc+1,upd (g.th i).rg x.rd.toNat (Yy_ (g.th i).bf g.mm x.loc.toNat),(g.th i).bf⟩,g.hd,g.ls,g.mm⟩
 | lr {g:Gs} {i:Nat} {x:Ins} (hf:m=false) (hi:i<t.ths.length) (hx:(lth t i)[(g.th i).pc]?=some x) (h:x.op=13):GStep m t g ⟨upd g.th i ⟨(g.th i).pc+1,upd (g.th i).rg x.rd.toNat (g.mm x.loc.toNat),(g.th i).bf⟩,upd g.hd i (x.loc+1),upd g.ls i false,g.mm⟩
 | stb {g:Gs} {i:Nat} {x:Ins} (hf:m=true) (hi:i<t.ths.length) (hx:(lth t i)[(g.th i).pc]?=some x) (h:x.op=10):GStep m t g ⟨upd g.th i ⟨(g.th i).pc+1,(g.th i).rg,(g.th i).bf++[(x.loc.toNat,Yz_ (g.th i) x.aR x.aN)]⟩,g.hd,g.ls,g.mm⟩
 | st {g:Gs} {i:Nat} {x:Ins} (hf:m=false) (hi:i<t.ths.length) (hx:(lth t i)[(g.th i).pc]?=some x) (h:x.op=10):GStep m t g ⟨upd g.th i ⟨(g.th i).pc+1,(g.th i).rg,(g.th i).bf⟩,g.hd,U6_ g i x.loc,upd g.mm x.loc.toNat (Yz_ (g.th i) x.aR x.aN)⟩
 | sw {g:Gs} {i:Nat} {x:Ins} (hi:i<t.ths.length) (hx:(lth t i)[(g.th i).pc]?=some x) (h:x.op=11\/x.op=12) (hb:(g.th i).bf=[]):GStep m t g ⟨upd g.th i ⟨(g.th i).pc+1,upd (g.th i).rg x.rd.toNat (g.mm x.loc.toNat),(g.th i).bf⟩,g.hd,U6_ g i x.loc,upd g.mm x.loc.toNat (swV x (Yz_ (g.th i) x.aR x.aN) (g.mm x.loc.toNat))⟩
 | scf {g:Gs} {i:Nat} {x:Ins} (hf:m=false) (hi:i<t.ths.length) (hx:(lth t i)[(g.th i).pc]?=some x) (h:x.op=14):GStep m t g ⟨upd g.th i ⟨(g.th i).pc+1,upd (g.th i).rg x.rd.toNat 1,(g.th i).bf⟩,upd g.hd i 0,upd g.ls i false,g.mm⟩
 | scw {g:Gs} {i:Nat} {x:Ins} (hf:m=false) (hi:i<t.ths.length) (hx:(lth t i)[(g.th i).pc]?=some x) (h:x.op=14) (h1:g.hd i=x.loc+1) (h2:g.ls i=false):GStep m t g ⟨upd g.th i ⟨(g.th i).pc+1,upd (g.th i).rg x.rd.toNat 0,(g.th i).bf⟩,upd g.hd i 0,U6_ g i x.loc,upd g.mm x.loc.toNat (Yz_ (g.th i) x.aR x.aN)⟩
 | dr {g:Gs} {i:Nat} {p:Nat × Int} {r:List (Nat × Int)} (hf:m=true) (hi:i<t.ths.length) (hb:(g.th i).bf=p::r):GStep m t g ⟨upd g.th i ⟨(g.th i).pc,(g.th i).rg,r⟩,g.hd,g.ls,upd g.mm p.1 p.2⟩
inductive GRun (m:Bool) (t:Tst):Gs->Gs->Prop
 | nil (g:Gs):GRun m t g g
 | snoc {a b c:Gs}:GRun m t a b->GStep m t b c->GRun m t a c
def zRy (t:Tst):Gs:=⟨fun _=>zc3,fun _=>0,fun _=>false,(W4_ t).mm⟩
def zU5 (t:Tst) (g:Gs):Prop:=∀ i,i<t.ths.length->(g.th i).bf=[]/\(lth t i)[(g.th i).pc]?=none
def znv (t:Tst) (g:Gs):List Int:=T4 t ((List.range t.ths.length).map fun i=>(g.th i).rg) g.mm
def QD_ (t:Tst) (R:List Vl) (w:List Bool) (k:Nat):Int:=(fxO t R w k).wr.v
def u0 (t:Tst) (v:Nat->Int) (mm:Nat->Int) (k:Nat):Nat->Int:=if wrB (opX t k).op=true then upd mm (opX t k).loc.toNat (v k) else mm
def n6 (t:Tst) (v:Nat->Int) (L:List Nat):Nat->Int:=L.foldl (u0 t v) (W4_ t).mm
theorem Vu_ (t:Tst) (v:Nat->Int) (L:List Nat) (k:Nat):n6 t v (L++[k])=u0 t v (n6 t v L) k:=by unfold n6;rw [foldl_append];rfl
theorem Wf_ {t:Tst} {v v':Nat->Int} {L:List Nat} (h:∀ k∈L,v k=v' k):n6 t v L=n6 t v' L:=by
 unfold n6
 generalize (W4_ t).mm=m
 induction L generalizing m with
 | nil=>rfl
 | cons a L ih =>
  rw [foldl_cons,foldl_cons]
  have:u0 t v m a=u0 t v' m a:=by unfold u0;rw [h a (.head _)]
  rw [this]
  exact ih (fun k hk=>h k (.tail _ hk)) _
theorem zGq {t:Tst} {v:Nat->Int} {L P:List Nat} (h:∀ k∈P,wrB (opX t k).op=true):Yy_ (P.map fun k=>((opX t k).loc.toNat,v k)) (n6 t v L)=n6 t v (L++P):=by
 unfold n6
 rw [foldl_append]
 generalize L.foldl (u0 t v) (W4_ t).mm=m
 induction P generalizing m with
 | nil=>rfl
 | cons a P ih =>
  rw [map_cons,foldl_cons]
  show Yy_ _ (upd m _ _)=_
  have:u0 t v m a=upd m (opX t a).loc.toNat (v a):=if_pos (h a (.head _))
  rw [this]
  exact ih (fun k hk=>h k (.tail _ hk)) _
def psd (t:Tst) (g:Gs) (k:Nat):Prop:=opAt t k<(g.th (E5 t k)).pc
structure Iv (m:Bool) (t:Tst) (R:List Vl) (w:List Bool) (L:List Nat) (P:Nat->List Nat) (g:Gs):Prop where
 at_:∀ i,i<t.ths.length->At t R w i (g.th i)
 bf:∀ i,i<t.ths.length->(g.th i).bf=(P i).map fun k=>((opX t k).loc.toNat,QD_ t R w k)
 ps:∀ i,i<t.ths.length->(P i).Pairwise fun a b=>a<b
 pm:∀ i,i<t.ths.length->∀ k,k∈P i↔k<nO t/\E5 t k=i/\psd t g k/\(fxO t R w k).st=1/\(opX t k).op=10/\m=true/\k∉L
 mm:g.mm=n6 t (QD_ t R w) L
 nd:L.Nodup
 inL:∀ k∈L,k<nO t/\psd t g k/\(fxO t R w k).st=1
 out:∀ k,k<nO t->psd t g k->(fxO t R w k).st=1->k∈L\/(m=true/\(opX t k).op=10)
structure Hld (t:Tst) (R:List Vl) (w:List Bool) (L:List Nat) (g:Gs):Prop where
 hd:∀ i,i<t.ths.length->g.hd i=if 0<(B8 t R w i (g.th i).pc).1.w.lr then (B8 t R w i (g.th i).pc).1.w.lrLoc+1 else 0
 ls:∀ i,i<t.ths.length->∀ q:Nat,(B8 t R w i (g.th i).pc).1.w.lr=(q:Int)+1->(g.ls i=true↔∃ L1 L2 j,L=L1++q::L2/\j∈L2/\wrB (opX t j).op=true/\(opX t j).loc=(B8 t R w i (g.th i).pc).1.w.lrLoc/\E5 t j≠i)
section
variable {m:Bool} {t:Tst} {R R':List Vl} {w w':List Bool} {L:List Nat} {P:Nat->List Nat} {g:Gs} {i k:Nat} {x:Ins}
theorem Jo_ (hx:(lth t i)[k]?=some x):i<t.ths.length:=(List.getElem?_eq_some_iff.1 (Zy_ hx)).1
theorem Iv.pre (h:∀ k,k<nO t->psd t g k->R.getD k zV=R'.getD k zV/\w.getD k false=w'.getD k false) {b:Nat} (hb:b<=(g.th i).pc):B8 t R w i b=B8 t R' w' i b :=
 Wd_ _ fun k h1 h2 h3=>h k h1 (by unfold psd;rw [h2];omega)
theorem Iv.fx (h:∀ k,k<nO t->psd t g k->R.getD k zV=R'.getD k zV/\w.getD k false=w'.getD k false) (hk:k<nO t) (hp:psd t g k):fxO t R w k=fxO t R' w' k :=
 zRx hk fun q h1 h2 h3=>h q h1 (by unfold psd at hp ⊢;rw [h2];omega)
theorem Iv.ext (h:Iv m t R w L P g) (he:∀ k,k<nO t->psd t g k->R.getD k zV=R'.getD k zV/\w.getD k false=w'.getD k false):Iv m t R' w' L P g where
 at_ i hi:=by
  obtain ⟨a1,a2,a3,a4⟩:=h.at_ i hi
  have e:=Iv.pre (i:=i) he (Nat.le_refl _)
  exact ⟨a1,by rw [<-e];exact a2,by rw [<-e];exact a3,by rw [<-e];exact a4⟩
 bf i hi:=by
  rw [h.bf i hi]
  apply map_congr_left
  intro k hk
  obtain ⟨k1,k2,k3,_⟩:=(h.pm i hi k).1 hk
  unfold QD_
  rw [Iv.fx he k1 k3]
 ps:=h.ps
 pm i hi k:=by
  rw [h.pm i hi k]
  constructor
  .rintro ⟨a1,a2,a3,a4,a5⟩;exact ⟨a1,a2,a3,by rw [<-Iv.fx he a1 a3];exact a4,a5⟩
  rintro ⟨a1,a2,a3,a4,a5⟩;exact ⟨a1,a2,a3,by rw [Iv.fx he a1 a3];exact a4,a5⟩
 mm:=by
  rw [h.mm]
  refine Wf_ fun k hk=>?_
  obtain ⟨a1,a2,a3⟩:=h.inL k hk
  unfold QD_;rw [Iv.fx he a1 a2]
 nd:=h.nd
 inL k hk:=by
  obtain ⟨a1,a2,a3⟩:=h.inL k hk
  exact ⟨a1,a2,by rw [<-Iv.fx he a1 a2];exact a3⟩
 out k hk hp hs:=h.out k hk hp (by rw [Iv.fx he hk hp];exact hs)
theorem Hld.ext (h:Hld t R w L g) (he:∀ k,k<nO t->psd t g k->R.getD k zV=R'.getD k zV/\w.getD k false=w'.getD k false):Hld t R' w' L g where
 hd i hi:=by
  rw [<-Iv.pre (i:=i) he (Nat.le_refl _)];exact h.hd i hi
 ls i hi q hq:=by
  rw [<-Iv.pre (i:=i) he (Nat.le_refl _)] at hq ⊢;exact h.ls i hi q hq
theorem zC3 {h':Thr} {hd:Nat->Int} {ls:Nat->Bool} {mm:Nat->Int}:psd t ⟨upd g.th i h',hd,ls,mm⟩ k↔(E5 t k=i/\opAt t k<h'.pc)\/(E5 t k≠i/\psd t g k):=by
 unfold psd upd
 dsimp only
 by_cases e:E5 t k=i
 .rw [if_pos e];simp [e]
 rw [if_neg e];simp [e]
theorem zRz {h':Thr} {hd:Nat->Int} {ls:Nat->Bool} {mm:Nat->Int} (hp:h'.pc=(g.th i).pc):psd t ⟨upd g.th i h',hd,ls,mm⟩ k↔psd t g k:=by
 rw [zC3,hp]
 unfold psd
 by_cases e:E5 t k=i
 .rw [e];simp
 simp [e]
theorem zN9 {h' : Thr} {hd : Nat → Int} {ls : Nat → Bool} {mm : Nat → Int} (hx : (lth t i)[(g.th i).pc]? = some x) (hm : G4 x.op = true) (hp : h'.pc = (g.th i).pc + 1) {j : Nat} (hj : j < nO t) :
    psd t ⟨upd g.th i h',hd,ls,mm⟩ j↔psd t g j\/j=F8 t i (g.th i).pc:=by
  obtain ⟨a1,a2,a3,a4⟩:=J6 hx hm
  rw [zC3,hp]
  unfold psd
  by_cases e:E5 t j=i
  . rw [e]
    constructor
    . rintro (⟨_,h⟩|⟨h,_⟩)
      . by_cases e2:opAt t j=(g.th i).pc
        . exact .inr (zN7 a1 hj (e.trans a3.symm) (e2.trans a4.symm))
        exact .inl (by omega)
      exact absurd rfl h
    rintro (h|h)
    . exact .inl ⟨rfl,by omega⟩
    left;exact ⟨rfl,by rw [h,a4];omega⟩
  constructor
  . rintro (⟨h,_⟩|⟨_,h⟩)
    . exact absurd h e
    exact .inl h
  rintro (h|h)
  . exact .inr ⟨e,h⟩
  exact absurd (by rw [h,a3]) e
theorem Iv.same (h : Iv m t R w L P g) {h' : Thr} {hd : Nat → Int} {ls : Nat → Bool} (hi : i < t.ths.length) (hA : At t R w i h') (hb : h'.bf = (g.th i).bf) (hpc : (g.th i).pc ≤ h'.pc)
    (hno:∀ k,k<nO t->E5 t k=i->(g.th i).pc<=opAt t k->opAt t k<h'.pc->(fxO t R w k).st≠1):Iv m t R w L P ⟨upd g.th i h',hd,ls,g.mm⟩:=by
  have hps:∀ k,k<nO t->(fxO t R w k).st=1->(psd t ⟨upd g.th i h',hd,ls,g.mm⟩ k↔psd t g k):=fun k hk hs=>by
    rw [zC3]
    unfold psd
    by_cases e:E5 t k=i
    . rw [e]
      constructor
      . rintro (⟨_,h1⟩|⟨h1,_⟩)
        . rcases Nat.lt_or_ge (opAt t k) (g.th i).pc with h2|h2
          . exact h2
          exact absurd hs (hno k hk e h2 h1)
        exact absurd rfl h1
      intro h1;exact .inl ⟨rfl,by omega⟩
    simp [e]
  refine ⟨fun j hj=>?_,fun j hj=>?_,h.ps,fun j hj k=>?_,h.mm,h.nd,fun k hk=>?_,fun k hk hp hs=>?_⟩
  . dsimp only
    by_cases e:j=i
    . subst e;rw [B4];exact hA
    rw [E2 e];exact h.at_ j hj
  . dsimp only
    by_cases e:j=i
    . subst e;rw [B4,hb];exact h.bf j hj
    rw [E2 e];exact h.bf j hj
  . rw [h.pm j hj k]
    constructor
    . rintro ⟨a1,a2,a3,a4,a5⟩;exact ⟨a1,a2,(hps k a1 a4).2 a3,a4,a5⟩
    rintro ⟨a1,a2,a3,a4,a5⟩;exact ⟨a1,a2,(hps k a1 a4).1 a3,a4,a5⟩
  . obtain ⟨a1,a2,a3⟩:=h.inL k hk
    exact ⟨a1,(hps k a1 a3).2 a2,a3⟩
  exact h.out k hk ((hps k hk hs).1 hp) hs
theorem Iv.add (h : Iv m t R w L P g) {rg' : Nat → Int} {hd : Nat → Int} {ls : Nat → Bool} {mm' : Nat → Int} (hx : (lth t i)[(g.th i).pc]? = some x) (hm : G4 x.op = true)
    (hr:∀ r,(O1 (B8 t R w i (g.th i).pc).1.w x (F8 t i (g.th i).pc) (R.getD (F8 t i (g.th i).pc) zV) (w.getD (F8 t i (g.th i).pc) false)).regs r=⟨true,rg' r⟩)
    (hs:(fxO t R w (F8 t i (g.th i).pc)).st=1) (hmm:mm'=u0 t (QD_ t R w) g.mm (F8 t i (g.th i).pc)) :
    Iv m t R w (L++[F8 t i (g.th i).pc]) P ⟨upd g.th i ⟨(g.th i).pc+1,rg',(g.th i).bf⟩,hd,ls,mm'⟩:=by
  have hi:=Jo_ hx
  obtain ⟨a1,a2,a3,a4⟩:=J6 hx hm
  have hone:∀ {j:Nat},j<nO t->(psd t ⟨upd g.th i ⟨(g.th i).pc+1,rg',(g.th i).bf⟩,hd,ls,mm'⟩ j↔psd t g j\/j=F8 t i (g.th i).pc):=fun hj=>zN9 hx hm rfl hj
  have hnot:¬ psd t g (F8 t i (g.th i).pc):=by unfold psd;rw [a3,a4];omega
  have hA:=(h.at_ i hi).next hx hm (g.th i).bf hr
  generalize hk:F8 t i (g.th i).pc=k at *
  refine ⟨fun j hj=>?_,fun j hj=>?_,h.ps,fun j hj q=>?_,?_,?_,fun q hq=>?_,fun q hq hp hs'=>?_⟩
  . dsimp only
    by_cases e:j=i
    . subst e;rw [B4];exact hA
    rw [E2 e];exact h.at_ j hj
  . dsimp only
    by_cases e:j=i
    . subst e;rw [B4];exact h.bf j hj
    rw [E2 e];exact h.bf j hj
  . rw [h.pm j hj q,mem_append,mem_singleton]
    constructor
    . rintro ⟨b1,b2,b3,b4,b5,b6,b7⟩
      exact ⟨b1,b2,(hone b1).2 (.inl b3),b4,b5,b6,fun hc=>hc.elim b7 fun e=>hnot (e▸b3)⟩
    rintro ⟨b1,b2,b3,b4,b5,b6,b7⟩
    refine ⟨b1,b2,?_,b4,b5,b6,fun hc=>b7 (.inl hc)⟩
    rcases (hone b1).1 b3 with b3|b3
    . exact b3
    exact absurd (.inr b3) b7
  . rw [Vu_,<-h.mm];exact hmm
  . refine List.nodup_append.2 ⟨h.nd,by simp,fun a ha b hb=>?_⟩
    rw [List.mem_singleton.1 hb]
    exact fun e=>hnot (e▸(h.inL a ha).2.1)
  . rcases List.mem_append.1 hq with hq|hq
    . obtain ⟨b1,b2,b3⟩:=h.inL q hq
      exact ⟨b1,(hone b1).2 (.inl b2),b3⟩
    rw [List.mem_singleton.1 hq]
    exact ⟨a1,(hone a1).2 (.inr rfl),hs⟩
  rcases (hone hq).1 hp with h1|h1
  . exact (h.out q hq h1 hs').imp (fun h=>mem_append_left _ h) id
  left;rw [h1];simp
theorem Iv.wait (h : Iv true t R w L P g) {hd : Nat → Int} {ls : Nat → Bool} (hx : (lth t i)[(g.th i).pc]? = some x) (h10 : x.op = 10) :
    Iv true t R w L (upd P i (P i++[F8 t i (g.th i).pc])) ⟨upd g.th i ⟨(g.th i).pc+1,(g.th i).rg,(g.th i).bf++[(x.loc.toNat,Yz_ (g.th i) x.aR x.aN)]⟩,hd,ls,g.mm⟩:=by
  have hi:=Jo_ hx
  have hm:G4 x.op=true:=by rw [h10];rfl
  have hAt:=h.at_ i hi
  obtain ⟨a1,a2,a3,a4,a5,a6⟩:=hAt.mem hx hm
  have hone:∀ {j:Nat},j<nO t->(psd t ⟨upd g.th i ⟨(g.th i).pc+1,(g.th i).rg,(g.th i).bf++[(x.loc.toNat,Yz_ (g.th i) x.aR x.aN)]⟩,hd,ls,g.mm⟩ j↔psd t g j\/j=F8 t i (g.th i).pc):=fun hj=>zN9 hx hm rfl hj
  have hnot:¬ psd t g (F8 t i (g.th i).pc):=by unfold psd;rw [a3,a4];omega
  have hA:=hAt.next hx hm (rg':=(g.th i).rg) ((g.th i).bf++[(x.loc.toNat,Yz_ (g.th i) x.aR x.aN)]) fun r=>by
    unfold O1
    rw [if_neg (by omega),if_neg (by omega),if_pos h10]
    exact hAt.rg r
  have hst:(fxO t R w (F8 t i (g.th i).pc)).st=1:=by rw [a6];show r6 _ _=1;unfold r6;rw [if_neg (by omega)]
  have hval:QD_ t R w (F8 t i (g.th i).pc)=Yz_ (g.th i) x.aR x.aN:=by
    unfold QD_
    rw [a6]
    show ((ZH_ _ _ _ _).getD zV).v=_
    unfold ZH_
    rw [if_pos (.inl h10),hAt.arg];rfl
  generalize hk:F8 t i (g.th i).pc=k at *
  have hkL:k∉L:=fun hc=>hnot (h.inL k hc).2.1
  have hlt:∀ q∈P i,q<k:=fun q hq=>by
    obtain ⟨b1,b2,b3,_⟩:=(h.pm i hi q).1 hq
    refine (n5 a1 b1 (b2.trans a3.symm)).2 ?_
    unfold psd at b3
    rw [b2] at b3;omega
  refine ⟨fun j hj=>?_,fun j hj=>?_,fun j hj=>?_,fun j hj q=>?_,h.mm,h.nd,fun q hq=>?_,fun q hq hp hs'=>?_⟩
  . dsimp only
    by_cases e:j=i
    . subst e;rw [B4];exact hA
    rw [E2 e];exact h.at_ j hj
  . dsimp only
    by_cases e:j=i
    . subst e;rw [B4,B4,map_append,<-h.bf j hj,map_singleton,a2,hval]
    rw [E2 e,E2 e];exact h.bf j hj
  . by_cases e:j=i
    . subst e;rw [B4]
      exact List.pairwise_append.2 ⟨h.ps j hj,pairwise_singleton ..,fun a ha b hb=>by rw [List.mem_singleton.1 hb];exact hlt a ha⟩
    rw [E2 e];exact h.ps j hj
  . by_cases e:j=i
    . subst e
      rw [B4,mem_append,mem_singleton,h.pm j hj q]
      constructor
      . rintro (⟨b1,b2,b3,b4⟩|rfl)
        . exact ⟨b1,b2,(hone b1).2 (.inl b3),b4⟩
        exact ⟨a1,a3,(hone a1).2 (.inr rfl),hst,by rw [a2];exact h10,rfl,hkL⟩
      rintro ⟨b1,b2,b3,b4⟩
      rcases (hone b1).1 b3 with b3|b3
      . exact .inl ⟨b1,b2,b3,b4⟩
      exact .inr b3
    rw [E2 e,h.pm j hj q]
    constructor
    . rintro ⟨b1,b2,b3,b4⟩;exact ⟨b1,b2,(hone b1).2 (.inl b3),b4⟩
    rintro ⟨b1,b2,b3,b4⟩
    refine ⟨b1,b2,?_,b4⟩
    rcases (hone b1).1 b3 with b3|b3
    . exact b3
    rw [b3,a3] at b2;exact absurd b2.symm e
  . obtain ⟨b1,b2,b3⟩:=h.inL q hq
    exact ⟨b1,(hone b1).2 (.inl b2),b3⟩
  rcases (hone hq).1 hp with h1|h1
  . exact h.out q hq h1 hs'
  right;rw [h1,a2];exact ⟨rfl,h10⟩
theorem Iv.drain (h : Iv true t R w L P g) {hd : Nat → Int} {ls : Nat → Bool} (hi : i < t.ths.length) {p : Nat × Int} {r : List (Nat × Int)} (hb : (g.th i).bf = p :: r) :
    ∃ k Q,P i=k::Q/\Iv true t R w (L++[k]) (upd P i Q) ⟨upd g.th i ⟨(g.th i).pc,(g.th i).rg,r⟩,hd,ls,upd g.mm p.1 p.2⟩:=by
  have e0:=h.bf i hi
  rw [hb] at e0
  cases hP:P i with
  | nil=>rw [hP] at e0;cases e0
  | cons k Q =>
    rw [hP,map_cons] at e0
    obtain ⟨rfl,rfl⟩:=List.cons.inj e0
    refine ⟨k,Q,rfl,?_⟩
    have hps:=h.ps i hi
    have hpm:=h.pm i hi
    rw [hP] at hps hpm
    obtain ⟨k1,k2,k3,k4,k5,_,k7⟩:=(hpm k).1 (.head _)
    have hsm:∀ {j:Nat},psd t ⟨upd g.th i ⟨(g.th i).pc,(g.th i).rg,Q.map fun k=>((opX t k).loc.toNat,QD_ t R w k)⟩,hd,ls,upd g.mm (opX t k).loc.toNat (QD_ t R w k)⟩ j↔psd t g j:=zRz rfl
    have hAt:=h.at_ i hi
    refine ⟨fun j hj=>?_,fun j hj=>?_,fun j hj=>?_,fun j hj q=>?_,?_,?_,fun q hq=>?_,fun q hq hp hs'=>?_⟩
    . dsimp only
      by_cases e:j=i
      . subst e;rw [B4];exact ⟨hAt.len,hAt.ok,hAt.out,hAt.rg⟩
      rw [E2 e];exact h.at_ j hj
    . dsimp only
      by_cases e:j=i
      . subst e;rw [B4,B4]
      rw [E2 e,E2 e];exact h.bf j hj
    . by_cases e:j=i
      . subst e;rw [B4];exact (List.pairwise_cons.1 hps).2
      rw [E2 e];exact h.ps j hj
    . rw [hsm]
      by_cases e:j=i
      . subst e
        rw [B4,mem_append,mem_singleton]
        constructor
        . intro hq
          obtain ⟨b1,b2,b3,b4,b5,b6,b7⟩:=(hpm q).1 (.tail _ hq)
          have:=(List.pairwise_cons.1 hps).1 q hq
          exact ⟨b1,b2,b3,b4,b5,b6,fun hc=>hc.elim b7 fun e=>by omega⟩
        rintro ⟨b1,b2,b3,b4,b5,b6,b7⟩
        have:=(hpm q).2 ⟨b1,b2,b3,b4,b5,b6,fun hc=>b7 (.inl hc)⟩
        rcases List.mem_cons.1 this with h1|h1
        . exact absurd (.inr h1) b7
        exact h1
      rw [E2 e,h.pm j hj q,mem_append,mem_singleton]
      constructor
      . rintro ⟨b1,b2,b3,b4,b5,b6,b7⟩
        exact ⟨b1,b2,b3,b4,b5,b6,fun hc=>hc.elim b7 fun e1=>by rw [e1,k2] at b2;exact e b2.symm⟩
      rintro ⟨b1,b2,b3,b4,b5,b6,b7⟩
      exact ⟨b1,b2,b3,b4,b5,b6,fun hc=>b7 (.inl hc)⟩
    . dsimp only
      rw [Vu_,<-h.mm]
      unfold u0
      rw [if_pos (by rw [k5];rfl)]
    . refine List.nodup_append.2 ⟨h.nd,by simp,fun a ha b hb=>?_⟩
      rw [List.mem_singleton.1 hb]
      exact fun e=>k7 (e▸ha)
    . rw [hsm]
      rcases List.mem_append.1 hq with hq|hq
      . exact h.inL q hq
      rw [List.mem_singleton.1 hq];exact ⟨k1,k3,k4⟩
    exact (h.out q hq (hsm.1 hp) hs').imp (fun h=>mem_append_left _ h) id
theorem zS0 (m:Bool) (R:List Vl) (w:List Bool):Iv m t R w [] (fun _=>[]) (zRy t) where
 at_ i hi:=⟨Nat.zero_le _,rfl,Int.le_refl _,fun _=>rfl⟩
 bf _ _:=rfl
 ps _ _:=.nil
 pm i hi k:=⟨fun h=>(by cases h),fun h=>absurd h.2.2.1 (Nat.not_lt_zero _)⟩
 mm:=rfl
 nd:=.nil
 inL k hk:=(by cases hk)
 out k hk hp:=absurd hp (Nat.not_lt_zero _)
theorem zS1 (R:List Vl) (w:List Bool):Hld t R w [] (zRy t) where
 hd i hi:=rfl
 ls i hi q hq:=by
  have:(0:Int)=(q:Int)+1:=hq
  omega
end
section
variable {t:Tst} {w:List Bool} {R:List Vl} {pos:Nat->Nat} {ord:Cs->Rl}
def frR (t:Tst) (w:List Bool) (R:List Vl) (pos:Nat->Nat):List Int:=tab (nO t) (frK t pos (fxO t R w))
structure Coh (ord:Cs->Rl) (t:Tst) (w:List Bool) (R:List Vl) (pos:Nat->Nat):Prop where
 inj:∀ a b,a<nO t->b<nO t->pos a=pos b->a=b
 whole:(D5 t R w).whole=true
 resp:zc8 t ord R w (frR t w R pos) pos
 last:∀ a b,a<nO t->b<nO t->(fxO t R w a).st=1->(fxO t R w b).st≠1->pos a<pos b
 val:∀ k,(fxO t R w k).st=1->rdB (opX t k).op=true->R.getD k zV=if M1 t pos (fxO t R w) k (nO t)=0 then zi0 t k else (fxO t R w (M1 t pos (fxO t R w) k (nO t)-1)).wr
 kn:∀ k,(fxO t R w k).st=1->rdB (opX t k).op=true->(R.getD k zV).k=true
theorem zb7 {k:Nat} (h:(fxO t R w k).st=1) (hr:rdB (opX t k).op=true) (d:Int):(frR t w R pos).getD k d=(M1 t pos (fxO t R w) k (nO t):Int)-1:=by
 unfold frR
 rw [L8 (run_lt h)]
 unfold frK
 rw [hr,h];rfl
theorem zS2 (ht:TG t) (kn:∀ k,(fxO t R w k).st=1->rdB (opX t k).op=true->(R.getD k zV).k=true) {i:Nat} (hi:(fxO t R w i).st=1) (hw:wrB (opX t i).op=true):(fxO t R w i).wr.k=true :=
 WZ_ ht (run_lt hi) hw hi (fun q hq hqr=>kn q (YO_ ht (run_lt hi) hi hq).2.2.2 hqr) fun _ hir=>kn i hi hir
theorem Coh.le_it (h:Coh ord t w R pos):∀ j q,q<nO t->(fxO t R w q).st=1->le ((itR t w (nxN t pos) j).getD q zV) (R.getD q zV)
 | 0,q,_,_=>by
  show le ((List.replicate (nO t) zV).getD q zV) _
  rw [zEu];intro h;cases h
 | j+1,q,hq,hs=>by
  obtain ⟨hF,hR⟩:=zMt (w:=w) (reads:=itR t w (nxN t pos) j) (R:=R) fun q hq hs=>h.le_it j q hq hs
  show le ((tab (nO t) (nxO t pos (fxO t (itR t w (nxN t pos) j) w))).getD q zV) _
  rw [L8 hq]
  unfold nxO
  by_cases hc:(rdB (opX t q).op&&zGn t pos (fxO t (itR t w (nxN t pos) j) w) q)=true
  .rw [if_pos hc]
   obtain ⟨c1,c2⟩:=Bool.and_eq_true_iff.1 hc
   obtain ⟨d1,d2⟩:=zEv hF c2
   rw [h.val q hs c1,d2]
   by_cases hL:M1 t pos (fxO t R w) q (nO t)=0
   .rw [if_pos hL,if_pos hL];exact le_refl _
   rw [if_neg hL,if_neg hL]
   exact (hF _ ((H5 (t:=t) (pos:=pos) (f:=fxO t R w) (k:=q) (nO t)).2 hL).1).2
  rw [if_neg hc];intro hk;cases hk
theorem Coh.dep (h : Coh ord t w R pos) (ht : TG t) (ho : OrdOk t ord) {k i : Nat} (hk : (fxO t R w k).st = 1) (hr : rdB (opX t k).op = true) (hL : M1 t pos (fxO t R w) k (nO t) = i + 1)
    {q:Nat} (hq:(rdB (opX t q).op=true/\P8 (fxO t R w i).vl q=true)\/(q=i/\(opX t i).op=12)):Wv_ t R w pos q<Wv_ t R w pos k:=by
  have hkn:=run_lt hk
  obtain ⟨s1,s2,s3,s4⟩:=(H5 (t:=t) (pos:=pos) (f:=fxO t R w) (k:=k) (nO t)).2 (by omega)
  rw [hL,Nat.add_sub_cancel] at s1 s2 s3
  obtain ⟨c1,c2,c3,c4⟩:=N9 h.inj hkn s1 s2
  by_cases hth:E5 t i=E5 t k
  · have hik : i < k := by
      rcases c4 with c4|c4
      . rcases Nat.lt_or_ge i k with h1|h1
        . exact h1
        have:=h.resp k i hkn s1 (ho.loc (csR t R w (frR t w R pos)) rfl (Q9 t R w) k i (Wa_.2 ⟨by omega,s1,hth.symm,hk,s3⟩) c3.symm (Jd_.2 ⟨s3,c2⟩))
        omega
      exact c4.2
    exact zMf ht ho h.resp s3 c2 hk hr hth hik (by rw [zb7 hk hr,hL];omega) hq
  have hpos:pos i<pos k:=by
    rcases c4 with c4|c4
    . exact c4
    exact absurd c4.1 hth
  exact Wb_ ht ho h.resp s3 c2 hkn hpos (hq.elim (fun h=>.inr (.inl h.2)) fun h=>.inr (.inr h.1))
theorem Coh.found (h:Coh ord t w R pos) (ht:TG t) (ho:OrdOk t ord) {k:Nat} (hk:(fxO t R w k).st=1) (hr:rdB (opX t k).op=true):((Jc_ t w pos).getD k zV).k=true:=by
 obtain ⟨hF,hR⟩:=zMt (w:=w) (reads:=Jc_ t w pos) (R:=R) fun q hq hs=>h.le_it (nO t) q hq hs
 have key:∀ m k,Wv_ t R w pos k<m->(fxO t R w k).st=1->rdB (opX t k).op=true->((Jc_ t w pos).getD k zV).k=true:=fun m=>by
  induction m with
  | zero=>intro k h;exact absurd h (Nat.not_lt_zero _)
  | succ m ih =>
   intro k hm hk hr
   have hkn:=run_lt hk
   have hd:zGn t pos (G9 t w pos) k=true:=XN_.2 fun i hi hc=>zal ht hR hi (Uz_ h.whole hi) fun q hq hqr=>by
    obtain ⟨p1,p2,p3,p4⟩:=Z1_ ht hi (Uz_ h.whole hi) hq
    refine ih q ?_ p4 hqr
    have:Wv_ t R w pos q<Wv_ t R w pos k:=by
     obtain ⟨c1,c2,c3,c4⟩:=N9 h.inj hkn hi hc
     rcases c4 with c4|c4
     .by_cases hir:(fxO t R w i).st=1
      .exact Wb_ ht ho h.resp hir c2 hkn c4 (.inl hq)
      have:=h.last k i hkn hi hk hir;omega
     exact zi5 ht hi hk c4.1 c4.2 hqr hq
    omega
   obtain ⟨d1,d2⟩:=zEv hF hd
   have d3:M1 t pos (G9 t w pos) k (nO t)=M1 t pos (fxO t R w) k (nO t):=d2
   have hnx:(nxO t pos (G9 t w pos) k).k=true:=by
    unfold nxO
    rw [if_pos (show (rdB (opX t k).op&&zGn t pos (G9 t w pos) k)=true by rw [hr,hd];rfl)]
    split
    .rfl
    rename_i hL
    obtain ⟨s1,s2,s3,s4⟩:=(H5 (t:=t) (pos:=pos) (f:=G9 t w pos) (k:=k) (nO t)).2 hL
    obtain ⟨i,hi⟩:∃ i,M1 t pos (G9 t w pos) k (nO t)=i+1:=⟨M1 t pos (G9 t w pos) k (nO t)-1,by omega⟩
    rw [hi,Nat.add_sub_cancel] at s1 s2 s3 ⊢
    rw [hi] at d3
    have hiF:(fxO t R w i).st=1:=by
     have:=(hF i s1).1 (by show (G9 t w pos i).st≠0;rw [s3];decide)
     exact this.trans s3
    obtain ⟨c1,c2,c3,c4⟩:=N9 h.inj hkn s1 s2
    have hvl:=(Z0_ hR s1 (by show (G9 t w pos i).st≠0;rw [s3];decide)).2.2.2.1
    refine WZ_ ht s1 c2 s3 (fun q hq hqr=>?_) fun h12 hir=>?_
    .rw [hvl] at hq
     exact ih q (by have:=h.dep ht ho hk hr d3.symm (.inl ⟨hqr,hq⟩);omega) (YO_ ht s1 hiF hq).2.2.2 hqr
    exact ih i (by have:=h.dep ht ho hk hr d3.symm (.inr ⟨rfl,h12⟩);omega) hiF hir
   have e:(itR t w (nxN t pos) (nO t+1)).getD k zV=nxO t pos (G9 t w pos) k:=L8 hkn
   have hs:=Vo_ (t:=t) (w:=w) (N:=nxN t pos) k
   rw [e] at hs
   show ((itR t w (nxN t pos) (nO t)).getD k zV).k=true
   rw [<-hs hnx];exact hnx
 exact key _ k (Nat.lt_succ_self _) hk hr
theorem Coh.flo (h:Coh ord t w R pos) (ht:TG t) (ho:OrdOk t ord):flO t w pos=D5 t R w:=by
 obtain ⟨hF,hR⟩:=zMt (w:=w) (reads:=Jc_ t w pos) (R:=R) fun q hq hs=>h.le_it (nO t) q hq hs
 refine Alike.eq ⟨fun q hq hr hs=>?_,fun _ _ _ _ _ _ _ _=>rfl⟩
 have hs2:(fxO t R w q).st=1:=((hF q hq).1 (by rw [hs];decide)).trans hs
 exact h.le_it (nO t) q hq hs2 (h.found ht ho hs2 hr)
theorem Coh.fx (h:Coh ord t w R pos) (ht:TG t) (ho:OrdOk t ord):G9 t w pos=fxO t R w:=by
 funext k
 show n4 (flO t w pos).f k=n4 (D5 t R w).f k
 rw [h.flo ht ho]
theorem Coh.cs (h:Coh ord t w R pos) (ht:TG t) (ho:OrdOk t ord):csO t w pos=csR t R w (frR t w R pos):=by
 unfold csO csR frO frR
 rw [h.flo ht ho,h.fx ht ho]
theorem Coh.ordE (h:Coh ord t w R pos) (ht:TG t) (ho:OrdOk t ord) (hp:∀ k,k<nO t->zk3 t w pos k):OrdE ord t w pos where
 inj:=h.inj
 whole:=by rw [h.flo ht ho];exact h.whole
 kept a b ha hb hk:=by
  rw [h.cs ht ho] at hk
  exact h.resp a b ha hb hk
 par:=hp
theorem zC4 {v:Nat->Int} {y:Nat}:∀ {Q:List Nat} {m:Nat->Int},(∀ j∈Q,wrB (opX t j).op=true->(opX t j).loc.toNat≠y)->(Q.foldl (u0 t v) m) y=m y
 | [],m,_=>rfl
 | a::Q,m,h=>by
  rw [foldl_cons,zC4 fun j hj=>h j (.tail _ hj)]
  unfold u0
  split
  .rename_i hw
   exact E2 fun e=>h a (.head _) hw e.symm
  rfl
theorem R9 {v:Nat->Int} {y:Nat} {Q:List Nat} (h:∀ j∈Q,wrB (opX t j).op=true->(opX t j).loc.toNat≠y):n6 t v Q y=(W4_ t).mm y:=zC4 h
theorem zF5 {v : Nat → Int} {y s : Nat} {Q : List Nat} (hs : Q.Pairwise fun a b => pos a < pos b) (hin : s ∈ Q) (hw : wrB (opX t s).op = true) (hy : (opX t s).loc.toNat = y)
    (hm:∀ j∈Q,wrB (opX t j).op=true->(opX t j).loc.toNat=y->pos j<=pos s):n6 t v Q y=v s:=by
  obtain ⟨A,B,rfl⟩:=append_of_mem hin
  unfold n6
  rw [foldl_append,foldl_cons,zC4 fun j hj hwj hyj=>?_]
  . unfold u0
    rw [if_pos hw,hy,B4]
  have h1:=hm j (by simp [hj]) hwj hyj
  have h2:=(List.pairwise_cons.1 (List.pairwise_append.1 hs).2.1).1 j hj
  omega
theorem zS3 (hb:TB t) {k:Nat} (hk:k<nO t):(W4_ t).mm (opX t k).loc.toNat=(zi0 t k).v:=by
 obtain ⟨l0,l1⟩:=hb.loc k hk
 show (if (opX t k).loc.toNat<t.locs.length then _ else _)=_
 rw [if_pos (by omega)];rfl
theorem zNa (hb:TB t) {j k:Nat} (hj:j<nO t) (hk:k<nO t):(opX t j).loc.toNat=(opX t k).loc.toNat↔(opX t j).loc=(opX t k).loc:=by
 have:=hb.loc j hj
 have:=hb.loc k hk
 omega
theorem zS4 (hb : TB t) {v : Nat → Int} {k : Nat} {F : Nat → Fx} {Q : List Nat} (hk : k < nO t) (hs : Q.Pairwise fun a b => pos a < pos b) (hn : ∀ j ∈ Q, j < nO t)
    (hQ:∀ j,j<nO t->wrB (opX t j).op=true->(opX t j).loc=(opX t k).loc->(j∈Q↔Vp_ t pos k j=true/\(F j).st=1)) :
    n6 t v Q (opX t k).loc.toNat=if M1 t pos F k (nO t)=0 then (zi0 t k).v else v (M1 t pos F k (nO t)-1):=by
  obtain ⟨s1,s2⟩:=H5 (t:=t) (pos:=pos) (f:=F) (k:=k) (nO t)
  have hcan:∀ {j},Vp_ t pos k j=true->wrB (opX t j).op=true/\(opX t j).loc=(opX t k).loc:=fun {j} h=>by
    unfold Vp_ at h
    simp only [Bool.and_eq_true,decide_eq_true_eq] at h
    exact ⟨h.2.1,h.2.2.1⟩
  by_cases hL:M1 t pos F k (nO t)=0
  . rw [if_pos hL,R9,zS3 hb hk]
    intro j hj hw hy
    have hjn:=hn j hj
    exact s1 hL j hjn ((hQ j hjn hw ((zNa hb hjn hk).1 hy)).1 hj)
  rw [if_neg hL]
  obtain ⟨a1,a2,a3,a4⟩:=s2 hL
  obtain ⟨c1,c2⟩:=hcan a2
  refine zF5 hs ((hQ _ a1 c1 c2).2 ⟨a2,a3⟩) c1 (by rw [c2]) fun j hj hw hy=>?_
  have hjn:=hn j hj
  obtain ⟨b1,b2⟩:=(hQ j hjn hw ((zNa hb hjn hk).1 hy)).1 hj
  exact a4 j hjn b1 b2
theorem zS5 (hb : TB t) {v : Nat → Int} {y : Nat} {F : Nat → Fx} {Q : List Nat} (hy : y < t.locs.length) (hs : Q.Pairwise fun a b => pos a < pos b) (hn : ∀ j ∈ Q, j < nO t)
    (hQ:∀ j,j<nO t->wrB (opX t j).op=true->(opX t j).loc=(y:Nat)->(j∈Q↔(F j).st=1)) :
    n6 t v Q y=if XO_ t pos F y (nO t)=0 then (t.locs.getD y ⟨ByteArray.empty,0⟩).v else v (XO_ t pos F y (nO t)-1):=by
  obtain ⟨s1,s2⟩:=U2_ (t:=t) (pos:=pos) (f:=F) (loc:=y) (nO t)
  have hl:∀ {j},j<nO t->(opX t j).loc.toNat=y->(opX t j).loc=(y:Nat):=fun {j} hj h=>by have:=hb.loc j hj;omega
  by_cases hL:XO_ t pos F y (nO t)=0
  . rw [if_pos hL,R9]
    . show (if y<t.locs.length then _ else _)=_
      rw [if_pos hy]
    intro j hj hw hyj
    have hjn:=hn j hj
    exact s1 hL j hjn ⟨hw,hl hjn hyj,(hQ j hjn hw (hl hjn hyj)).1 hj⟩
  rw [if_neg hL]
  obtain ⟨a1,a2,a3,a4,a5⟩:=s2 hL
  refine zF5 hs ((hQ _ a1 a2 a3).2 a4) a2 (by rw [a3];rfl) fun j hj hw hyj=>?_
  have hjn:=hn j hj
  exact a5 j hjn hw (hl hjn hyj) ((hQ j hjn hw (hl hjn hyj)).1 hj)
end
theorem Vv_:∀ {l l':List Nat},l.Pairwise (fun a b=>a<b)->l'.Pairwise (fun a b=>a<b)->(∀ a,a∈l↔a∈l')->l=l'
 | [],[],_,_,_=>rfl
 | [],b::l',_,_,h=>by have:=(h b).2 (.head _);cases this
 | a::l,[],_,_,h=>by have:=(h a).1 (.head _);cases this
 | a::l,b::l',h1,h2,h=>by
  obtain ⟨p1,p2⟩:=List.pairwise_cons.1 h1
  obtain ⟨q1,q2⟩:=List.pairwise_cons.1 h2
  have e:a=b:=by
   rcases List.mem_cons.1 ((h a).1 (.head _)) with e|e
   .exact e
   have g1:=q1 a e
   rcases List.mem_cons.1 ((h b).2 (.head _)) with e2|e2
   .exact e2.symm
   have g2:=p1 b e2;omega
  subst e
  rw [Vv_ p2 q2 fun x=>?_]
  constructor
  .intro hx
   have:=p1 x hx
   rcases List.mem_cons.1 ((h x).1 (.tail _ hx)) with e|e
   .omega
   exact e
  intro hx
  have:=q1 x hx
  rcases List.mem_cons.1 ((h x).2 (.tail _ hx)) with e|e
  .omega
  exact e
def W4 (L:List Nat) (k:Nat):Nat:=if k∈L then L.idxOf k else L.length+k
theorem zb8 {A B:List Nat} {b:Nat} (h:(A++b::B).Nodup):W4 (A++b::B) b=A.length:=by
 have hb:b∉A:=fun hc=>(List.nodup_append.1 h).2.2 b hc b (.head _) rfl
 unfold W4
 rw [if_pos (by simp),idxOf_append,if_neg hb,idxOf_cons_self,Nat.zero_add]
theorem YS_ {A B:List Nat} {a b:Nat} (h:(A++b::B).Nodup):W4 (A++b::B) a<W4 (A++b::B) b↔a∈A:=by
 rw [zb8 h]
 unfold W4
 by_cases ha:a∈A
 .rw [if_pos (by simp [ha]),idxOf_append,if_pos ha]
  simp only [ha,iff_true]
  exact idxOf_lt_length_of_mem ha
 simp only [ha,iff_false,Nat.not_lt]
 split
 .rw [idxOf_append,if_neg ha];omega
 simp only [length_append];omega
theorem XR_ {L:List Nat} {a b:Nat} (h:W4 L a=W4 L b):a=b:=by
 unfold W4 at h
 by_cases ha:a∈L<;>by_cases hb:b∈L
 .rw [if_pos ha,if_pos hb] at h
  have h1:=getElem_idxOf (idxOf_lt_length_of_mem ha)
  have h2:=getElem_idxOf (idxOf_lt_length_of_mem hb)
  simp only [h] at h1
  exact h1.symm.trans h2
 .rw [if_pos ha,if_neg hb] at h
  have:=idxOf_lt_length_of_mem ha;omega
 .rw [if_neg ha,if_pos hb] at h
  have:=idxOf_lt_length_of_mem hb;omega
 rw [if_neg ha,if_neg hb] at h;omega
theorem zS6 {L:List Nat} {a b:Nat} (ha:a∈L) (hb:b∉L):W4 L a<W4 L b:=by
 unfold W4
 rw [if_pos ha,if_neg hb]
 have:=idxOf_lt_length_of_mem ha;omega
theorem y8 {R:Nat->Nat->Prop}:∀ {L A:List Nat},(∀ B a C,A++L=B++a::C->∀ c∈C,A.length<=B.length->R a c)->L.Pairwise R
 | [],_,_=>.nil
 | a::L,A,h=>List.pairwise_cons.2 ⟨fun c hc=>h A a L rfl c hc (Nat.le_refl _),y8 (A:=A++[a]) fun B b C e c hc hl=>h B b C (by rw [<-e];simp) c hc (by simp at hl;omega)⟩
theorem Wg_ {L:List Nat} (h:L.Nodup):L.Pairwise fun a b=>W4 L a<W4 L b :=
 y8 (A:=[]) fun B a C e c hc _=>by
  rw [nil_append] at e
  subst e
  obtain ⟨D,E,rfl⟩:=append_of_mem hc
  have e2:B++a::(D++c::E)=(B++a::D)++c::E:=by simp
  rw [e2] at h ⊢
  exact (YS_ h).2 (by simp)
section
variable {m:Bool} {t:Tst} {R R':List Vl} {w w':List Bool} {L:List Nat} {P:Nat->List Nat} {g:Gs} {i k:Nat} {x:Ins}
def zNb (t:Tst) (R:List Vl) (w:List Bool) (L:List Nat) (b:Nat):List Nat:=(List.range (nO t)).filter fun j=>decide (E5 t j=E5 t b/\j<b/\(fxO t R w j).st=1/\(opX t j).op=10/\j∉L)
theorem X7 {b j:Nat}:j∈zNb t R w L b↔j<nO t/\E5 t j=E5 t b/\j<b/\(fxO t R w j).st=1/\(opX t j).op=10/\j∉L:=by
 unfold zNb
 rw [List.mem_filter,mem_range,decide_eq_true_eq]
theorem Wh_ {b:Nat}:(zNb t R w L b).Pairwise fun a b=>a<b:=List.Pairwise.sublist filter_sublist pairwise_lt_range
def znw (t:Tst) (R:List Vl) (w:List Bool) (a b:Nat):Prop:=∃ s y,opAt t a<s/\s<opAt t b/\(lth t (E5 t b))[s]?=some y/\drB y=true/\(B8 t R w (E5 t b) s).1.out<=0
structure Fwd (m:Bool) (t:Tst) (R:List Vl) (w:List Bool) (L:List Nat) (g:Gs):Prop where
 kept:∀ A b B,L=A++b::B->∀ a,a<b->E5 t a=E5 t b->(fxO t R w a).st=1->(m=false\/¬ ((opX t a).op=10/\(opX t b).op=9)\/znw t R w a b)->a∈A
 src:∀ A b B,L=A++b::B->rdB (opX t b).op=true->R.getD b zV=⟨true,n6 t (QD_ t R w) (A++zNb t R w A b) (opX t b).loc.toNat⟩
 fen:∀ i,i<t.ths.length->∀ s y,s<(g.th i).pc->(lth t i)[s]?=some y->drB y=true->(B8 t R w i s).1.out<=0->∀ a,a<nO t->E5 t a=i->opAt t a<s->(fxO t R w a).st=1->a∈L
 par:∀ A k B,L=A++k::B->(opX t k).op=14->∃ (q:Nat) (C D:List Nat),(fxO t R w k).pr=(q:Int)+1/\A=C++q::D/\∀ j∈D,wrB (opX t j).op=true->(opX t j).loc=(opX t k).loc->E5 t j=E5 t k
theorem Jp_ {a b:Nat} (ha:a<nO t) (hb:b<nO t) (hth:E5 t a=E5 t b) (hlt:a<b) (h:psd t g b):psd t g a:=by
 have:=(n5 hb ha hth).1 hlt
 unfold psd at h ⊢
 rw [hth];omega
theorem Fwd.ext (h:Fwd m t R w L g) (hi:Iv m t R w L P g) (he:∀ k,k<nO t->psd t g k->R.getD k zV=R'.getD k zV/\w.getD k false=w'.getD k false):Fwd m t R' w' L g:=by
 have fx:∀ k,k<nO t->psd t g k->fxO t R w k=fxO t R' w' k:=fun k h1 h2=>Iv.fx he h1 h2
 have inb:∀ {A b B},L=A++b::B->b<nO t/\psd t g b:=fun {A b B} e=>by
  obtain ⟨h1,h2,_⟩:=hi.inL b (by rw [e];simp)
  exact ⟨h1,h2⟩
 have own:∀ {A b B},L=A++b::B->zNb t R w A b=zNb t R' w' A b:=fun {A b B} e=>by
  obtain ⟨h1,h2⟩:=inb e
  unfold zNb
  apply filter_congr
  intro j hj
  have hj:=List.mem_range.1 hj
  rw [decide_eq_decide]
  constructor
  .rintro ⟨a1,a2,a3⟩;exact ⟨a1,a2,by rw [<-fx j hj (Jp_ hj h1 a1 a2 h2)];exact a3⟩
  rintro ⟨a1,a2,a3⟩;exact ⟨a1,a2,by rw [fx j hj (Jp_ hj h1 a1 a2 h2)];exact a3⟩
 refine ⟨fun A b B e a a1 a2 a3 a4=>?_,fun A b B e hr=>?_,fun i hi' s y h1 h2 h3 h4 a a1 a2 a3 a4=>?_,fun A k B e h14=>?_⟩
 .obtain ⟨h1,h2⟩:=inb e
  have han:a<nO t:=by omega
  refine h.kept A b B e a a1 a2 (by rw [fx a han (Jp_ han h1 a2 a1 h2)];exact a3) (a4.imp id fun h=>h.imp id ?_)
  rintro ⟨s,y,b1,b2,b3,b4,b5⟩
  refine ⟨s,y,b1,b2,b3,b4,?_⟩
  rw [Iv.pre (i:=E5 t b) he (by unfold psd at h2;omega)];exact b5
 .obtain ⟨h1,h2⟩:=inb e
  rw [<-(he b h1 h2).1,h.src A b B e hr,<-own e]
  congr 1
  refine congrFun (Wf_ fun j hj=>?_) _
  unfold QD_
  rcases List.mem_append.1 hj with hj|hj
  .obtain ⟨c1,c2,_⟩:=hi.inL j (by rw [e];simp [hj])
   rw [fx j c1 c2]
  obtain ⟨c1,c2,c3,_⟩:=X7.1 hj
  rw [fx j c1 (Jp_ c1 h1 c2 c3 h2)]
 .have hp:psd t g a:=by unfold psd;rw [a2];omega
  exact h.fen i hi' s y h1 h2 h3 (by rw [Iv.pre (i:=i) he (by omega)];exact h4) a a1 a2 a3 (by rw [fx a a1 hp];exact a4)
 obtain ⟨h1,h2⟩:=inb e
 rw [<-fx k h1 h2];exact h.par A k B e h14
theorem O8 {L A B:List Nat} {k b:Nat} (h:L++[k]=A++b::B):(A=L/\b=k/\B=[])\/∃ B',B=B'++[k]/\L=A++b::B':=by
 rcases eq_nil_or_concat B with rfl|⟨B',c,rfl⟩
 .left
  obtain ⟨h1,h2⟩:=append_inj' h rfl
  exact ⟨h1.symm,by simpa using h2.symm,rfl⟩
 right
 rw [concat_eq_append] at h ⊢
 have e:A++b::(B'++[c])=(A++b::B')++[c]:=by simp
 rw [e] at h
 obtain ⟨h1,h2⟩:=append_inj' h rfl
 have:k=c:=by simpa using h2
 exact ⟨B',by rw [this],h1⟩
theorem Iv.own (h:Iv m t R w L P g) {a:Nat} (ha:a<nO t) (hth:E5 t a=i) (hi:i<t.ths.length) (hp:psd t g a) (hs:(fxO t R w a).st=1):a∈L\/a∈P i:=by
 by_cases hL:a∈L
 .exact .inl hL
 right
 rcases h.out a ha hp hs with h1|⟨h1,h2⟩
 .exact absurd h1 hL
 exact (h.pm i hi a).2 ⟨ha,hth,hp,hs,h2,h1,hL⟩
theorem Iv.bare (h:Iv m t R w L P g) (hi:i<t.ths.length) (hb:(g.th i).bf=[]):P i=[]:=by
 have:=h.bf i hi
 rw [hb] at this
 cases hP:P i with
 | nil=>rfl
 | cons a r=>rw [hP] at this;cases this
theorem Iv.bareF (h:Iv false t R w L P g) (hi:i<t.ths.length):P i=[]:=by
 cases hP:P i with
 | nil=>rfl
 | cons a r =>
  have:=(h.pm i hi a).1 (by rw [hP];exact .head _)
  cases this.2.2.2.2.2.1
theorem Iv.own_eq (h:Iv m t R w L P g) (hx:(lth t i)[(g.th i).pc]?=some x) (hm:G4 x.op=true):P i=zNb t R w L (F8 t i (g.th i).pc):=by
 have hi:=Jo_ hx
 obtain ⟨a1,a2,a3,a4⟩:=J6 hx hm
 refine Vv_ (h.ps i hi) Wh_ fun j=>?_
 rw [h.pm i hi j,X7,a3]
 constructor
 .rintro ⟨b1,b2,b3,b4,b5,b6,b7⟩
  refine ⟨b1,b2,(n5 a1 b1 (b2.trans a3.symm)).2 ?_,b4,b5,b7⟩
  unfold psd at b3;rw [b2] at b3;omega
 rintro ⟨b1,b2,b3,b4,b5,b6⟩
 have hp:psd t g j:=by
  have:=(n5 a1 b1 (b2.trans a3.symm)).1 b3
  unfold psd;rw [b2];omega
 refine ⟨b1,b2,hp,b4,b5,?_,b6⟩
 rcases h.out j b1 hp b4 with h1|⟨h1,_⟩
 .exact absurd h1 b6
 exact h1
theorem Iv.sees (h:Iv m t R w L P g) (hi:i<t.ths.length):Yy_ (g.th i).bf g.mm=n6 t (QD_ t R w) (L++P i):=by
 rw [h.bf i hi,h.mm]
 refine zGq fun k hk=>?_
 obtain ⟨_,_,_,_,h10,_⟩:=(h.pm i hi k).1 hk
 rw [h10];rfl
theorem Wi_ (hm:G4 x.op=true):drB x=false:=by
 unfold drB
 have:¬ x.op=15:=fun e=>by rw [e] at hm;cases hm
 simp [this]
theorem Fwd.add (h : Fwd m t R w L g) (hv : Iv m t R w L P g) {h' : Thr} {hd : Nat → Int} {ls : Nat → Bool} {mm : Nat → Int} (hx : (lth t i)[(g.th i).pc]? = some x) (hm : G4 x.op = true) (hp : h'.pc = (g.th i).pc + 1)
    (hk:∀ a,a<F8 t i (g.th i).pc->E5 t a=i->(fxO t R w a).st=1->(m=false\/¬ ((opX t a).op=10/\x.op=9)\/znw t R w a (F8 t i (g.th i).pc))->a∈L)
    (hs:rdB x.op=true->R.getD (F8 t i (g.th i).pc) zV=⟨true,n6 t (QD_ t R w) (L++P i) x.loc.toNat⟩)
    (hpr:x.op=14->∃ (q:Nat) (C D:List Nat),(fxO t R w (F8 t i (g.th i).pc)).pr=(q:Int)+1/\L=C++q::D/\∀ j∈D,wrB (opX t j).op=true->(opX t j).loc=x.loc->E5 t j=i) :
    Fwd m t R w (L++[F8 t i (g.th i).pc]) ⟨upd g.th i h',hd,ls,mm⟩:=by
  have hi:=Jo_ hx
  obtain ⟨a1,a2,a3,a4⟩:=J6 hx hm
  have hown:=hv.own_eq hx hm
  generalize hkk:F8 t i (g.th i).pc=k at *
  refine ⟨fun A b B e a c1 c2 c3 c4=>?_,fun A b B e hr=>?_,fun j hj s y h1 h2 h3 h4 a b1 b2 b3 b4=>?_,fun A b B e h14=>?_⟩
  . rcases O8 e with ⟨rfl,rfl,rfl⟩|⟨B',_,e2⟩
    . exact hk a c1 (c2.trans a3) c3 (by rw [<-a2];exact c4)
    exact h.kept A b B' e2 a c1 c2 c3 c4
  . rcases O8 e with ⟨rfl,rfl,rfl⟩|⟨B',_,e2⟩
    . rw [hs (by rw [<-a2];exact hr),hown,a2]
    exact h.src A b B' e2 hr
  . refine mem_append_left _ ?_
    by_cases ej:j=i
    . subst ej
      dsimp only at h1
      rw [B4,hp] at h1
      by_cases es:s=(g.th j).pc
      . subst es
        rw [hx] at h2;cases h2
        rw [Wi_ hm] at h3;cases h3
      exact h.fen j hj s y (by omega) h2 h3 h4 a b1 b2 b3 b4
    dsimp only at h1
    rw [E2 ej] at h1
    exact h.fen j hj s y h1 h2 h3 h4 a b1 b2 b3 b4
  rcases O8 e with ⟨rfl,rfl,rfl⟩|⟨B',_,e2⟩
  . rw [a2,a3];exact hpr (by rw [<-a2];exact h14)
  exact h.par A b B' e2 h14
theorem Fwd.move (h : Fwd m t R w L g) {h' : Thr} {hd : Nat → Int} {ls : Nat → Bool} {mm : Nat → Int} (hf : ∀ s y, (g.th i).pc ≤ s → s < h'.pc → (lth t i)[s]? = some y → drB y = true → (B8 t R w i s).1.out ≤ 0 → ∀ a, a < nO t → E5 t a = i → opAt t a < s → (fxO t R w a).st = 1 → a ∈ L) :
    Fwd m t R w L ⟨upd g.th i h',hd,ls,mm⟩:=by
  refine ⟨h.kept,h.src,fun j hj s y h1 h2 h3 h4 a b1 b2 b3 b4=>?_,h.par⟩
  by_cases ej:j=i
  . subst ej
    dsimp only at h1
    rw [B4] at h1
    by_cases es:s<(g.th j).pc
    . exact h.fen j hj s y es h2 h3 h4 a b1 b2 b3 b4
    exact hf s y (by omega) h1 h2 h3 h4 a b1 b2 b3 b4
  dsimp only at h1
  rw [E2 ej] at h1
  exact h.fen j hj s y h1 h2 h3 h4 a b1 b2 b3 b4
theorem Fwd.drain (h : Fwd m t R w L g) {k : Nat} {h' : Thr} {hd : Nat → Int} {ls : Nat → Bool} {mm : Nat → Int} (hp : h'.pc = (g.th i).pc) (h10 : (opX t k).op = 10)
    (hk:∀ a,a<k->E5 t a=E5 t k->(fxO t R w a).st=1->a∈L):Fwd m t R w (L++[k]) ⟨upd g.th i h',hd,ls,mm⟩:=by
  refine ⟨fun A b B e a c1 c2 c3 c4=>?_,fun A b B e hr=>?_,fun j hj s y h1 h2 h3 h4 a b1 b2 b3 b4=>?_,fun A b B e h14=>?_⟩
  . rcases O8 e with ⟨rfl,rfl,rfl⟩|⟨B',_,e2⟩
    . exact hk a c1 c2 c3
    exact h.kept A b B' e2 a c1 c2 c3 c4
  . rcases O8 e with ⟨rfl,rfl,rfl⟩|⟨B',_,e2⟩
    . rw [h10] at hr;cases hr
    exact h.src A b B' e2 hr
  . refine mem_append_left _ (h.fen j hj s y ?_ h2 h3 h4 a b1 b2 b3 b4)
    by_cases ej:j=i
    . subst ej
      dsimp only at h1
      rw [B4,hp] at h1;exact h1
    dsimp only at h1
    rw [E2 ej] at h1;exact h1
  rcases O8 e with ⟨rfl,rfl,rfl⟩|⟨B',_,e2⟩
  . rw [h10] at h14;omega
  exact h.par A b B' e2 h14
theorem Iv.lr_in (h:Iv false t R w L P g) (hi:i<t.ths.length) {q:Nat} (hq:(B8 t R w i (g.th i).pc).1.w.lr=(q:Int)+1):q∈L/\q<nO t/\E5 t q=i/\(fxO t R w q).st=1:=by
 rcases U0_ (t:=t) (reads:=R) (w:=w) (i:=i) _ (h.at_ i hi).ok with h0|⟨q',e1,e2,e3,e4,e5,e6,e7⟩
 .omega
 obtain rfl:q=q':=by omega
 rcases h.out q e2 (by unfold psd;rw [e4];exact e5) e6 with h1|⟨h1,_⟩
 .exact ⟨h1,e2,e4,e6⟩
 cases h1
theorem Z2_ {q k lo : Nat} {j : Nat} {l : Int} (hqL : q ∈ L) (hkL : k ∉ L) : (∃ L1 L2 c, L ++ [k] = L1 ++ q :: L2 ∧ c ∈ L2 ∧ wrB (opX t c).op = true ∧ (opX t c).loc = l ∧ E5 t c ≠ j) ↔
    (∃ L1 L2 c,L=L1++q::L2/\c∈L2/\wrB (opX t c).op=true/\(opX t c).loc=l/\E5 t c≠j)\/(wrB (opX t k).op=true/\(opX t k).loc=l/\E5 t k≠j):=by
  constructor
  . rintro ⟨L1,L2,c,e,c1,c2,c3,c4⟩
    rcases O8 e with ⟨rfl,rfl,rfl⟩|⟨B',rfl,e2⟩
    . exact absurd hqL hkL
    rcases List.mem_append.1 c1 with c1|c1
    . exact .inl ⟨L1,B',c,e2,c1,c2,c3,c4⟩
    rw [List.mem_singleton.1 c1] at c2 c3 c4;exact .inr ⟨c2,c3,c4⟩
  rintro (⟨L1,L2,c,e,c1,c2,c3,c4⟩|⟨c2,c3,c4⟩)
  . exact ⟨L1,L2++[k],c,by rw [e];simp,mem_append_left _ c1,c2,c3,c4⟩
  obtain ⟨A,B,e⟩:=append_of_mem hqL
  exact ⟨A,B++[k],k,by rw [e];simp,by simp,c2,c3,c4⟩
theorem Hld.add (h : Hld t R w L g) (hv : Iv false t R w L P g) {h' : Thr} {hd : Nat → Int} {ls : Nat → Bool} {mm : Nat → Int} (hx : (lth t i)[(g.th i).pc]? = some x) (hm : G4 x.op = true)
    (h1:∀ j,j≠i->hd j=g.hd j) (h2:∀ j,j≠i->(ls j=true↔g.ls j=true\/(wrB x.op=true/\g.hd j=x.loc+1)))
    (h3:hd i=if 0<(B8 t R w i h'.pc).1.w.lr then (B8 t R w i h'.pc).1.w.lrLoc+1 else 0)
    (h4:∀ q:Nat,(B8 t R w i h'.pc).1.w.lr=(q:Int)+1->(ls i=true↔∃ L1 L2 c,L++[F8 t i (g.th i).pc]=L1++q::L2/\c∈L2/\wrB (opX t c).op=true/\(opX t c).loc=(B8 t R w i h'.pc).1.w.lrLoc/\E5 t c≠i)) :
    Hld t R w (L++[F8 t i (g.th i).pc]) ⟨upd g.th i h',hd,ls,mm⟩:=by
  have hi:=Jo_ hx
  obtain ⟨a1,a2,a3,a4⟩:=J6 hx hm
  have hnot:F8 t i (g.th i).pc∉L:=fun hc=>by
    have:=(hv.inL _ hc).2.1
    unfold psd at this;rw [a3,a4] at this;omega
  refine ⟨fun j hj=>?_,fun j hj q hq=>?_⟩
  . by_cases ej:j=i
    . subst ej;simp only [B4];exact h3
    simp only [E2 ej];rw [h1 j ej];exact h.hd j hj
  dsimp only at hq ⊢
  by_cases ej:j=i
  . subst ej;rw [B4] at hq ⊢;exact h4 q hq
  rw [E2 ej] at hq ⊢
  obtain ⟨q1,_⟩:=hv.lr_in hj hq
  rw [h2 j ej,Z2_ (lo:=0) q1 hnot,h.ls j hj q hq,h.hd j hj,if_pos (by omega),a2,a3]
  constructor
  . rintro (h5|⟨h5,h6⟩)
    . exact .inl h5
    exact .inr ⟨h5,by omega,fun e=>ej e.symm⟩
  rintro (h5|⟨h5,h6,_⟩)
  . exact .inl h5
  exact .inr ⟨h5,by omega⟩
theorem Hld.stay (h : Hld t R w L g) {h' : Thr} {hd : Nat → Int} {ls : Nat → Bool} {mm : Nat → Int} (h1 : ∀ j, j ≠ i → hd j = g.hd j ∧ ls j = g.ls j)
    (h3:hd i=if 0<(B8 t R w i h'.pc).1.w.lr then (B8 t R w i h'.pc).1.w.lrLoc+1 else 0)
    (h4:∀ q:Nat,(B8 t R w i h'.pc).1.w.lr=(q:Int)+1->(ls i=true↔∃ L1 L2 c,L=L1++q::L2/\c∈L2/\wrB (opX t c).op=true/\(opX t c).loc=(B8 t R w i h'.pc).1.w.lrLoc/\E5 t c≠i)) :
    Hld t R w L ⟨upd g.th i h',hd,ls,mm⟩:=by
  refine ⟨fun j hj=>?_,fun j hj q hq=>?_⟩
  . by_cases ej:j=i
    . subst ej;simp only [B4];exact h3
    simp only [E2 ej];rw [(h1 j ej).1];exact h.hd j hj
  dsimp only at hq ⊢
  by_cases ej:j=i
  . subst ej;rw [B4] at hq ⊢;exact h4 q hq
  rw [E2 ej] at hq ⊢
  rw [(h1 j ej).2];exact h.ls j hj q hq
end
structure Full (m:Bool) (t:Tst) (R:List Vl) (w:List Bool) (L:List Nat) (P:Nat->List Nat) (g:Gs):Prop where
 rl:R.length=nO t
 wl:w.length=nO t
 w14:∀ k,w.getD k false=true->(opX t k).op=14
 iv:Iv m t R w L P g
 hl:m=false->Hld t R w L g
 fw:Fwd m t R w L g
section
variable {m:Bool} {t:Tst} {R R':List Vl} {w w':List Bool} {L:List Nat} {P:Nat->List Nat} {g:Gs} {i k:Nat} {x:Ins}
theorem Full.ext (h : Full m t R w L P g) (hx : (lth t i)[(g.th i).pc]? = some x) (hm : G4 x.op = true) (v : Int) (b : Bool) (hb : b = true → x.op = 14) :
    Full m t (R.set (F8 t i (g.th i).pc) ⟨true,v⟩) (w.set (F8 t i (g.th i).pc) b) L P g/\(R.set (F8 t i (g.th i).pc) ⟨true,v⟩).getD (F8 t i (g.th i).pc) zV=⟨true,v⟩/\(w.set (F8 t i (g.th i).pc) b).getD (F8 t i (g.th i).pc) false=b:=by
  obtain ⟨a1,a2,a3,a4⟩:=J6 hx hm
  have hr:=h.rl
  have hw:=h.wl
  have he:∀ k,k<nO t->psd t g k->R.getD k zV=(R.set (F8 t i (g.th i).pc) ⟨true,v⟩).getD k zV/\w.getD k false=(w.set (F8 t i (g.th i).pc) b).getD k false:=fun k hk hp=>by
    have hne:¬ k=F8 t i (g.th i).pc:=fun e=>by
      unfold psd at hp;rw [e,a3,a4] at hp;omega
    rw [P4,P4,if_neg fun e=>hne e.1,if_neg fun e=>hne e.1]
    exact ⟨rfl,rfl⟩
  refine ⟨⟨by rw [length_set];exact hr,by rw [length_set];exact hw,fun k hk=>?_,h.iv.ext he,fun e=>(h.hl e).ext he,h.fw.ext h.iv he⟩,?_,?_⟩
  . rw [P4] at hk
    split at hk
    . rename_i hc;rw [hc.1,a2];exact hb hk
    exact h.w14 k hk
  . rw [P4,if_pos ⟨rfl,by omega⟩]
  rw [P4,if_pos ⟨rfl,by omega⟩]
theorem zNc (ha:At t R w i (g.th i)) (hx:(lth t i)[(g.th i).pc]?=some x) (hm:G4 x.op=true):QD_ t R w (F8 t i (g.th i).pc)=((ZH_ (B8 t R w i (g.th i).pc).1.w x (R.getD (F8 t i (g.th i).pc) zV) (w.getD (F8 t i (g.th i).pc) false)).getD zV).v:=by
 unfold QD_
 rw [(ha.mem hx hm).2.2.2.2.2];rfl
theorem zGr (ha:At t R w i (g.th i)) (hx:(lth t i)[(g.th i).pc]?=some x) (hm:G4 x.op=true):(fxO t R w (F8 t i (g.th i).pc)).st=r6 x (w.getD (F8 t i (g.th i).pc) false):=by
 rw [(ha.mem hx hm).2.2.2.2.2];rfl
theorem Jq_ (h:x.op≠14\/k=1) {b:Bool} (hb:x.op=14->b=true):r6 x b=1:=by
 unfold r6
 rw [if_neg fun hc=>by rw [hb hc.1] at hc;cases hc.2]
theorem U7_ {j:Nat} {l:Int} (hj:j≠i):U6_ g i l j=true↔g.ls j=true\/g.hd j=l+1:=by
 unfold U6_
 simp [hj]
theorem Jr_ {l:Int}:U6_ g i l i=g.ls i:=by
 unfold U6_
 simp
theorem zNd (hT:TTOk t) (ht:TG t) {g':Gs} (hs:GStep m t g g') (h:∃ R w L P,Full m t R w L P g):∃ R w L P,Full m t R w L P g':=by
 obtain ⟨R,w,L,P,h⟩:=h
 cases hs with
 | @loc i x hi hx hm hw =>
  have ok:=(hT.thr i _ (V5 hi)).2 _ x hx
  obtain ⟨hA,hpc,⟨l1,l2⟩,hout⟩:=(h.iv.at_ i hi).loc ht hx ok hm
  have hiv:=h.iv.same (hd:=g.hd) (ls:=g.ls) hi hA (zE3 x (g.th i)) (Nat.le_of_lt hpc) fun k hk hth h1 h2 hst=>by
   by_cases e:opAt t k=(g.th i).pc
   .obtain ⟨p1,p2,_⟩:=I5 hk
    rw [hth,e,hx] at p1
    cases p1
    have:G4 (opX t k).op=true:=p2
    rw [this] at hm;cases hm
   have ho:=hout (opAt t k) (by omega) h2
   rw [X6 hk,hth] at hst
   split at hst
   .unfold fxP at hst
    rw [if_pos ho] at hst
    exact absurd hst (by decide)
   exact absurd hst (by decide)
  refine ⟨R,w,L,P,h.rl,h.wl,h.w14,hiv,fun e=>?_,h.fw.move fun s y h1 h2 h3 h4 h5 a b1 b2 b3 b4=>?_⟩
  .subst e
   have hh:=h.hl rfl
   refine hh.stay (i:=i) (fun j _=>⟨rfl,rfl⟩) ?_ fun q hq=>?_
   .rw [l1,l2];exact hh.hd i hi
   rw [l1] at hq
   rw [l2];exact hh.ls i hi q hq
  by_cases e:s=(g.th i).pc
  .subst e
   rw [hx] at h3;cases h3
   have hP:=h.iv.bare hi (hw h4)
   rcases h.iv.own b1 b2 hi (by unfold psd;rw [b2];exact b3) b4 with c|c
   .exact c
   rw [hP] at c;cases c
  have:=hout s (by omega) h2
  omega
 | @ld i x hi hx h9 =>
  have hm:G4 x.op=true:=by rw [h9];rfl
  obtain ⟨a1,a2,a3,a4⟩:=J6 hx hm
  obtain ⟨h',hR,hW⟩:=h.ext hx hm (Yy_ (g.th i).bf g.mm x.loc.toNat) false (fun e=>by cases e)
  generalize R.set (F8 t i (g.th i).pc) ⟨true,Yy_ (g.th i).bf g.mm x.loc.toNat⟩=R' at *
  generalize w.set (F8 t i (g.th i).pc) false=w' at *
  have hA:=h'.iv.at_ i hi
  have hmem:=hA.mem hx hm
  have hst:=(zGr hA hx hm).trans (Jq_ (k:=1) (.inr rfl) fun e=>by omega)
  refine ⟨R',w',L++[F8 t i (g.th i).pc],P,h'.rl,h'.wl,h'.w14,h'.iv.add hx hm (fun r=>?_) hst ?_,fun e=>?_,h'.fw.add h'.iv hx hm rfl (fun a b1 b2 b3 b4=>?_) (fun _=>?_) fun e=>by omega⟩
  .unfold O1
   rw [if_pos h9,hR]
   exact We_ hA.rg _ _ _ r
  .unfold u0
   rw [a2,if_neg (by rw [h9];decide)]
  .subst e
   have hh:=h'.hl rfl
   have hlr:(B8 t R' w' i ((g.th i).pc+1)).1.w.lr=(B8 t R' w' i (g.th i).pc).1.w.lr/\(B8 t R' w' i ((g.th i).pc+1)).1.w.lrLoc=(B8 t R' w' i (g.th i).pc).1.w.lrLoc:=by
    rw [hmem.2.2.2.2.1]
    dsimp only
    unfold O1
    rw [if_pos h9]
    exact ⟨rfl,rfl⟩
   refine hh.add h'.iv hx hm (fun _ _=>rfl) (fun j hj=>?_) ?_ fun q hq=>?_
   .constructor
    .exact .inl
    rintro (h1|⟨h1,_⟩)
    .exact h1
    rw [h9] at h1;cases h1
   .dsimp only;rw [hlr.1,hlr.2];exact hh.hd i hi
   dsimp only at hq ⊢
   rw [hlr.1] at hq
   obtain ⟨q1,_⟩:=h'.iv.lr_in hi hq
   have hnot:F8 t i (g.th i).pc∉L:=fun hc=>by
    have:=(h'.iv.inL _ hc).2.1
    unfold psd at this;rw [a3,a4] at this;omega
   rw [hlr.2,Z2_ (lo:=0) q1 hnot,hh.ls i hi q hq,a3]
   simp
  .have han:a<nO t:=by omega
   have hpa:psd t g a:=by
    have:=(n5 a1 han (b2.trans a3.symm)).1 b1
    unfold psd;rw [b2];omega
   rcases h'.iv.own han b2 hi hpa b3 with c|c
   .exact c
   obtain ⟨_,_,_,_,c5,c6,_⟩:=(h'.iv.pm i hi a).1 c
   rcases b4 with b4|b4|b4
   .rw [b4] at c6;cases c6
   .exact absurd ⟨c5,h9⟩ b4
   obtain ⟨s,y,e1,e2,e3,e4,e5⟩:=b4
   rw [a3] at e3 e5
   exact h'.fw.fen i hi s y (by omega) e3 e4 e5 a han b2 e1 b3
  rw [hR,<-h'.iv.sees hi]
 | @lr i x hf hi hx h13 =>
  subst hf
  have hm:G4 x.op=true:=by rw [h13];rfl
  obtain ⟨a1,a2,a3,a4⟩:=J6 hx hm
  obtain ⟨h',hR,hW⟩:=h.ext hx hm (g.mm x.loc.toNat) false (fun e=>by cases e)
  generalize R.set (F8 t i (g.th i).pc) ⟨true,g.mm x.loc.toNat⟩=R' at *
  generalize w.set (F8 t i (g.th i).pc) false=w' at *
  have hA:=h'.iv.at_ i hi
  have hmem:=hA.mem hx hm
  have hst:=(zGr hA hx hm).trans (Jq_ (k:=1) (.inr rfl) fun e=>by omega)
  have hP:=h'.iv.bareF hi
  refine ⟨R',w',L++[F8 t i (g.th i).pc],P,h'.rl,h'.wl,h'.w14,h'.iv.add hx hm (fun r=>?_) hst ?_,fun e=>?_,h'.fw.add h'.iv hx hm rfl (fun a b1 b2 b3 b4=>?_) (fun _=>?_) fun e=>by omega⟩
  .unfold O1
   rw [if_neg (by omega),if_pos h13,hR]
   exact We_ hA.rg x.rd (g.mm x.loc.toNat) (y7 1 (F8 t i (g.th i).pc:Nat)) r
  .unfold u0
   rw [a2,if_neg (by rw [h13];decide)]
  .have hh:=h'.hl rfl
   have hlr:(B8 t R' w' i ((g.th i).pc+1)).1.w.lr=(F8 t i (g.th i).pc:Nat)+1/\(B8 t R' w' i ((g.th i).pc+1)).1.w.lrLoc=x.loc:=by
    rw [hmem.2.2.2.2.1]
    dsimp only
    unfold O1
    rw [if_neg (by omega),if_pos h13]
    exact ⟨rfl,rfl⟩
   have hnot:F8 t i (g.th i).pc∉L:=fun hc=>by
    have:=(h'.iv.inL _ hc).2.1
    unfold psd at this;rw [a3,a4] at this;omega
   refine hh.add h'.iv hx hm (fun j hj=>E2 hj) (fun j hj=>?_) ?_ fun q hq=>?_
   .rw [E2 hj]
    constructor
    .exact .inl
    rintro (h1|⟨h1,_⟩)
    .exact h1
    rw [h13] at h1;cases h1
   .dsimp only;rw [hlr.1,hlr.2,if_pos (by omega),B4]
   dsimp only at hq ⊢
   rw [hlr.1] at hq
   obtain rfl:q=F8 t i (g.th i).pc:=by omega
   rw [B4]
   simp only [Bool.false_eq_true,false_iff,not_exists]
   rintro L1 L2 c ⟨e,c1,_⟩
   rcases O8 e with ⟨_,_,rfl⟩|⟨B',_,e2⟩
   .cases c1
   exact hnot (by rw [e2];simp)
  .have han:a<nO t:=by omega
   have hpa:psd t g a:=by
    have:=(n5 a1 han (b2.trans a3.symm)).1 b1
    unfold psd;rw [b2];omega
   rcases h'.iv.own han b2 hi hpa b3 with c|c
   .exact c
   rw [hP] at c;cases c
  rw [hR,hP,append_nil,<-h'.iv.mm]
 | @stb i x hf hi hx h10 =>
  subst hf
  refine ⟨R,w,L,_,h.rl,h.wl,h.w14,h.iv.wait hx h10,fun e=>(by cases e),h.fw.move fun s y h1 h2 h3 h4 _ _ _ _ _ _=>?_⟩
  dsimp only at h2
  obtain rfl:s=(g.th i).pc:=by omega
  rw [hx] at h3;cases h3
  rw [Wi_ (by rw [h10];rfl)] at h4;cases h4
 | @st i x hf hi hx h10 =>
  subst hf
  have hm:G4 x.op=true:=by rw [h10];rfl
  obtain ⟨a1,a2,a3,a4⟩:=J6 hx hm
  have hA:=h.iv.at_ i hi
  have hmem:=hA.mem hx hm
  have hst:=(zGr hA hx hm).trans (Jq_ (k:=1) (.inr rfl) fun e=>by omega)
  have hP:=h.iv.bareF hi
  refine ⟨R,w,L++[F8 t i (g.th i).pc],P,h.rl,h.wl,h.w14,h.iv.add hx hm (fun r=>?_) hst ?_,fun e=>?_,h.fw.add h.iv hx hm rfl (fun a b1 b2 b3 b4=>?_) (fun e=>?_) fun e=>by omega⟩
  .unfold O1
   rw [if_neg (by omega),if_neg (by omega),if_pos h10]
   exact hA.rg r
  .unfold u0
   rw [a2,if_pos (by rw [h10];rfl),zNc hA hx hm]
   unfold ZH_
   rw [if_pos (.inl h10),hA.arg];rfl
  .have hh:=h.hl rfl
   have hlr:(B8 t R w i ((g.th i).pc+1)).1.w.lr=(B8 t R w i (g.th i).pc).1.w.lr/\(B8 t R w i ((g.th i).pc+1)).1.w.lrLoc=(B8 t R w i (g.th i).pc).1.w.lrLoc:=by
    rw [hmem.2.2.2.2.1]
    dsimp only
    unfold O1
    rw [if_neg (by omega),if_neg (by omega),if_pos h10]
    exact ⟨rfl,rfl⟩
   refine hh.add h.iv hx hm (fun _ _=>rfl) (fun j hj=>?_) ?_ fun q hq=>?_
   .rw [U7_ hj,h10]
    constructor
    .rintro (h1|h1)
     .exact .inl h1
     exact .inr ⟨rfl,h1⟩
    rintro (h1|⟨_,h1⟩)
    .exact .inl h1
    exact .inr h1
   .dsimp only;rw [hlr.1,hlr.2];exact hh.hd i hi
   dsimp only at hq ⊢
   rw [hlr.1] at hq
   obtain ⟨q1,_⟩:=h.iv.lr_in hi hq
   have hnot:F8 t i (g.th i).pc∉L:=fun hc=>by
    have:=(h.iv.inL _ hc).2.1
    unfold psd at this;rw [a3,a4] at this;omega
   rw [Jr_,hlr.2,Z2_ (lo:=0) q1 hnot,hh.ls i hi q hq,a3]
   simp
  .have han:a<nO t:=by omega
   have hpa:psd t g a:=by
    have:=(n5 a1 han (b2.trans a3.symm)).1 b1
    unfold psd;rw [b2];omega
   rcases h.iv.own han b2 hi hpa b3 with c|c
   .exact c
   rw [hP] at c;cases c
  rw [h10] at e;cases e
 | @sw i x hi hx h11 hb =>
  have hm:G4 x.op=true:=by rcases h11 with e|e<;>rw [e]<;>rfl
  have hwr:wrB x.op=true:=by rcases h11 with e|e<;>rw [e]<;>rfl
  obtain ⟨a1,a2,a3,a4⟩:=J6 hx hm
  obtain ⟨h',hR,hW⟩:=h.ext hx hm (g.mm x.loc.toNat) false (fun e=>by cases e)
  generalize R.set (F8 t i (g.th i).pc) ⟨true,g.mm x.loc.toNat⟩=R' at *
  generalize w.set (F8 t i (g.th i).pc) false=w' at *
  have hA:=h'.iv.at_ i hi
  have hmem:=hA.mem hx hm
  have hst:=(zGr hA hx hm).trans (Jq_ (k:=1) (.inr rfl) fun e=>by omega)
  have hP:=h'.iv.bare hi hb
  refine ⟨R',w',L++[F8 t i (g.th i).pc],P,h'.rl,h'.wl,h'.w14,h'.iv.add hx hm (fun r=>?_) hst ?_,fun e=>?_,h'.fw.add h'.iv hx hm rfl (fun a b1 b2 b3 b4=>?_) (fun _=>?_) fun e=>by omega⟩
  .unfold O1
   rw [if_neg (by omega),if_neg (by omega),if_neg (by omega),if_pos h11,hR]
   exact We_ hA.rg _ _ _ r
  .unfold u0
   rw [a2,if_pos hwr,zNc hA hx hm,hR]
   unfold ZH_ swV
   congr 1
   rcases h11 with e|e
   .rw [if_neg (show ¬ x.op=12 by omega),if_pos (show x.op=10\/x.op=11 from .inr e),hA.arg];rfl
   rw [if_pos e,if_neg (show ¬ (x.op=10\/x.op=11) by omega),if_pos e,hA.arg];rfl
  .subst e
   have hh:=h'.hl rfl
   have hlr:(B8 t R' w' i ((g.th i).pc+1)).1.w.lr=(B8 t R' w' i (g.th i).pc).1.w.lr/\(B8 t R' w' i ((g.th i).pc+1)).1.w.lrLoc=(B8 t R' w' i (g.th i).pc).1.w.lrLoc:=by
    rw [hmem.2.2.2.2.1]
    dsimp only
    unfold O1
    rw [if_neg (by omega),if_neg (by omega),if_neg (by omega),if_pos h11]
    exact ⟨rfl,rfl⟩
   refine hh.add h'.iv hx hm (fun _ _=>rfl) (fun j hj=>?_) ?_ fun q hq=>?_
   .rw [U7_ hj,hwr]
    constructor
    .rintro (h1|h1)
     .exact .inl h1
     exact .inr ⟨rfl,h1⟩
    rintro (h1|⟨_,h1⟩)
    .exact .inl h1
    exact .inr h1
   .dsimp only;rw [hlr.1,hlr.2];exact hh.hd i hi
   dsimp only at hq ⊢
   rw [hlr.1] at hq
   obtain ⟨q1,_⟩:=h'.iv.lr_in hi hq
   have hnot:F8 t i (g.th i).pc∉L:=fun hc=>by
    have:=(h'.iv.inL _ hc).2.1
    unfold psd at this;rw [a3,a4] at this;omega
   rw [Jr_,hlr.2,Z2_ (lo:=0) q1 hnot,hh.ls i hi q hq,a3]
   simp
  .have han:a<nO t:=by omega
   have hpa:psd t g a:=by
    have:=(n5 a1 han (b2.trans a3.symm)).1 b1
    unfold psd;rw [b2];omega
   rcases h'.iv.own han b2 hi hpa b3 with c|c
   .exact c
   rw [hP] at c;cases c
  rw [hR,hP,append_nil,<-h'.iv.mm]
 | @scf i x hf hi hx h14 =>
  subst hf
  have hm:G4 x.op=true:=by rw [h14];rfl
  obtain ⟨a1,a2,a3,a4⟩:=J6 hx hm
  obtain ⟨h',hR,hW⟩:=h.ext hx hm 0 false (fun e=>by cases e)
  generalize R.set (F8 t i (g.th i).pc) ⟨true,0⟩=R' at *
  generalize w.set (F8 t i (g.th i).pc) false=w' at *
  have hA:=h'.iv.at_ i hi
  have hmem:=hA.mem hx hm
  have hst:=zGr hA hx hm
  rw [hW] at hst
  have hwk:O1 (B8 t R' w' i (g.th i).pc).1.w x (F8 t i (g.th i).pc) (R'.getD (F8 t i (g.th i).pc) zV) (w'.getD (F8 t i (g.th i).pc) false)=Wr_ { (B8 t R' w' i (g.th i).pc).1.w with lr:=0 } x.rd ⟨true,1⟩ 0:=by
   unfold O1 x7
   rw [if_neg (by omega),if_neg (by omega),if_neg (by omega),if_neg (by omega),if_pos h14,hW]
   rfl
  have hN:=hA.next hx hm (rg':=upd (g.th i).rg x.rd.toNat 1) (g.th i).bf fun r=>by
   rw [hwk]
   exact We_ (u:={ (B8 t R' w' i (g.th i).pc).1.w with lr:=0 }) hA.rg x.rd 1 0 r
  refine ⟨R',w',L,P,h'.rl,h'.wl,h'.w14,h'.iv.same hi hN rfl (Nat.le_succ _) fun q hq hth h1 h2=>?_,fun e=>?_,h'.fw.move fun s y h1 h2 h3 h4 _ _ _ _ _ _=>?_⟩
  .dsimp only at h2
   have:q=F8 t i (g.th i).pc:=zN7 a1 hq (hth.trans a3.symm) (by omega)
   rw [this,hst]
   unfold r6
   rw [if_pos ⟨h14,rfl⟩];decide
  .have hh:=h'.hl rfl
   have hlr:(B8 t R' w' i ((g.th i).pc+1)).1.w.lr=0:=by
    rw [hmem.2.2.2.2.1]
    dsimp only
    rw [hwk];rfl
   refine hh.stay (fun j hj=>⟨E2 hj,E2 hj⟩) ?_ fun q hq=>?_
   .dsimp only;rw [hlr,if_neg (by decide),B4]
   dsimp only at hq
   rw [hlr] at hq;omega
  dsimp only at h2
  obtain rfl:s=(g.th i).pc:=by omega
  rw [hx] at h3;cases h3
  rw [Wi_ hm] at h4;cases h4
 | @scw i x hf hi hx h14 hw1 hw2 =>
  subst hf
  have hm:G4 x.op=true:=by rw [h14];rfl
  obtain ⟨a1,a2,a3,a4⟩:=J6 hx hm
  obtain ⟨h',hR,hW⟩:=h.ext hx hm 0 true (fun _=>h14)
  generalize R.set (F8 t i (g.th i).pc) ⟨true,0⟩=R' at *
  generalize w.set (F8 t i (g.th i).pc) true=w' at *
  have hA:=h'.iv.at_ i hi
  have hmem:=hA.mem hx hm
  have hst:=(zGr hA hx hm).trans (Jq_ (k:=1) (.inr rfl) fun _=>hW)
  have hP:=h'.iv.bareF hi
  have hwk:O1 (B8 t R' w' i (g.th i).pc).1.w x (F8 t i (g.th i).pc) (R'.getD (F8 t i (g.th i).pc) zV) (w'.getD (F8 t i (g.th i).pc) false)=Wr_ { (B8 t R' w' i (g.th i).pc).1.w with lr:=0 } x.rd ⟨true,0⟩ (y7 1 (F8 t i (g.th i).pc:Nat)):=by
   unfold O1 x7
   rw [if_neg (by omega),if_neg (by omega),if_neg (by omega),if_neg (by omega),if_pos h14,hW]
   rfl
  have hh:=h'.hl rfl
  have ok:=(hT.thr i _ (V5 hi)).2 _ x hx
  have hl0:=ok.loc hm
  refine ⟨R',w',L++[F8 t i (g.th i).pc],P,h'.rl,h'.wl,h'.w14,h'.iv.add hx hm (fun r=>?_) hst ?_,fun e=>?_,h'.fw.add h'.iv hx hm rfl (fun a b1 b2 b3 b4=>?_) (fun e=>?_) fun _=>?_⟩
  .rw [hwk]
   exact We_ (u:={ (B8 t R' w' i (g.th i).pc).1.w with lr:=0 }) hA.rg x.rd 0 (y7 1 (F8 t i (g.th i).pc:Nat)) r
  .unfold u0
   rw [a2,if_pos (by rw [h14];rfl),zNc hA hx hm]
   unfold ZH_
   rw [if_neg (by omega),if_neg (by omega),if_pos ⟨h14,hW⟩,hA.arg];rfl
  .have hlr:(B8 t R' w' i ((g.th i).pc+1)).1.w.lr=0:=by
    rw [hmem.2.2.2.2.1]
    dsimp only
    rw [hwk];rfl
   refine hh.add h'.iv hx hm (fun j hj=>E2 hj) (fun j hj=>?_) ?_ fun q hq=>?_
   .rw [U7_ hj,h14]
    constructor
    .rintro (h1|h1)
     .exact .inl h1
     exact .inr ⟨rfl,h1⟩
    rintro (h1|⟨_,h1⟩)
    .exact .inl h1
    exact .inr h1
   .dsimp only;rw [hlr,if_neg (by decide),B4]
   dsimp only at hq
   rw [hlr] at hq;omega
  .have han:a<nO t:=by omega
   have hpa:psd t g a:=by
    have:=(n5 a1 han (b2.trans a3.symm)).1 b1
    unfold psd;rw [b2];omega
   rcases h'.iv.own han b2 hi hpa b3 with c|c
   .exact c
   rw [hP] at c;cases c
  .rw [h14] at e;cases e
  have hd:=hh.hd i hi
  rw [hw1] at hd
  by_cases hpos:0<(B8 t R' w' i (g.th i).pc).1.w.lr
  .rw [if_pos hpos] at hd
   obtain ⟨q,hq⟩:∃ q:Nat,(B8 t R' w' i (g.th i).pc).1.w.lr=(q:Int)+1:=⟨((B8 t R' w' i (g.th i).pc).1.w.lr-1).toNat,by omega⟩
   obtain ⟨q1,_⟩:=h'.iv.lr_in hi hq
   obtain ⟨C,D,e⟩:=append_of_mem q1
   refine ⟨q,C,D,?_,e,fun j hj hwj hlj=>Classical.byContradiction fun hne=>?_⟩
   .rw [hmem.2.2.2.2.2]
    show (if x.op=14/\0<(B8 t R' w' i (g.th i).pc).1.w.lr/\(B8 t R' w' i (g.th i).pc).1.w.lrLoc=x.loc then (B8 t R' w' i (g.th i).pc).1.w.lr else 0)=_
    rw [if_pos ⟨h14,hpos,by omega⟩,hq]
   have:=(hh.ls i hi q hq).2 ⟨C,D,j,e,hj,hwj,by rw [hlj];omega,hne⟩
   rw [hw2] at this;cases this
  rw [if_neg hpos] at hd;omega
 | @dr i p r hf hi hb =>
  subst hf
  obtain ⟨k,Q,hP,hiv⟩:=h.iv.drain (hd:=g.hd) (ls:=g.ls) hi hb
  have hpk:=(h.iv.pm i hi k).1 (by rw [hP];exact .head _)
  obtain ⟨k1,k2,k3,k4,k5,_,k7⟩:=hpk
  refine ⟨R,w,L++[k],_,h.rl,h.wl,h.w14,hiv,fun e=>(by cases e),h.fw.drain rfl k5 fun a b1 b2 b3=>?_⟩
  have han:a<nO t:=by omega
  rcases h.iv.own han (b2.trans k2) hi (Jp_ han k1 b2 b1 k3) b3 with c|c
  .exact c
  rw [hP] at c
  rcases List.mem_cons.1 c with c|c
  .omega
  have hps:=h.iv.ps i hi
  rw [hP] at hps
  have:=(List.pairwise_cons.1 hps).1 a c
  omega
theorem zNe:Full m t (List.replicate (nO t) zV) (List.replicate (nO t) false) [] (fun _=>[]) (zRy t) where
 rl:=by simp
 wl:=by simp
 w14 k hk:=by rw [List.getD,List.getElem?_replicate] at hk;split at hk<;>cases hk
 iv:=zS0 _ _ _
 hl _:=zS1 _ _
 fw:=⟨fun A b B e=>by simp at e,fun A b B e=>by simp at e,fun i hi s y h=>absurd h (Nat.not_lt_zero _),fun A k B e=>by simp at e⟩
theorem zS7 (hT:TTOk t) (ht:TG t) {a b:Gs} (hr:GRun m t a b):(∃ R w L P,Full m t R w L P a)->∃ R w L P,Full m t R w L P b:=by
 induction hr with
 | nil=>exact id
 | snoc _ s ih=>exact fun h=>zNd hT ht s (ih h)
end
section
variable {m:Bool} {t:Tst} {R:List Vl} {w:List Bool} {L:List Nat} {P:Nat->List Nat} {g:Gs} {i:Nat}
theorem zF6 (hl:(lth t i).length<=8):∀ b,b<=(lth t i).length->(B8 t R w i b).2=true->∀ s,P8 (B8 t R w i b).1.w.left s=decide (s<b/\0<(B8 t R w i s).1.out)
 | 0,_,_,s=>by
  show P8 0 s=_
  rw [s8];simp
 | b+1,hb,h,s=>by
  have hp:=W0 h
  have ih:=zF6 hl b (by omega) hp s
  have hx:=List.getElem?_eq_getElem (show b<(lth t i).length by omega)
  have hU:U64 (B8 t R w i b).1.w.left:=by
   have:∀ c,c<=b->U64 (B8 t R w i c).1.w.left:=fun c=>by
    induction c with
    | zero=>intro _;exact L9
    | succ c ih2 =>
     intro hc
     have ih2:=ih2 (by omega)
     have hx2:=List.getElem?_eq_getElem (show c<(lth t i).length by omega)
     rw [E9 hx2]
     split
     rotate_left
     .exact ih2
     dsimp only
     generalize (B8 t R w i c).1=u at *
     unfold N8
     split
     .exact (M0 ih2 (S2 (by omega)).1).1
     split
     .dsimp only
      unfold O1
      split
      .exact ih2
      split
      .exact ih2
      split
      .exact ih2
      split
      .exact ih2
      split
      .unfold x7
       cases w.getD u.k false<;>exact ih2
      exact ih2
     split
     .exact ih2
     dsimp only
     unfold H8
     split
     .exact ih2
     split<;>exact ih2
   exact this b (Nat.le_refl _)
  have hleft:(B8 t R w i (b+1)).1.w.left=if 0<(B8 t R w i b).1.out then o64 (B8 t R w i b).1.w.left (y7 1 (b:Nat)) else (B8 t R w i b).1.w.left:=by
   rw [E9 hx,if_pos hp]
   generalize (B8 t R w i b).1=u at *
   unfold N8
   split
   .rfl
   split
   .dsimp only
    unfold O1
    split
    .rfl
    split
    .rfl
    split
    .rfl
    split
    .rfl
    split
    .unfold x7
     cases w.getD u.k false<;>rfl
    rfl
   split
   .rfl
   dsimp only
   unfold H8
   split
   .rfl
   split<;>rfl
  rw [hleft]
  by_cases ho:0<(B8 t R w i b).1.out
  .rw [if_pos ho]
   have e:=(M0 hU (S2 (show b<64 by omega)).1).2 s
   rw [e,ih,(S2 (show b<64 by omega)).2 s,Bool.eq_iff_iff]
   simp only [Bool.or_eq_true,decide_eq_true_eq]
   constructor
   .rintro (⟨h1,h2⟩|rfl)
    .exact ⟨by omega,h2⟩
    exact ⟨by omega,ho⟩
   rintro ⟨h1,h2⟩
   by_cases e:s=b
   .exact .inr e.symm
   exact .inl ⟨by omega,h2⟩
  rw [if_neg ho,ih,decide_eq_decide]
  constructor
  .rintro ⟨h1,h2⟩;exact ⟨by omega,h2⟩
  rintro ⟨h1,h2⟩
  by_cases e:s=b
  .subst e;exact absurd h2 ho
  exact ⟨by omega,h2⟩
theorem zij {i s:Nat} (h:(ZI_ t (i,s)).op=15):(lth t i)[s]?=some (ZI_ t (i,s)):=by
 unfold ZI_ at h ⊢
 dsimp only at h ⊢
 have e:(t.ths.getD i [])=lth t i:=rfl
 rw [e] at h ⊢
 cases hg:(lth t i)[s]? with
 | some y=>rw [List.getD,hg];rfl
 | none=>rw [List.getD,hg] at h;cases h
theorem zC5 (hl:∀ i,(lth t i).length<=8) (hwh:(D5 t R w).whole=true) {fr:List Int} {a b:Nat} (h:zT0 (csR t R w fr) a b=true) (hlo:QC_ (csR t R w fr) a b=true):znw t R w a b:=by
 unfold zT0 Q5_ at h
 rw [any_eq_true] at h
 obtain ⟨j,hj,h⟩:=h
 have hj:=List.mem_range.1 hj
 unfold zB0 at h
 rw [any_eq_true] at h
 obtain ⟨s,hs,h⟩:=h
 unfold zc1 zDv UY_ W1_ at h
 simp only [Bool.and_eq_true,Bool.not_eq_true',decide_eq_true_eq,decide_eq_false_iff_not] at h
 obtain ⟨⟨hop,hleft⟩,⟨⟨h1,h2,h3⟩,h4⟩,⟨h5,h6,h7⟩,h8⟩:=h
 have hfe:=zij (t:=t) hop
 have hlen:=(List.getElem?_eq_some_iff.1 hfe).1
 have hok:=(e8 t R w).1 hwh j hj
 have hbit:=zF6 (R:=R) (w:=w) (hl j) _ (Nat.le_refl _) hok.1 s
 have hreg:(csR t R w fr).f.left.getD j 0=(B8 t R w j (lth t j).length).1.w.left:=by
  show (D5 t R w).left.getD j 0=_
  rw [List.getD,(V9 t R w hj).2];rfl
 rw [hreg,hbit,decide_eq_false_iff_not] at hleft
 replace h2:E5 t a=j:=h2
 replace h3:opAt t a<s:=h3
 replace h6:E5 t b=j:=h6
 replace h7:¬ opAt t b<s:=h7
 unfold QC_ stB ldB Cs.at_ at hlo
 simp only [Bool.and_eq_true,Bool.or_eq_true,decide_eq_true_eq] at hlo
 obtain ⟨⟨r1,r2⟩,r3,r4⟩:=hlo
 replace r2:(opX t a).op=10\/(opX t a).op=14:=r2
 replace r4:(opX t b).op=9\/(opX t b).op=13:=r4
 have hne:opAt t b≠s:=fun e=>by
  obtain ⟨p1,p2,_⟩:=I5 (t:=t) h5
  rw [h6,e,hfe] at p1
  have:=Option.some.inj p1
  rw [this] at hop
  omega
 refine ⟨s,_,h3,by omega,by rw [h6];exact hfe,?_,by rw [h6];omega⟩
 have na:(csR t R w fr).rd a=false:=by
  cases e:(csR t R w fr).rd a with
  | false=>rfl
  | true =>
   have:=(zMu e).2
   replace this:rdB (opX t a).op=true:=this
   simp only [rdB,Bool.or_eq_true,decide_eq_true_eq] at this;omega
 have nb:(csR t R w fr).wr b=false:=by
  cases e:(csR t R w fr).wr b with
  | false=>rfl
  | true =>
   have:=(zMv e).2
   replace this:wrB (opX t b).op=true:=this
   simp only [wrB,Bool.or_eq_true,decide_eq_true_eq] at this;omega
 unfold Ys_ at h4 h8
 rw [na] at h4
 rw [nb] at h8
 simp only [Bool.and_false,Bool.false_or,Bool.or_false,Bool.and_eq_true,decide_eq_true_eq] at h4 h8
 unfold drB
 simp only [Bool.and_eq_true,decide_eq_true_eq]
 exact ⟨hop,by omega,by omega⟩
def znx (m:Bool):Cs->Rl:=if m then zRr else poP
theorem Wj_ (m:Bool):OrdOk t (znx m):=by
 cases m
 .exact zia
 exact zb2
theorem zNf (h:Full m t R w L P g) (hf:zU5 t g) (hi:i<t.ths.length):(g.th i).pc=(lth t i).length/\P i=[]:=by
 have h1:=(h.iv.at_ i hi).len
 have h2:=List.getElem?_eq_none_iff.1 (hf i hi).2
 exact ⟨by omega,h.iv.bare hi (hf i hi).1⟩
theorem zC6 (h:Full m t R w L P g) (hf:zU5 t g) {k:Nat}:k∈L↔k<nO t/\(fxO t R w k).st=1:=by
 constructor
 .intro hk;obtain ⟨h1,_,h3⟩:=h.iv.inL k hk;exact ⟨h1,h3⟩
 rintro ⟨h1,h3⟩
 obtain ⟨p1,p2,p3,p4⟩:=I5 h1
 have hpc:=zNf h hf p4
 have hlt:=(List.getElem?_eq_some_iff.1 p1).1
 rcases h.iv.own h1 rfl p4 (by unfold psd;rw [hpc.1];exact hlt) h3 with c|c
 .exact c
 rw [hpc.2] at c;cases c
theorem zNg (h:Full m t R w L P g) (hf:zU5 t g):(D5 t R w).whole=true:=by
 rw [e8]
 intro i hi
 have hA:=h.iv.at_ i hi
 rw [<-(zNf h hf hi).1]
 refine ⟨hA.ok,?_⟩
 unfold zby
 rw [all_eq_true]
 intro r _
 rw [hA.rg]
theorem zC7 (h:Full m t R w L P g) (hf:zU5 t g) (hl:∀ i,(lth t i).length<=8) (ht:TG t) (hb:TB t):Coh (znx m) t w R (W4 L):=by
 have hwh:=zNg h hf
 have hnd:=h.iv.nd
 have hso:=Wg_ hnd
 have hall:=fun {k}=>zC6 h hf (k:=k)
 have kn:∀ k,(fxO t R w k).st=1->rdB (opX t k).op=true->(R.getD k zV).k=true:=fun k hs hr=>by
  obtain ⟨A,B,e⟩:=append_of_mem (hall.2 ⟨run_lt hs,hs⟩)
  rw [h.fw.src A k B e hr]
 refine ⟨fun a b _ _ e=>XR_ e,hwh,fun a b ha hb' ho=>?_,fun a b ha hb' h1 h2=>zS6 (hall.2 ⟨ha,h1⟩) fun hc=>h2 (hall.1 hc).2,fun k hs hr=>?_,kn⟩
 .have hpo:=(Wj_ (t:=t) m).po (csR t R w (frR t w R (W4 L))) rfl (Q9 t R w) a b ho
  obtain ⟨p1,p2,p3,p4,p5⟩:=Wa_.1 hpo
  obtain ⟨A,B,e⟩:=append_of_mem (hall.2 ⟨hb',p5⟩)
  have ha':a∈A:=h.fw.kept A b B e a p1 p3 p4 (by
   cases m
   .exact .inl rfl
   right
   replace ho:zRr (csR t R w (frR t w R (W4 L))) a b=true:=ho
   unfold zRr at ho
   simp only [Bool.or_eq_true,Bool.and_eq_true,Bool.not_eq_true'] at ho
   rcases ho with ⟨_,h2⟩|⟨h2,h3⟩
   .left
    rintro ⟨e1,e2⟩
    have:QC_ (csR t R w (frR t w R (W4 L))) a b=true:=by
     unfold QC_ stB ldB Cs.at_
     rw [YP_.2 p4,YP_.2 p5]
     show ((true&&(decide ((opX t a).op=10)||_))&&(true&&(decide ((opX t b).op=9)||_)))=true
     rw [e1,e2];rfl
    rw [this] at h2;cases h2
   exact .inr (zC5 hl hwh h2 h3))
  rw [e] at hnd ⊢
  exact (YS_ hnd).2 ha'
 have hkn:=run_lt hs
 obtain ⟨A,B,e⟩:=append_of_mem (hall.2 ⟨hkn,hs⟩)
 have hsrc:=h.fw.src A k B e hr
 have hlt:∀ {j},W4 L j<W4 L k↔j∈A:=fun {j}=>by rw [e] at hnd ⊢;exact YS_ hnd
 have hkL:k∈L:=hall.2 ⟨hkn,hs⟩
 have hQin:∀ j∈A++zNb t R w A k,j<nO t/\(fxO t R w j).st=1:=fun j hj=>by
  rcases List.mem_append.1 hj with hj|hj
  .exact hall.1 (by rw [e];simp [hj])
  obtain ⟨c1,c2,c3,c4,_⟩:=X7.1 hj;exact ⟨c1,c4⟩
 have hQs:(A++zNb t R w A k).Pairwise fun a b=>W4 L a<W4 L b:=by
  refine List.pairwise_append.2 ⟨?_,?_,fun a ha b hb'=>?_⟩
  .rw [e] at hso;rw [e];exact (List.pairwise_append.1 hso).1
  .refine List.Pairwise.imp_of_mem ?_ (Wh_ (t:=t) (R:=R) (w:=w) (L:=A) (b:=k))
   intro a b ha hb' hab
   obtain ⟨c1,c2,c3,c4,c5,c6⟩:=X7.1 ha
   obtain ⟨d1,d2,d3,d4,d5,d6⟩:=X7.1 hb'
   obtain ⟨C,D,e2⟩:=append_of_mem (hall.2 ⟨d1,d4⟩)
   have:=h.fw.kept C b D e2 a hab (c2.trans d2.symm) c4 (.inr (.inl fun hc=>by omega))
   rw [e2] at hnd ⊢
   exact (YS_ hnd).2 this
  have h1:=hlt.2 ha
  obtain ⟨d1,d2,d3,d4,d5,d6⟩:=X7.1 hb'
  have h2:¬ W4 L b<W4 L k:=fun hc=>d6 (hlt.1 hc)
  omega
 have hlst:=zS4 (t:=t) (pos:=W4 L) hb (v:=QD_ t R w) (k:=k) (F:=fxO t R w) (Q:=A++zNb t R w A k) hkn hQs (fun j hj=>(hQin j hj).1) fun j hj hw hlo=>by
  constructor
  .intro hjQ
   obtain ⟨_,q2⟩:=hQin j hjQ
   refine ⟨?_,q2⟩
   rcases List.mem_append.1 hjQ with hA|hO
   .have:=hlt.2 hA
    exact Je_ (fun e=>by rw [e] at this;omega) hw hlo (.inl (by omega))
   obtain ⟨d1,d2,d3,d4,d5,d6⟩:=X7.1 hO
   exact Je_ (by omega) hw hlo (.inr ⟨d2,d3⟩)
  rintro ⟨hc,hst⟩
  obtain ⟨c1,c2,c3,c4⟩:=N9 (pos:=W4 L) (fun a b _ _ e=>XR_ e) hkn hj hc
  rcases c4 with c4|⟨c4,c5⟩
  .exact mem_append_left _ (hlt.1 c4)
  by_cases hA:j∈A
  .exact mem_append_left _ hA
  refine mem_append_right _ (X7.2 ⟨hj,c4,c5,hst,Classical.byContradiction fun hne=>?_,hA⟩)
  exact hA (h.fw.kept A k B e j c5 c4 hst (.inr (.inl fun hc=>hne hc.1)))
 rw [hsrc,hlst]
 split
 .rfl
 rename_i hL
 obtain ⟨s1,s2,s3,s4⟩:=(H5 (t:=t) (pos:=W4 L) (f:=fxO t R w) (k:=k) (nO t)).2 hL
 obtain ⟨c1,c2,_⟩:=N9 (pos:=W4 L) (fun a b _ _ e=>XR_ e) hkn s1 s2
 have:=zS2 ht kn s3 c2
 unfold QD_
 generalize (fxO t R w (M1 t (W4 L) (fxO t R w) k (nO t)-1)).wr=u at *
 cases u;simp only at this;rw [this]
theorem zb9 (h:Full m t R w L P g) (hf:zU5 t g) (hl:∀ i,(lth t i).length<=8) (ht:TG t) (hb:TB t) {k:Nat} (hk:k<nO t):zk3 t w (W4 L) k:=by
 intro h14 hs
 have hc:=zC7 h hf hl ht hb
 have hfx:=hc.fx ht (Wj_ m)
 have hnd:=h.iv.nd
 have hall:=fun {k}=>zC6 h hf (k:=k)
 rw [hfx] at hs ⊢
 obtain ⟨A,B,e⟩:=append_of_mem (hall.2 ⟨hk,hs⟩)
 obtain ⟨q,C,D,e1,e2,e3⟩:=h.fw.par A k B e h14
 have hltk:∀ {j},W4 L j<W4 L k↔j∈A:=fun {j}=>by rw [e] at hnd ⊢;exact YS_ hnd
 have eq:L=C++q::(D++k::B):=by rw [e,e2];simp
 have hltq:∀ {j},W4 L j<W4 L q↔j∈C:=fun {j}=>by rw [eq] at hnd ⊢;exact YS_ hnd
 have hqk:W4 L q<W4 L k:=hltk.2 (by rw [e2];simp)
 obtain ⟨_,q',f1,f2,f3,f4,f5,f6⟩:=zBv hs (by rw [e1];omega)
 obtain rfl:q=q':=by omega
 have hbeg:zar t w (W4 L) k=if M1 t (W4 L) (fxO t R w) q (nO t)=0 then none else some (W4 L (M1 t (W4 L) (fxO t R w) q (nO t)-1)):=by
  unfold zar
  rw [hfx,e1,show ((q:Int)+1-1).toNat=q by omega]
 have hqn:=run_lt f5
 refine ⟨by rw [e1];omega,fun p hp=>?_,fun i hi hw hsi hlo hth hbe hlt=>?_⟩
 .rw [hbeg] at hp
  split at hp
  .cases hp
  rename_i hL
  cases hp
  obtain ⟨s1,s2,s3,s4⟩:=(H5 (t:=t) (pos:=W4 L) (f:=fxO t R w) (k:=q) (nO t)).2 hL
  obtain ⟨c1,c2,c3,c4⟩:=N9 (pos:=W4 L) (fun a b _ _ e=>XR_ e) hqn s1 s2
  rcases c4 with c4|⟨c4,c5⟩
  .omega
  have:=h.fw.kept C q (D++k::B) eq _ c5 c4 s3 (.inr (.inl fun hcc=>by omega))
  have:=hltq.2 this
  omega
 have hiA:=hltk.1 hlt
 rw [e2] at hiA
 rcases List.mem_append.1 hiA with hC|hD
 .have hiq:=hltq.2 hC
  have hcan:Vp_ t (W4 L) q i=true:=Je_ (fun e=>by rw [e] at hiq;omega) hw (hlo.trans f6.symm) (.inl (by omega))
  obtain ⟨g1,g2⟩:=H5 (t:=t) (pos:=W4 L) (f:=fxO t R w) (k:=q) (nO t)
  have hL:M1 t (W4 L) (fxO t R w) q (nO t)≠0:=fun e0=>g1 e0 i hi ⟨hcan,hsi⟩
  have h1:=(g2 hL).2.2.2 i hi hcan hsi
  have h2:=hbe _ (by rw [hbeg,if_neg hL])
  omega
 rcases List.mem_cons.1 hD with rfl|hD
 .exact hth f4
 exact hth (e3 i hD hw hlo)
theorem zba (h:Full m t R w L P g) (hf:zU5 t g) (hl:∀ i,(lth t i).length<=8) (ht:TG t) (hb:TB t):Yi_ t w (W4 L)=znv t g:=by
 have hc:=zC7 h hf hl ht hb
 have hfx:=hc.fx ht (Wj_ m)
 have hcs:=hc.cs ht (Wj_ m)
 have hall:=fun {k}=>zC6 h hf (k:=k)
 have hg:Ws_ (csO t w (W4 L))=(List.range t.ths.length).map fun i r=>((B8 t R w i (lth t i).length).1.w.regs r).v:=by
  unfold Ws_
  rw [hcs]
  apply List.ext_getElem?
  intro i
  show ((D5 t R w).regs.map _)[i]?=_
  rw [List.getElem?_map,List.getElem?_map]
  by_cases hi:i<t.ths.length
  .rw [(V9 t R w hi).1,List.getElem?_range hi];rfl
  rw [List.getElem?_eq_none (by rw [(w8 t R w).1];omega),List.getElem?_eq_none (by simp;omega)];rfl
 unfold Yi_ znv
 rw [hg]
 refine WN_ (fun i r hi hr=>?_) fun y hy=>?_
 .rw [<-(zNf h hf hi).1,(h.iv.at_ i hi).rg]
 rw [if_pos hy,h.iv.mm]
 unfold zi1
 rw [hfx]
 exact (zS5 (v:=QD_ t R w) hb hy (Wg_ h.iv.nd) (fun j hj=>(h.iv.inL j hj).1) fun j hj _ _=>by rw [hall];exact ⟨fun h=>h.2,fun h=>⟨hj,h⟩⟩).symm
end
theorem zS8 {m:Bool} {t:Tst} (hT:TTOk t) (ht:TG t) (hb:TB t) {g:Gs} (hr:GRun m t (zRy t) g) (hf:zU5 t g):∃ w pos,OrdE (znx m) t w pos/\w.length=nO t/\(∀ k,w.getD k false=true->(opX t k).op=14)/\Yi_ t w pos=znv t g:=by
 obtain ⟨R,w,L,P,h⟩:=zS7 hT ht hr ⟨_,_,_,_,zNe⟩
 have hl:∀ i,(lth t i).length<=8:=YJ_ hT
 exact ⟨w,W4 L,(zC7 h hf hl ht hb).ordE ht (Wj_ m) fun k hk=>zb9 h hf hl ht hb hk,h.wl,h.w14,zba h hf hl ht hb⟩
section
variable {m:Bool} {t:Tst} {R:List Vl} {w:List Bool} {L:List Nat} {P:Nat->List Nat} {g:Gs} {i k:Nat} {x:Ins} {pos:Nat->Nat}
end
section
variable {m:Bool} {t:Tst} {w:List Bool} {L A B:List Nat} {P:Nat->List Nat} {g:Gs} {i k:Nat} {x:Ins} {pos:Nat->Nat}
end
def gOf (a:Sys):Gs:=⟨a.th,fun _=>0,fun _=>false,a.mm⟩
section
variable {t:Tst}
theorem zS9 {a:Sys} {i:Nat} {l:Int} (hl:0<=l):U6_ (gOf a) i l=fun _=>false:=by
 funext j
 unfold U6_ gOf
 have:¬ (0:Int)=l+1:=by omega
 simp [this]
theorem zNh {x:Ins} {h:Thr} (hm:G4 x.op=false):ZK_ x h=true↔drB x=true/\h.bf≠[]:=by
 unfold ZK_
 rw [hm,Bool.false_or,Bool.and_eq_true]
 cases h.bf<;>simp
theorem zbb (hT:TTOk t) {a b:Sys} (h:AStep t a b):GStep true t (gOf a) (gOf b):=by
 cases h with
 | @ins i x h' m' hi hx ho =>
  have ok:=(hT.thr i _ (V5 hi)).2 _ x hx
  unfold zH0 at ho
  by_cases hm:G4 x.op=true
  .rw [if_pos hm] at ho
   unfold opA at ho
   by_cases h9:x.op=9
   .rw [if_pos h9] at ho;cases ho
    exact GStep.ld (g:=gOf a) hi hx h9
   rw [if_neg h9] at ho
   by_cases h10:x.op=10
   .rw [if_pos h10] at ho;cases ho
    exact GStep.stb (g:=gOf a) rfl hi hx h10
   rw [if_neg h10] at ho
   by_cases h11:x.op=11\/x.op=12
   .rw [if_pos h11] at ho
    by_cases hb:(a.th i).bf=[]
    .rw [if_pos hb] at ho;cases ho
     have:=GStep.sw (m:=true) (g:=gOf a) hi hx h11 hb
     rw [zS9 (ok.loc hm).1] at this
     unfold swV at this
     exact this
    rw [if_neg hb] at ho;cases ho
   rw [if_neg h11] at ho;cases ho
  have hm:G4 x.op=false:=by simpa using hm
  rw [if_neg (by rw [hm];decide)] at ho
  by_cases hs:ZK_ x (a.th i)=true
  .rw [if_pos hs] at ho;cases ho
  rw [if_neg hs] at ho;cases ho
  exact GStep.loc (g:=gOf a) hi hx hm fun hd=>Classical.byContradiction fun hne=>hs ((zNh hm).2 ⟨hd,hne⟩)
 | @dr i p r hi hb=>exact GStep.dr (g:=gOf a) rfl hi hb
theorem zik (hT:TTOk t) {n:Nat} {a b:Sys} (h:ARun t n a b):∀ {c:Gs},GRun true t c (gOf a)->GRun true t c (gOf b):=by
 induction h with
 | nil=>exact id
 | cons s _ ih=>exact fun hr=>ih (.snoc hr (zbb hT s))
theorem zny (hT:TTOk t) (hn:Ui_ t) {a:Sys}:WL_ t a↔zU5 t (gOf a):=by
 constructor
 .intro h i hi
  refine ⟨(h i hi).1,?_⟩
  show (lth t i)[(a.th i).pc]?=none
  cases hx:(lth t i)[(a.th i).pc]? with
  | none=>rfl
  | some x =>
   exfalso
   have hno:=(h i hi).2 x hx
   have hb:=(h i hi).1
   unfold zH0 at hno
   by_cases hm:G4 x.op=true
   .rw [if_pos hm] at hno
    have np:=hn i _ x hx
    unfold opA at hno
    by_cases h9:x.op=9
    .rw [if_pos h9] at hno;cases hno
    rw [if_neg h9] at hno
    by_cases h10:x.op=10
    .rw [if_pos h10] at hno;cases hno
    rw [if_neg h10] at hno
    have h11:x.op=11\/x.op=12:=by
     simp only [G4,rdB,wrB,Bool.or_eq_true,decide_eq_true_eq] at hm;omega
    rw [if_pos h11,if_pos hb] at hno;cases hno
   have hm:G4 x.op=false:=by simpa using hm
   rw [if_neg (by rw [hm];decide),if_neg fun hs=>((zNh hm).1 hs).2 hb] at hno
   cases hno
 intro h i hi
 refine ⟨(h i hi).1,fun x hx=>?_⟩
 have:(lth t i)[(a.th i).pc]?=none:=(h i hi).2
 rw [hx] at this;cases this
end
section
variable {t:Tst} {reads:List Vl} {works:List Bool} {i:Nat}
theorem Bt.step10 {P:Nat->Prop} {x:Ins} {s:Pw} (h:Bt P s.w) (hu:Wu s.w) (hk:J8 x=true->s.k<64) (hp:J8 x=true->x.op≠10->P s.k) {b:Nat}:Bt P (N8 reads works b x s).w:=by
 unfold N8
 split
 .exact ⟨h.hangs,h.path⟩
 split
 .rename_i hm
  have hb:x.op≠10->t7 P (y7 1 (s.k:Nat)):=fun hs q hq=>by
   rw [(S2 (hk hm)).2,decide_eq_true_eq] at hq
   subst hq;exact hp hm hs
  dsimp only
  unfold O1
  split
  .exact h.set _ _ (hb (by omega))
  split
  .have:=h.set x.rd (reads.getD s.k zV) (hb (by omega))
   exact ⟨this.hangs,this.path⟩
  split
  .exact h
  split
  .exact h.set _ _ (hb (by omega))
  split
  .unfold x7
   have h':Bt P { s.w with lr:=0 }:=⟨h.hangs,h.path⟩
   cases hw:works.getD s.k false
   .exact h'.set _ _ P7
   exact h'.set _ _ (hb (by omega))
  exact h
 split
 .exact ⟨h.hangs,YN_ hu.path (M0 (M7 hu _ _) (M7 hu _ _)).1 h.path (YN_ (M7 hu _ _) (M7 hu _ _) (h.arg _ _) (h.arg _ _))⟩
 dsimp only
 unfold H8
 split
 .exact h
 split
 .exact h.set _ _ P7
 exact h.set _ _ (YN_ (M7 hu _ _) (M7 hu _ _) (h.arg _ _) (h.arg _ _))
theorem zF7 (ht:TG t):∀ b,(B8 t reads works i b).2=true->Bt (fun q=>(opX t q).op≠10) (B8 t reads works i b).1.w
 | 0,_=>⟨fun x=>P7,P7⟩
 | b+1,h=>by
  have hp:=W0 h
  have ih:=zF7 ht b hp
  by_cases hb:b<(lth t i).length
  .have hx:=List.getElem?_eq_getElem hb
   rw [E9 hx,if_pos hp]
   refine ih.step10 (s9 ht b hp) (fun hm=>(Vn_ ht hx hp hm).1) fun hm h10=>?_
   rw [(Vn_ ht hx hp hm).2];exact h10
  rw [I0 hb];exact ih
theorem zU6 (ht:TG t) {k q:Nat} (hs:(fxO t reads works k).st=1) (hq:P8 (fxO t reads works k).pl q=true\/P8 (fxO t reads works k).vl q=true):(opX t q).op≠10:=by
 have hk:=run_lt hs
 obtain ⟨h1,ho,h14,e,_⟩:=WY_ hk hs
 have hb:=zF7 (works:=works) ht _ h1
 rw [e] at hq
 rcases hq with hq|hq
 .replace hq:P8 (if (opX t k).op=14/\works.getD k false=false then 0 else if 0<(opX t k).dep then (B8 t reads works (E5 t k) (opAt t k)).1.w.hangs ((opX t k).dep-1).toNat else 0) q=true:=hq
  rw [if_neg h14] at hq
  split at hq
  .exact hb.hangs _ q hq
  rw [s8] at hq;cases hq
 replace hq:P8 (if (ZH_ (B8 t reads works (E5 t k) (opAt t k)).1.w (opX t k) (reads.getD k zV) (works.getD k false)).isSome then n7 (B8 t reads works (E5 t k) (opAt t k)).1.w (opX t k).aR (opX t k).aN else 0) q=true:=hq
 split at hq
 .exact hb.arg _ _ q hq
 rw [s8] at hq;cases hq
end
section
variable {t:Tst} {w:List Bool} {pos:Nat->Nat}
theorem Vw_ {q:Ins->Bool} {k:Nat} (h:(csO t w pos).at_ q k=true):(G9 t w pos k).st=1/\q (opX t k)=true:=by
 unfold Cs.at_ at h
 rw [Bool.and_eq_true] at h
 exact ⟨zBz.1 h.1,h.2⟩
theorem zC8 (ht:TG t) (hn:Ui_ t) (hrel:∀ k,k<nO t->((opX t k).op=10\/(opX t k).op=9)->(opX t k).rel=false) (hacq:∀ k,k<nO t->(opX t k).op=10->(opX t k).acq=false) {a b:Nat} (ho:WF_ (csO t w pos) a b=true) (hl:QC_ (csO t w pos) a b=true):zT0 (csO t w pos) a b=true:=by
 unfold WF_ at ho
 rw [Bool.and_eq_true] at ho
 obtain ⟨ho,hpo⟩:=ho
 obtain ⟨_,hbn,_,ha1,hb1⟩:=Jg_.1 hpo
 have han:=run_lt ha1
 have na:=hn _ _ _ (I5 han).1
 have nb:=hn _ _ _ (I5 hbn).1
 unfold QC_ stB ldB at hl
 rw [Bool.and_eq_true] at hl
 have l1:=(Vw_ hl.1).2
 have l2:=(Vw_ hl.2).2
 simp only [Bool.or_eq_true,decide_eq_true_eq] at l1 l2
 have a10:(opX t a).op=10:=by omega
 have b9:(opX t b).op=9:=by omega
 have nwr:∀ {v:Bool},¬ (v&&(csO t w pos).wr b)=true:=fun {v} h=>by
  rw [Bool.and_eq_true] at h
  have:=(t8.1 h.2).2
  rw [b9] at this;cases this
 have nplc:∀ m,¬ zc2 (csO t w pos) a m=true:=fun m h=>by
  unfold zc2 QB_ at h
  simp only [Bool.and_eq_true] at h
  exact zU6 ht (zBz.1 h.2.2) (.inl h.1.2) a10
 have nvlu:∀ m,¬ zQ3 (csO t w pos) a m=true:=fun m h=>by
  unfold zQ3 QB_ at h
  simp only [Bool.and_eq_true] at h
  exact zU6 ht (zBz.1 h.2.2) (.inr h.1.2) a10
 have acqA:¬ zjr (csO t w pos) a=true:=fun h=>by
  have:=(Vw_ h).2
  rw [hacq a han a10] at this;cases this
 have relA:¬ zgf (csO t w pos) a=true:=fun h=>by
  have:=(Vw_ h).2
  rw [hrel a han (.inl a10)] at this;cases this
 have relBb:¬ zgf (csO t w pos) b=true:=fun h=>by
  have:=(Vw_ h).2
  rw [hrel b hbn (.inr b9)] at this;cases this
 unfold orU at ho
 rw [any_eq_true] at ho
 obtain ⟨r,hr,hab⟩:=ho
 have hr:=mem_of_mem_take hr
 unfold rul at hr
 simp only [mem_cons,not_mem_nil,or_false] at hr
 rcases hr with rfl|rfl|rfl|rfl|rfl|rfl|rfl|rfl|rfl|rfl|rfl|rfl|rfl
 .rw [Bool.and_eq_true] at hab;exact absurd hab.2 nwr
 .unfold zge Q6_ at hab
  simp only [Bool.and_eq_true] at hab
  have:=(zU2.1 hab.1.1.2.1).2
  rw [a10] at this;cases this
 .simp only [Bool.and_eq_true] at hab
  have:=(Vw_ hab.2.1).2
  rw [a10] at this;cases this
 .exact hab
 .simp only [Bool.and_eq_true] at hab;exact absurd hab.2.1 acqA
 .simp only [Bool.and_eq_true] at hab;exact absurd hab.2.2 relBb
 .simp only [Bool.and_eq_true,Bool.or_eq_true] at hab
  rcases hab.2.1 with h|h
  .exact absurd h acqA
  exact absurd h relA
 .unfold zKa at hab
  rw [Bool.and_eq_true,decide_eq_true_eq] at hab
  have e:(G9 t w pos b).pr=(a:Int)+1:=hab.2
  have:=(zBv hb1 (by show (G9 t w pos b).pr≠0;rw [e];omega)).1
  omega
 .exact absurd hab (nplc b)
 .exact absurd hab (nvlu b)
 .rw [Bool.and_eq_true] at hab;exact absurd hab.2 nwr
 .unfold th at hab
  obtain ⟨m,_,h⟩:=G2.1 hab
  simp only [Bool.and_eq_true,Bool.or_eq_true] at h
  rcases h.1.1 with h|h
  .exact absurd h (nplc m)
  exact absurd h (nvlu m)
 dsimp only at hab;rw [Bool.and_eq_true] at hab;exact absurd hab.2 nwr
theorem zNi (hT:TTOk t) (ht:TG t) (hb:TB t) (hn:Ui_ t) (hrel:∀ k,k<nO t->((opX t k).op=10\/(opX t k).op=9)->(opX t k).rel=false) (hacq:∀ k,k<nO t->(opX t k).op=10->(opX t k).acq=false) {e:List Int} (h:e∈I3 t):e∈O7 WF_ t:=by
 obtain ⟨n,b,hr,hf,rfl⟩:=(zQe hT).1 h
 obtain ⟨w,pos,h1,_,h3,h4⟩:=zS8 (m:=true) hT ht hb (zik hT hr (.nil (gOf (W4_ t)))) ((zny hT hn).1 hf)
 refine zii.2 ?_
 have hE:OrdE WF_ t w pos:={
  inj:=h1.inj
  whole:=h1.whole
  kept:=fun a b ha hbn hk=>by
   have hpo:poP (csO t w pos) a b=true:=by
    unfold WF_ at hk
    exact (Bool.and_eq_true_iff.1 hk).2
   refine h1.kept a b ha hbn ?_
   show zRr (csO t w pos) a b=true
   cases hl:QC_ (csO t w pos) a b with
   | false=>exact Vs_ hpo hl
   | true =>
    unfold zRr
    rw [zC8 ht hn hrel hacq hk hl,hl];simp
  par:=h1.par }
 obtain ⟨r,hr,hst⟩:=G1 ht hb (zb1 hb.n16) hE h3
 exact ⟨r,hr,hst.trans h4⟩
end
open Go.Proofs.Tryz
theorem Wk_ (ord:Cs->Rl) (t:Tst):(L5 (O7 ord t)).length=(O7 ord t).length:=s5 (zRv ord t)
theorem w9:(L5 (O7 WF_ (YR_ false))).length=4:=by rw [Wk_,Jm_];rfl
theorem x0:(L5 (O7 WF_ (YR_ true))).length=3:=by rw [Wk_,Jn_];rfl
theorem zF8 (x:Ins):∀ v∈x.cs,v.one=true:=fun v hv=>by
 simp only [Ins.cs,mem_cons,not_mem_nil,or_false] at hv
 rcases hv with rfl|rfl|rfl|rfl|rfl|rfl|rfl|rfl|rfl|rfl|rfl|rfl|rfl<;>rfl
theorem zNj (t:Tst) (h:I7 t=0) (hw:X5_ t) (h6:nO t<=6):Pf Tryz.prog 34 [.rp t.cs 0] (.ro 41 (stR (L5 (O7 WF_ t)))) :=
 zBm t (l7 h hw) (fun ws fr h1 h2 h3 f h4=>zMz (l7 h hw) (zMx h) ws fr h1 h2 h3 f h4) (fun c hc=>zho c hc) (zig (l7 h hw)) (zU4 _ _ h6)
theorem Yj_ (f:Bool):Pf Tryz.prog 85 [bV f] (.agg (YR_ f).cs):=by
 refine Pf.of_fz 3 (.cons (.val _) .nil) (.agg (Yb_ _)) ?_
 refine B7 T_ok func85 rfl rfl ntmps85 rfl (by simp) ?_
 refine rG ?_
 refine rK fun K hK=>?_
 simp [go_sem]
 refine A2 zFr ?_
 simp [go_sem,zGp,zN5]
 apply hK
 refine A3 fun K1 hK1=>?_
 refine rG ?_
 refine cJ (fun h=>?_) fun h=>?_
 .have hf:f=false:=h
  subst hf
  apply A1
  apply hK1
  refine rG ?_
  refine A4 ?_
  first|simp [go_sem,ha,hb,hc,hd,zb6,YR_,zNo,nmX,nmY,Q9_,JA_,zGo,Z1,Wp_,Ini.cs,O3,Y1,B5,Ins.cs,Tst.cs,W0_]|simp [go_sem,zb6,YR_,zNo,nmX,nmY,Q9_,JA_,zGo,Z1,Wp_,Ini.cs,O3,Y1,B5,Ins.cs,Tst.cs,W0_]
 have hf:f=true:=h
 subst hf
 clear h
 obtain ⟨a,ha⟩:∃ a,a=Q9_ 0:=⟨_,rfl⟩
 obtain ⟨b,hb⟩:∃ b,b=Q9_ 1:=⟨_,rfl⟩
 obtain ⟨c,hc⟩:∃ c,c=JA_ 1:=⟨_,rfl⟩
 obtain ⟨d,hd⟩:∃ d,d=({ JA_ 0 with rd:=1 }:Ins):=⟨_,rfl⟩
 have e0:∀ h,(YR_ false).ths[0]'h=[a,b]:=fun _=>by rw [ha,hb];rfl
 have e1:∀ h,(YR_ false).ths[1]'h=[c,d]:=fun _=>by rw [hc,hd];rfl
 have g0:(YR_ false).ths[0]?=some [a,b]:=by rw [ha,hb];rfl
 have g1:(YR_ false).ths[1]?=some [c,d]:=by rw [hc,hd];rfl
 have gl:(YR_ false).ths.length=2:=rfl
 refine Y9 T_ok (by kernel_rfl) 28 [[],[0],[0,1],[0,1,2],[0,1,2,3],[0,1,2,3,4],[],[],[7],[7,8],[7,8,9],[7,8,9,10],[7,8,9,10,11],[0,1,2,3,4,5,6,7,8,9,10,11,12],[],[14],[14,15],[14,15,16],[14,15,16,17],[14,15,16,17,18],[],[],[21],[21,22],[21,22,23],[21,22,23,24],[21,22,23,24,25],[14,15,16,17,18,19,20,21,22,23,24,25,26],[0,1,2,3,4,5,6,7,8,9,10,11,12,13,14,15,16,17,18,19,20,21,22,23,24,25,26,27],[0,1,2,3,4,5,6,7,8,9,10,11,12,13,14,15,16,17,18,19,20,21,22,23,24,25,26,27,28],[0,1,2,3,4,5,6,7,8,9,10,11,12,13,14,15,16,17,18,19,20,21,22,23,24,25,26,27,28,29]] [(13,14),(13,15),(13,16),(13,17),(13,18),(13,19),(13,20),(13,21),(13,22),(13,23),(13,24),(13,25),(13,26),(0,27),(1,27),(2,27),(3,27),(4,27),(5,27),(6,27),(7,27),(8,27),(9,27),(10,27),(11,27),(12,27),(13,27)] (by decide) (by decide) (by decide) fun K hK=>?_
 first|dsimp only [List.take,List.drop]|dsimp [List.take,List.drop]
 simp [go_sem,e0,e1,g0,g1,gl,B5,Y1,zIj,zCy]
 refine ⟨⟨zF8 a,zF8 b⟩,⟨zF8 c,zF8 d⟩,?_⟩
 apply hK
 apply hK1
 refine rG ?_
 refine A4 ?_
 first|simp [go_sem,ha,hb,hc,hd,zb6,YR_,zNo,nmX,nmY,Q9_,JA_,zGo,Z1,Wp_,Ini.cs,O3,Y1,B5,Ins.cs,Tst.cs,W0_]|simp [go_sem,zb6,YR_,zNo,nmX,nmY,Q9_,JA_,zGo,Z1,Wp_,Ini.cs,O3,Y1,B5,Ins.cs,Tst.cs,W0_]
theorem Vx_ :Pf Tryz.prog 67 [.ro 1 [uV 1,uV 0,uV 1,uV 1]] (.agg (stK (zH3 1 0))):=by
 refine Pf.of_fn (.cons (.ro (fun v hv=>by simp only [mem_cons,not_mem_nil,or_false] at hv;rcases hv with rfl|rfl|rfl|rfl<;>exact .cons (.val _) .nil)) .nil) (.agg (VT_ _)) ?_
 refine B7 T_ok func67 rfl rfl ntmps67 rfl (by simp) ?_
 refine rG ?_
 refine rG ?_
 refine rG ?_
 refine rG ?_
 refine A4 ?_
 simp [go_sem]
 rfl
theorem Wl_ :Pf Tryz.prog 33 [] (bV true):=by
 refine Pf.of_fn .nil (.val _) ?_
 refine B7 T_ok func33 rfl rfl ntmps33 rfl (by simp) ?_
 refine rG ?_
 refine rK fun K hK=>?_
 simp [go_sem]
 refine A2 (Yj_ false) ?_
 simp [go_sem]
 refine A2 (Yj_ true) ?_
 simp [go_sem,zN5]
 apply hK
 refine Tr.weaken (Weaker.fz (t':=[(1,.rp (YR_ false).cs 0),(2,.rp (YR_ true).cs 0)]) (H':=[]) 1 0 (by simp [go_sem,zN5]) (by simp) (by simp)) ?_
 refine rK fun K hK=>?_
 simp [go_sem]
 refine A2 (zNj (YR_ false) (XQ_ _) (zF4 _) (zih _)) ?_
 simp [go_sem]
 refine A2 (zNj (YR_ true) (XQ_ _) (zF4 _) (zih _)) ?_
 simp [go_sem]
 apply hK
 refine rK fun K hK=>?_
 simp [go_sem,w9,x0]
 refine u7 Vx_ (u6 (X2 _)) 2 (by simp [go_sem]) ?_
 simp [go_sem,w9,x0]
 refine A2 (JN_ _ (U4_ (l7 (XQ_ false) (zF4 false))) (J2 _) (by rw [w9];decide) (zH3 1 0) rfl) ?_
 simp [go_sem,w9,x0,U5_]
 refine u7 Vx_ (u6 (X2 _)) 2 (by simp [go_sem]) ?_
 simp [go_sem,w9,x0,U5_]
 refine A2 (JN_ _ (U4_ (l7 (XQ_ true) (zF4 true))) (J2 _) (by rw [x0];decide) (zH3 1 0) rfl) ?_
 simp [go_sem,w9,x0,U5_,zRw]
 apply hK
 refine A4 ?_
 simp [go_sem]
theorem zbc (T:Tst) (n:Int):Yf_ T n=0\/(Yf_ T n=1/\I7 T=0/\(nO T:Int)<=n/\(c9 T:Int)<=n/\R4 T.ths=true)\/(Yf_ T n=1/\I7 T=0/\(nO T:Int)<=n/\(c9 T:Int)<=n/\R4 T.ths=false):=by
 unfold Yf_
 by_cases h:I7 T=0
 .rw [zid]
  by_cases h2:n<(c9 T:Int)
  .simp [h,h2]
  cases R4 T.ths
  .refine .inr (.inr ⟨by simp [h,h2],h,by omega,by omega,rfl⟩)
  refine .inr (.inl ⟨by simp [h,h2],h,by omega,by omega,rfl⟩)
 simp [h]
def zbd (x:Ins):Bool:=decide (x.op=10)&&x.rel
theorem zSa {t:Tst} (h:I7 t=0) (hf:t.ths.any (fun x=>x.any zbd)=false) {k:Nat} (hk:k<nO t):(((opX t k).op=10\/(opX t k).op=9)->(opX t k).rel=false)/\((opX t k).op=10->(opX t k).acq=false):=by
 obtain ⟨l,hl,hx,_⟩:=zie hk
 obtain ⟨_,_,_,_,_,e6⟩:=XP_ h hl hx
 rw [any_eq_false] at hf
 have h1:=hf l hl
 rw [Bool.not_eq_true,any_eq_false] at h1
 have h2:=h1 _ hx
 unfold zbd at h2
 unfold zIm rdB wrB at e6
 refine ⟨fun h=>?_,fun h=>?_⟩
 .rcases h with h|h
  .simpa [h] using h2
  simp [h] at e6;exact e6
 simp [h] at e6;exact e6
theorem zC9 (t:Tst) (hs:∀ l∈t.locs,l.name.size<=9223372036854775807) (hwf:X5_ t):Pf Tryz.prog 8 [.agg t.cs] (bV true):=by
 refine Pf.of_fn (.cons (.agg (Yb_ t)) .nil) (.val _) ?_
 have hnm:∀ l∈(few t).locs,l.name.size<=1000000:=zZa
 have hfew:=zfi t hs
 have hwT:=zg3 hwf
 obtain ⟨T,hT⟩:∃ T,few t=T:=⟨_,rfl⟩
 rw [hT] at hnm hfew hwT
 have hcl:T.cs.length=3:=rfl
 have hct:List.take 3 T.cs=T.cs:=rfl
 refine B7 T_ok func8 rfl rfl ntmps8 rfl (by simp) ?_
 refine rG ?_ fun K h=>by simp [go_sem,Tst.cs];exact h
 refine rK fun K hK=>?_
 simp [go_sem,Tst.cs]
 refine A2 (hfew) ?_
 simp [go_sem,Tst.cs]
 apply hK
 refine A3 fun K1 hK1=>?_
 refine Tr.weaken (Weaker.fz (H':=[]) (t':=[(1,.rp T.cs 0)]) 1 0 ?_ ?_ ?_) ?_
 .simp [go_sem,Tst.cs]
 .simp
 .simp
 refine rK fun K hK=>?_
 simp [go_sem]
 refine A2 (Wl_) ?_
 simp [go_sem,hcl,hct]
 refine A2 (zQu T hnm 5) ?_
 simp [go_sem]
 rcases zbc T 5 with hz|⟨hz,hc,hm,hmt,hp⟩|⟨hz,hc,hm,hmt,hp⟩
 .simp [go_sem,hz]
  apply hK
  refine cJ (fun h=>?_) fun h=>?_
  .simp at h
  clear h
  refine rK fun K hK=>?_
  simp [go_sem]
  refine A2 (Wl_) ?_
  simp [go_sem]
  apply hK
  refine A4 ?_
  simp [go_sem]
 .simp [go_sem,hz]
  refine A2 (ZD_ T (by have:=(WK_ hc hwT).ths;omega) (Ul_ (WK_ hc hwT))) ?_
  simp [go_sem,hp,hz]
  apply hK
  refine cJ (fun h=>?_) fun h=>?_
  .simp at h
  clear h
  refine rK fun K hK=>?_
  simp [go_sem]
  refine A2 (Wl_) ?_
  simp [go_sem]
  apply hK
  refine A4 ?_
  simp [go_sem]
 simp [go_sem,hz]
 refine A2 (ZD_ T (by have:=(WK_ hc hwT).ths;omega) (Ul_ (WK_ hc hwT))) ?_
 simp [go_sem,hp,hz]
 apply hK
 refine cK (fun h=>?_) fun h=>?_
 .simp at h
 clear h
 have hTT:=WK_ hc hwT
 have ht4:=hTT.ths
 apply A1
 apply hK1
 refine A3 fun K2 hK2=>?_
 refine rG ?_ fun K h=>by simp [go_sem,Tst.cs];exact h
 apply A0
 refine A9 (α:=Nat × Nat) (fun a=>⟨58,[(1,.rp T.cs 0),(23,.ro 1 (O3 T.ths)),(24,iV (T.ths.length:Nat)),(25,iV (a.1:Nat))],[],a.2⟩) (fun a=>a.1<=T.ths.length/\(T.ths.take a.1).any (fun x=>x.any zbd)=false) (fun a=>T.ths.length-a.1) (0,1) ?_ ?_ ?_
 .exact ⟨by dsimp only;omega,rfl⟩
 .refine Weaker.fw 1 0 ?_ ?_
  .simp [go_sem,Tst.cs]
  simp [go_sem]
 rintro ⟨i,j⟩ ⟨hi,hf⟩
 dsimp only at hi hf ⊢
 refine rG ?_
 refine A3 fun K3 hK3=>?_
 refine cJ (fun h=>?_) fun h=>?_
 .simp at h
  obtain rfl:i=T.ths.length:=by omega
  clear h
  rw [take_length] at hf
  have hwr:=fun k hk=>zSa hc hf (k:=k) hk
  have hsea:=l7 hc hwT
  have htg:=zMx hc
  have htb:=zb3 hc hwT
  have hrf:=fun ord=>zU4 ord T (by omega:nO T<=6)
  have hfe:=zQa hTT (by omega)
  have hsubp:=zZb fun e he=>zNi hTT htg htb (zGb hp) (fun k hk=>(hwr k hk).1) (fun k hk=>(hwr k hk).2) (e:=e) he
  apply A6
  apply hK2
  refine rK fun K hK=>?_
  simp [go_sem]
  refine A2 (zL6 T hTT hp hfe) ?_
  simp [go_sem]
  apply hK
  refine rK fun K hK=>?_
  simp [go_sem]
  refine A2 (Wl_) ?_
  simp [go_sem]
  refine A2 (zNj T hc hwT (by omega)) ?_
  simp [go_sem]
  refine A2 (zL2 _ (znm hTT) (by rw [zh7 hTT];exact hfe) _ (U4_ hsea) (J2 _) (by rw [Wk_];exact hrf WF_)) ?_
  simp [go_sem,hsubp]
  apply hK
  refine A4 ?_
  simp [go_sem]
 simp at h
 have hI:=h
 clear h
 have h':i<(T.ths).length:=by omega
 obtain ⟨l,hx,hx'⟩:=E0 h'
 have hi0:(0:Int)<=(i:Nat):=by omega
 have hw:=wI i
 have hll:=(hTT.thr i l hx).1
 apply A1
 apply hK3
 refine A3 fun K4 hK4=>?_
 apply A0
 refine rG ?_ fun K h=>by simp [go_sem,hI,hx,hx',hi0,h'];exact h
 refine rG ?_
 apply A0
 refine A9 (α:=Nat × Nat) (fun b=>⟨58,[(1,.rp T.cs 0),(23,.ro 1 (O3 T.ths)),(24,iV (T.ths.length:Nat)),(25,iV (i:Nat)),(29,.ro 13 (Y1 l)),(30,iV (l.length:Nat)),(31,iV (b.1:Nat))],[],b.2⟩) (fun b=>b.1<=l.length/\(l.take b.1).any zbd=false) (fun b=>l.length-b.1) (0,j) ?_ ?_ ?_
 .exact ⟨by dsimp only;omega,rfl⟩
 .refine Weaker.fw 1 0 ?_ ?_<;>simp [go_sem]
 rintro ⟨b,c⟩ ⟨hib,hfb⟩
 dsimp only at hib hfb ⊢
 refine rG ?_
 refine A3 fun K5 hK5=>?_
 refine cJ (fun h=>?_) fun h=>?_
 .simp at h
  obtain rfl:b=l.length:=by omega
  rw [take_length] at hfb
  apply A6
  apply hK4
  refine rF ?_ fun K h=>by simp [go_sem,hw];exact h
  refine ⟨(i+1,c),?_,?_,?_⟩
  .exact ⟨by dsimp only;omega,Y6_ hx hf hfb⟩
  .dsimp only;omega
  refine Weaker.fw 1 0 ?_ ?_<;>simp [go_sem]
 simp at h
 have hIb:=h
 clear h
 have h'b:b<(l).length:=by omega
 obtain ⟨x,hxb,hx'b⟩:=E0 h'b
 have hi0b:(0:Int)<=(b:Nat):=by omega
 have hwb:=wI b
 apply A1
 apply hK5
 refine A3 fun K6 hK6=>?_
 apply A0
 refine rG ?_ fun K h=>by simp [go_sem,hIb,hxb,hx'b,hi0b,h'b,B5];exact h
 refine D8 T_ok (by decide) ⟨58,[(1,.rp T.cs 0),(23,.ro 1 (O3 T.ths)),(24,iV (T.ths.length:Nat)),(25,iV (i:Nat)),(29,.ro 13 (Y1 l)),(30,iV (l.length:Nat)),(31,iV (b:Nat)),(41,bV (zbd x))],[],c+1⟩ ?_ ?_
 .by_cases c1:x.op=10
  .simp [go_sem,c1]
   refine Weaker.fw 1 0 ?_ ?_<;>simp [go_sem,c1,zbd]
  simp [go_sem,c1]
  refine Weaker.fw 1 0 ?_ ?_<;>simp [go_sem,c1,zbd]
 skip
 refine cK (fun h=>?_) fun h=>?_
 .have hp2:=h
  refine rK fun K hK=>?_
  simp [go_sem]
  refine A2 (Wl_) ?_
  simp [go_sem]
  apply hK
  refine A4 ?_
  simp [go_sem]
 have hp2:=h
 apply A1
 apply hK6
 refine rF ?_ fun K h=>by simp [go_sem,hwb];exact h
 refine ⟨(b+1,c+1),?_,?_,?_⟩
 .exact ⟨by dsimp only;omega,Y6_ hxb hfb hp2⟩
 .dsimp only;omega
 refine Weaker.fw 1 0 ?_ ?_<;>simp [go_sem]
end Go.Proofs.YtmpbalepefpllaaGreat
