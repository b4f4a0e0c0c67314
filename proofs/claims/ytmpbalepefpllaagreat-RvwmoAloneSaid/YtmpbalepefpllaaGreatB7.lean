/- Texts put together, in order: Grvwa, Grvwb, Grvwd, Grvwc, Gppoc, Gppod, Gppoe, W23, Grvwe, Grvwf. -/
import Derived.Test.YtmpbalepefpllaaGreatB6
open List
set_option maxRecDepth 100000
set_option maxHeartbeats 16000000
set_option linter.unusedVariables false
set_option linter.unusedSimpArgs false
namespace Go.Proofs.YtmpbalepefpllaaGreat
open Go Go.Sl Go.Proofs.Tryz
theorem zWw (l:List Int) (n:Int):iVs l++[iV n]=iVs (l++[n]):=by simp [iVs]
theorem zR1:iVs [-1]=[iV (-1)]:=rfl
theorem YC_ (t:Tst) (k m:Nat):zCs t k m=(!decide ((m:Int)=(k:Nat))&&(wrB (opX t m).op&&(decide ((opX t m).loc=(opX t k).loc)&&(!decide (((opQ t m).1:Int)=((opQ t k).1:Nat))||decide ((m:Int)<(k:Nat)))))):=by
 unfold zCs G5 opQ
 have e1:decide (m=k)=decide ((m:Int)=(k:Nat)):=by rw [Bool.eq_iff_iff,decide_eq_true_eq,decide_eq_true_eq];omega
 have e2:decide (m<k)=decide ((m:Int)<(k:Nat)):=by rw [Bool.eq_iff_iff,decide_eq_true_eq,decide_eq_true_eq];omega
 have e3:decide (((M5 0 t.ths).getD m (0,0)).1=((M5 0 t.ths).getD k (0,0)).1)=decide ((((M5 0 t.ths).getD m (0,0)).1:Int)=(((M5 0 t.ths).getD k (0,0)).1:Nat)):=by rw [Bool.eq_iff_iff,decide_eq_true_eq,decide_eq_true_eq];omega
 rw [e1,e2,e3]
def knU (t:Tst) (f:Fl) (fr:List Int) (i q:Nat):Vl:=if q<i then knV t f fr q else zV
theorem zWx (t:Tst) (f:Fl) (fr:List Int):vls (tab (nO t) (knU t f fr 0))=List.replicate (nO t) (.agg [bV false,uV 0]):=by
 rw [Xm_]
 congr 1
 apply List.ext_getElem?
 intro i
 by_cases h:i<nO t
 .rw [W5_ h,List.getElem?_replicate,if_pos h];rfl
 rw [List.getElem?_eq_none (by rw [R6];omega),List.getElem?_eq_none (by simp;omega)]
theorem zR2 {t:Tst} {f:Fl} {fr:List Int} {i:Nat} {a:Bool} {b:Int} (h:knV t f fr i=⟨a,b⟩):vls ((tab (nO t) (knU t f fr i)).set i ⟨a,b⟩)=vls (tab (nO t) (knU t f fr (i+1))):=by
 rw [zI3]
 congr 2
 funext q
 unfold knU
 by_cases e:q=i
 .subst e;rw [if_pos rfl,if_pos (by omega),h]
 rw [if_neg e]
 by_cases e2:q<i
 .rw [if_pos e2,if_pos (by omega)]
 rw [if_neg e2,if_neg (by omega)]
theorem zJs {t:Tst} {f:Fl} {fr:List Int} {i:Nat} (h:knV t f fr i=zV):vls (tab (nO t) (knU t f fr i))=vls (tab (nO t) (knU t f fr (i+1))):=by
 congr 2
 funext q
 unfold knU
 by_cases e:q=i
 .subst e;rw [if_neg (by omega),if_pos (by omega),h]
 by_cases e2:q<i
 .rw [if_pos e2,if_pos (by omega)]
 rw [if_neg e2,if_neg (by omega)]
theorem zdx {t:Tst} {f:Fl} {fr:List Int}:tab (nO t) (knU t f fr (nO t))=knT t f fr:=zV9 fun q hq=>by unfold knU;rw [if_pos hq]
theorem zR3 (t:Tst) (f:Fl) (fr:List Int):(knT t f fr).length=nO t:=R6 ..
theorem zWy (t:Tst) (f:Fl) (fr:List Int):(knT t f fr).take (nO t)=knT t f fr:=take_of_length_le (by rw [zR3];omega)
theorem L2 (t:Tst) (hS:SeaOk t) (of:FuncId) (ws:List Bool) (fr:List Int) (vf:Value) (k:Nat) (hk:k<nO t):Pf Tryz.prog 145 [.rp (E7 t (fnV of) ws fr (.val vf)) 0,iV k] (B6 (opX t k)):=by
 refine Pf.of_fn (.cons (VH_ t ws fr vf 0) (.cons (.val _) .nil)) (m9 _) ?_
 obtain ⟨l,⟨o1,o2⟩,⟨a1,a2,a3⟩,⟨b1,b2,b3⟩⟩:=zjw hk
 have g97:((opQ t k).1:Int)<(t.ths.length:Nat)/\((opQ t k).2:Int)<(l.length:Nat)/\(0:Int)<=((opQ t k).1:Nat)/\(0:Int)<=((opQ t k).2:Nat)/\(0:Int)<=(k:Nat):=by and_intros<;>omega
 have hcn:(M5 0 t.ths).length=nO t:=rfl
 have kI:(k:Int)<(nO t:Nat):=by omega
 have kN:k<nO t:=hk
 have o3:(d0 (M5 0 t.ths))[k]?=some (.agg [iV ((opQ t k).1:Nat),iV ((opQ t k).2:Nat)]):=by rw [O0,o1];rfl
 refine B7 T_ok func145 rfl rfl ntmps145 rfl (by simp) ?_
 refine rG ?_
 refine dK 25 [[],[0],[0,1],[0,1,2],[0,1,2,3],[0,1,2,3,4],[0,1,2,3,4,5],[],[7],[7,8],[7,8,9],[],[7,8,9,10,11],[7,8,9,10,11,12],[7,8,9,10,11,12,13],[0,1,2,3,4,5,6,7,8,9,10,11,12,13,14],[0,1,2,3,4,5,6,7,8,9,10,11,12,13,14,15],[],[17],[17,18],[17,18,19],[],[17,18,19,20,21],[17,18,19,20,21,22],[17,18,19,20,21,22,23],[0,1,2,3,4,5,6,7,8,9,10,11,12,13,14,15,16,17,18,19,20,21,22,23,24],[0,1,2,3,4,5,6,7,8,9,10,11,12,13,14,15,16,17,18,19,20,21,22,23,24,25],[0,1,2,3,4,5,6,7,8,9,10,11,12,13,14,15,16,17,18,19,20,21,22,23,24,25,26]] fun K hK=>?_
 first|dsimp only [List.take,List.drop]|dsimp [List.take,List.drop]
 simp [go_sem,E7,Tst.cs,B6,o1,o2,o3,a1,a2,a3,b1,b2,b3,g97,kI,kN,hcn]
 apply hK
 refine A4 ?_
 simp [go_sem]
 rfl
theorem zF8 (t:Tst) (hS:SeaOk t) (of:FuncId) (ws:List Bool) (fr:List Int) (vf:Value) (k:Nat) (hk:k<nO t):PfF Tryz.prog 178 [.rp (E7 t (fnV of) ws fr (.val vf)) 0,iV k] (.ro 1 (iVs (YU_ t k))):=by
 refine PfF.of_fn 1 (.cons (VH_ t ws fr vf 0) (.cons (.val _) .nil)) (QN_ _) ?_
 have hn8:=hS.n8
 have hsl:=zCy t k
 obtain ⟨l,⟨o1,o2⟩,⟨a1,a2,a3⟩,⟨b1,b2,b3⟩⟩:=zjw hk
 have g98:((opQ t k).1:Int)<(t.ths.length:Nat)/\((opQ t k).2:Int)<(l.length:Nat)/\(0:Int)<=((opQ t k).1:Nat)/\(0:Int)<=((opQ t k).2:Nat)/\(0:Int)<=(k:Nat):=by and_intros<;>omega
 have hcn:(M5 0 t.ths).length=nO t:=rfl
 have kI:(k:Int)<(nO t:Nat):=by omega
 have kN:k<nO t:=hk
 have o3:(d0 (M5 0 t.ths))[k]?=some (.agg [iV ((opQ t k).1:Nat),iV ((opQ t k).2:Nat)]):=by rw [O0,o1];rfl
 refine B7 T_ok func178 rfl rfl ntmps178 rfl (by simp) ?_
 refine rG ?_
 refine rG ?_
 refine rK fun K hK=>?_
 simp [go_sem]
 refine A2 (L2 t hS of ws fr vf k hk) ?_
 simp [go_sem,B6]
 apply hK
 refine A3 fun K1 hK1=>?_
 refine rK fun K hK=>?_
 simp [go_sem]
 refine A2 (n6 _) ?_
 simp [go_sem]
 apply hK
 refine cK (fun h=>?_) fun h=>?_
 .have hr:rdB (opX t k).op=false:=by simpa using h
  refine rG ?_
  refine A4 ?_
  simp [go_sem,YU_,hr,zR1]
 have hr:rdB (opX t k).op=true:=by simpa using h
 apply A1
 apply hK1
 refine A3 fun K2 hK2=>?_
 refine rG ?_ fun K h=>by simp [go_sem,E7,hcn];exact h
 apply A0
 refine A9 (α:=Nat × Nat × Nat) (fun a=>⟨77,[(0,.rp (E7 t (fnV of) ws fr (.val vf)) 0),(1,iV (k:Nat)),(6,.ptr 1 0 0),(23,iV (nO t:Nat)),(5,.sl a.2.2 0 (JO_ t k a.1).length),(24,iV (a.1:Nat))],[(a.2.2,.rows 1 (iVs (JO_ t k a.1))),(1,.rows 13 [.agg (opX t k).cs])],a.2.1⟩) (fun a=>a.1<=nO t/\a.2.2<a.2.1/\a.2.2≠1/\1<a.2.1) (fun a=>nO t-a.1) (0,3,0) ?_ ?_ ?_
 .exact ⟨Nat.zero_le _,by dsimp only;omega,by dsimp only;omega,by dsimp only;omega⟩
 .refine Weaker.fy 1 0 ?_ ?_
  .simp [go_sem,E7,Tst.cs,JO_]
  simp [go_sem,JO_,zR1]
 rintro ⟨m,j,g⟩ ⟨hm,hg1,hg2,hj1⟩
 dsimp only at hm hg1 hg2 hj1 ⊢
 have g99:¬ g=1/\¬ 1=g/\¬ g=j/\¬ j=g/\¬ g=j+16/\¬ j+16=g/\¬ g=j+16+1/\¬ j+16+1=g/\¬ g=j+16+1+1/\¬ j+16+1+1=g/\¬ 1=j+16/\¬ j+16=1/\¬ 1=j+16+1/\¬ j+16+1=1/\¬ 1=j+16+1+1/\¬ j+16+1+1=1:=by and_intros<;>omega
 refine rG ?_
 refine A3 fun K3 hK3=>?_
 refine cJ (fun h=>?_) fun h=>?_
 .simp at h
  obtain rfl:m=nO t:=by omega
  clear h
  apply A6
  apply hK2
  refine rG ?_
  refine A4 ?_
  simp [go_sem,YU_,hr,g99]
 simp at h
 have hmn:m<nO t:=by omega
 clear h
 have hw:=wI m
 obtain ⟨lq,⟨o1q,o2q⟩,⟨a1q,a2q,a3q⟩,⟨b1q,b2q,b3q⟩⟩:=zjw hmn
 have g100:((opQ t m).1:Int)<(t.ths.length:Nat)/\((opQ t m).2:Int)<(lq.length:Nat)/\(0:Int)<=((opQ t m).1:Nat)/\(0:Int)<=((opQ t m).2:Nat)/\(0:Int)<=(m:Nat):=by and_intros<;>omega
 have hcnq:(M5 0 t.ths).length=nO t:=rfl
 have kIq:(m:Int)<(nO t:Nat):=by omega
 have kNq:m<nO t:=hmn
 have o3q:(d0 (M5 0 t.ths))[m]?=some (.agg [iV ((opQ t m).1:Nat),iV ((opQ t m).2:Nat)]):=by rw [O0,o1q];rfl
 have hsl2:=hsl m
 apply A1
 apply hK3
 refine A3 fun K4 hK4=>?_
 apply A0
 refine rG ?_
 refine dK 16 [[],[0],[0,1],[0,1,2],[],[0,1,2,3,4],[0,1,2,3,4,5],[0,1,2,3,4,5,6],[],[8],[8,9],[8,9,10],[],[8,9,10,11,12],[8,9,10,11,12,13],[8,9,10,11,12,13,14],[0,1,2,3,4,5,6,7,8,9,10,11,12,13,14,15],[0,1,2,3,4,5,6,7,8,9,10,11,12,13,14,15,16]] fun K hK=>?_
 first|dsimp only [List.take,List.drop]|dsimp [List.take,List.drop]
 simp [go_sem,E7,Tst.cs,o1,o2,o3,a1,a2,a3,b1,b2,b3,g98,kI,kN,hcn,o1q,o2q,o3q,a1q,a2q,a3q,b1q,b2q,b3q,g100,kIq,kNq,hcnq,g99]
 apply hK
 refine rK fun K hK=>?_
 simp [go_sem,g99]
 refine A2 (L2 t hS of ws fr vf m hmn) ?_
 simp [go_sem,B6,g99]
 apply hK
 refine D8 T_ok (by decide) ⟨77,[(0,.rp (E7 t (fnV of) ws fr (.val vf)) 0),(1,iV (k:Nat)),(6,.ptr 1 0 0),(23,iV (nO t:Nat)),(5,.sl g 0 (JO_ t k m).length),(24,iV (m:Nat)),(7,iV (m:Nat)),(70,bV (zCs t k m))],[(g,.rows 1 (iVs (JO_ t k m))),(1,.rows 13 [.agg (opX t k).cs])],j+16+1⟩ ?_ ?_
 .by_cases c1:(m:Int)=(k:Nat)
  .simp [go_sem,c1,g99,B6]
   refine Weaker.fw 1 0 ?_ ?_<;>simp [go_sem,c1,YC_,E7,Tst.cs,B6,g99]
  by_cases c2:wrB (opX t m).op=true
  .by_cases c3:(opX t m).loc=(opX t k).loc
   .by_cases c4:((opQ t m).1:Int)=((opQ t k).1:Nat)
    .by_cases c5:(m:Int)<(k:Nat)
     .simp [go_sem,c1,c2,c3,c4,c5,g99,B6]
      refine A2 (n6 _) ?_
      simp [go_sem,c1,c2,c3,c4,c5,g99,B6]
      refine Weaker.fw 1 0 ?_ ?_<;>simp [go_sem,c1,c2,c3,c4,c5,YC_,E7,Tst.cs,B6,g99]
     simp [go_sem,c1,c2,c3,c4,c5,g99,B6]
     refine A2 (n6 _) ?_
     simp [go_sem,c1,c2,c3,c4,c5,g99,B6]
     refine Weaker.fw 1 0 ?_ ?_<;>simp [go_sem,c1,c2,c3,c4,c5,YC_,E7,Tst.cs,B6,g99]
    simp [go_sem,c1,c2,c3,c4,g99,B6]
    refine A2 (n6 _) ?_
    simp [go_sem,c1,c2,c3,c4,g99,B6]
    refine Weaker.fw 1 0 ?_ ?_<;>simp [go_sem,c1,c2,c3,c4,YC_,E7,Tst.cs,B6,g99]
   simp [go_sem,c1,c2,c3,g99,B6]
   refine A2 (n6 _) ?_
   simp [go_sem,c1,c2,c3,g99,B6]
   refine Weaker.fw 1 0 ?_ ?_<;>simp [go_sem,c1,c2,c3,YC_,E7,Tst.cs,B6,g99]
  simp [go_sem,c1,c2,g99,B6]
  refine A2 (n6 _) ?_
  simp [go_sem,c1,c2,g99,B6]
  refine Weaker.fw 1 0 ?_ ?_<;>simp [go_sem,c1,c2,YC_,E7,Tst.cs,B6,g99]
 skip
 refine cJ (fun h=>?_) fun h=>?_
 .have hsB:zCs t k m=false:=by simpa using h
  apply A1
  apply hK4
  refine rF ?_ fun K h=>by simp [go_sem,hw];exact h
  refine ⟨(m+1,j+16+8,g),?_,?_,?_⟩
  .exact ⟨by dsimp only;omega,by dsimp only;omega,by dsimp only;omega,by dsimp only;omega⟩
  .dsimp only;omega
  refine Weaker.fy 1 0 ?_ ?_<;>simp [go_sem,X8_,hsB,E7,Tst.cs,g99]
 have hsB:zCs t k m=true:=h
 refine rE fun K hK=>?_
 simp [go_sem,g99,E7]
 refine ⟨by omega,?_⟩
 apply hK
 apply hK4
 refine rF ?_ fun K h=>by simp [go_sem,hw];exact h
 refine ⟨(m+1,j+16+8,j+16+1+1),?_,?_,?_⟩
 .exact ⟨by dsimp only;omega,by dsimp only;omega,by dsimp only;omega,by dsimp only;omega⟩
 .dsimp only;omega
 refine Weaker.fy 1 0 ?_ ?_
 .simp [go_sem,X8_,hsB,E7,Tst.cs,g99]
 simp [go_sem,X8_,hsB,E7,Tst.cs,zWw,g99]
theorem zP5 (t:Tst) (hS:SeaOk t) (of:FuncId) (ws:List Bool) (fr:List Int) (vf:Value) (f:Os') (hf:FlOk (nO t) f.f) (hfl:fr.length=nO t) (hfr:∀ (k:Nat) (x:Int),fr[k]?=some x->-1<=x/\x<nO t):PfF Tryz.prog 221 [.rp (E7 t (fnV of) ws fr (.val vf)) 0,.rp f.cs 0] (.ro 2 (vls (knT t f.f fr))):=by
 refine PfF.of_fn 1 (.cons (VH_ t ws fr vf 0) (.cons (Vu_ f) .nil)) (zHs _) ?_
 have hn8:=hS.n8
 have hcn:(M5 0 t.ths).length=nO t:=rfl
 have hm0:(0:Int)<=(nO t:Nat):=by omega
 have g101:(8:Int)*(nO t:Nat)<=281474976710656/\(16:Int)*(nO t:Nat)<=281474976710656/\((nO t:Nat):Int)<=9223372036854775807:=by and_intros<;>omega
 have hfs:=hf.l1
 have hfw:=hf.l2
 have hl8:=hS.locs
 refine B7 T_ok func221 rfl rfl ntmps221 rfl (by simp) ?_
 refine rG ?_
 refine rG ?_ fun K h=>by simp [go_sem,E7,hcn,hm0,g101];exact h
 refine A3 fun K1 hK1=>?_
 refine rG ?_ fun K h=>by simp [go_sem,E7];exact h
 apply A0
 refine A9 (α:=Nat × Nat) (fun a=>⟨73,[(0,.rp (E7 t (fnV of) ws fr (.val vf)) 0),(1,.rp f.cs 0),(5,.sl 0 0 (nO t)),(18,.ro 1 (iVs fr)),(19,iV (nO t:Nat)),(20,iV (a.1:Nat))],[(0,.rows 2 (vls (tab (nO t) (knU t f.f fr a.1))))],a.2⟩) (fun a=>a.1<=nO t/\0<a.2) (fun a=>nO t-a.1) (0,1) ?_ ?_ ?_
 .exact ⟨Nat.zero_le _,by dsimp only;omega⟩
 .refine Weaker.fy 1 0 ?_ ?_
  .simp [go_sem,E7,hfl]
  simp [go_sem,zWx]
 rintro ⟨i,j⟩ ⟨hi,hj⟩
 dsimp only at hi hj ⊢
 have g102:¬ j=0/\¬ 0=j/\¬ j+1=0/\¬ 0=j+1:=by and_intros<;>omega
 refine rG ?_
 refine A3 fun K2 hK2=>?_
 refine cJ (fun h=>?_) fun h=>?_
 .simp at h
  obtain rfl:i=nO t:=by omega
  clear h
  apply A6
  apply hK1
  refine rG ?_
  refine A4 ?_
  simp [go_sem,zdx,zR3,zWy]
 simp at h
 have hin:i<nO t:=by omega
 clear h
 have hw:=wI i
 have hiL:i<fr.length:=by omega
 have g103:(i:Int)<(fr.length:Nat)/\(0:Int)<=(i:Nat)/\(i:Int)<(nO t:Nat):=by and_intros<;>omega
 obtain ⟨x,hx,hx'⟩:=E0 hiL
 obtain ⟨hx1,hx2⟩:=hfr i x hx
 have hxd:fr.getD i 0=x:=by rw [List.getD,hx];rfl
 obtain ⟨hl0,hl1⟩:=hS.loc i hin
 apply A1
 apply hK2
 refine A3 fun K3 hK3=>?_
 apply A0
 refine rG ?_ fun K h=>by simp [go_sem,hiL,g103,hx,hx'];exact h
 refine rK fun K hK=>?_
 simp [go_sem]
 refine A2 (L2 t hS of ws fr vf i hin) ?_
 simp [go_sem,B6,g102]
 apply hK
 apply A0
 refine rK fun K hK=>?_
 simp [go_sem,g102]
 refine A2 (n6 _) ?_
 simp [go_sem,g102]
 apply hK
 refine cK (fun h=>?_) fun h=>?_
 .have hr:rdB (opX t i).op=false:=by simpa using h
  have hk:knV t f.f fr i=zV:=by unfold knV;rw [hr];rfl
  apply A1
  apply hK3
  refine rF ?_ fun K h=>by simp [go_sem,hw];exact h
  refine ⟨(i+1,j+30),?_,?_,?_⟩
  .exact ⟨by dsimp only;omega,by dsimp only;omega⟩
  .dsimp only;omega
  refine Weaker.fy 1 0 ?_ ?_
  .simp [go_sem,E7,Tst.cs,Os'.cs,g102]
  simp [go_sem,zJs hk,g102]
 have hr:rdB (opX t i).op=true:=by simpa using h
 refine rG ?_
 refine cK (fun h=>?_) fun h=>?_
 .have hxn:x<0:=by simpa using h
  have hlN:(opX t i).loc.toNat<t.locs.length:=by omega
  obtain ⟨q,hq,hq'⟩:=E0 hlN
  have hk:knV t f.f fr i=⟨true,q.v⟩:=by unfold knV;rw [hr,hxd,if_pos rfl,if_pos hxn,List.getD,hq];rfl
  refine dE 15 [[],[],[],[2],[2,3],[2,3,4],[2,3,4,5],[2,3,4,5,6],[2,3,4,5,6,7],[],[9],[2,3,4,5,6,7,8,9,10],[2,3,4,5,6,7,8,9,10,11],[2,3,4,5,6,7,8,9,10,11,12],[2,3,4,5,6,7,8,9,10,11,12,13],[0,1,2,3,4,5,6,7,8,9,10,11,12,13,14],[0,1,2,3,4,5,6,7,8,9,10,11,12,13,14,15]] fun K hK=>?_
  first|dsimp only [List.take,List.drop]|dsimp [List.take,List.drop]
  simp [go_sem,E7,Tst.cs,Xa_,Ini.cs,hl0,hl1,hlN,hq,hq',g103,hin,g102]
  apply hK
  apply hK3
  refine rF ?_ fun K h=>by simp [go_sem,hw];exact h
  refine ⟨(i+1,j+30),?_,?_,?_⟩
  .exact ⟨by dsimp only;omega,by dsimp only;omega⟩
  .dsimp only;omega
  refine Weaker.fy 1 0 ?_ ?_
  .simp [go_sem,E7,Tst.cs,Os'.cs,g102]
  simp [go_sem,zR2 hk,g102]
 have hxn:¬ x<0:=by simpa using h
 obtain ⟨m,rfl⟩:=Int.eq_ofNat_of_zero_le (show 0<=x by omega)
 have hmS:m<f.f.state.length:=by omega
 have hmSI:(m:Int)<(f.f.state.length:Nat):=by omega
 obtain ⟨s,hs,hs'⟩:=E0 hmS
 have hmW:m<f.f.write.length:=by omega
 have hmWI:(m:Int)<(f.f.write.length:Nat):=by omega
 obtain ⟨u,hu,hu'⟩:=E0 hmW
 have hm0:(0:Int)<=(m:Nat):=by omega
 have hsd:f.f.state.getD m 0=s:=by rw [List.getD,hs];rfl
 have hud:f.f.write.getD m zV=u:=by rw [List.getD,hu];rfl
 refine rG ?_ fun K h=>by simp [go_sem,Os'.cs,hmS,hmSI,hs,hs',hm0];exact h
 refine cK (fun h=>?_) fun h=>?_
 .have hs1:s=1:=by simpa using h
  have hk:knV t f.f fr i=⟨u.k,u.v⟩:=by unfold knV;rw [hr,hxd,if_pos rfl,if_neg hxn,Int.toNat_natCast,hsd,if_pos hs1,hud]
  refine rF ?_ fun K h=>by simp [go_sem,Os'.cs,hmW,hmWI,hu,hu',hm0,g103,hin,g102];exact h
  apply hK3
  refine rF ?_ fun K h=>by simp [go_sem,hw];exact h
  refine ⟨(i+1,j+30),?_,?_,?_⟩
  .exact ⟨by dsimp only;omega,by dsimp only;omega⟩
  .dsimp only;omega
  refine Weaker.fy 1 0 ?_ ?_
  .simp [go_sem,E7,Tst.cs,Os'.cs,g102]
  simp [go_sem,zR2 hk,g102]
 have hs1:¬ s=1:=by simpa using h
 have hk:knV t f.f fr i=zV:=by unfold knV;rw [hr,hxd,if_pos rfl,if_neg hxn,Int.toNat_natCast,hsd,if_neg hs1]
 apply A1
 apply hK3
 refine rF ?_ fun K h=>by simp [go_sem,hw];exact h
 refine ⟨(i+1,j+30),?_,?_,?_⟩
 .exact ⟨by dsimp only;omega,by dsimp only;omega⟩
 .dsimp only;omega
 refine Weaker.fy 1 0 ?_ ?_
 .simp [go_sem,E7,Tst.cs,Os'.cs,g102]
 simp [go_sem,zJs hk,g102]
theorem zWz {c:Cs} {co:Rl} {a b:Nat} (h:c.n<=b):O3 c co a b=false:=by unfold O3;simp [show ¬ b<c.n by omega]
theorem zP6 {c:Cs} {co:Rl} {a b:Nat} (h:c.n<=a):O3 c co a b=false:=by unfold O3;simp [show ¬ a<c.n by omega]
theorem zdy {c:Cs} {co:Rl} {a b:Nat} (h:c.at_ (fun x=>rdB x.op) a=false):O3 c co a b=false:=by unfold O3 Cs.rd;rw [h];simp
theorem zdz {c:Cs} {co:Rl} {a b:Nat} (ha:a<c.n) (hb:b<c.n) (h:c.at_ (fun x=>rdB x.op) a=true) {x:Int} (hx:c.fr[a]?=some x):O3 c co a b=(!decide ((b:Int)=(a:Nat))&&(c.at_ (fun x=>wrB x.op) b&&(decide ((opX c.t b).loc=(opX c.t a).loc)&&(decide (x<0)||co x.toNat b)))):=by
 unfold O3 Cs.rd Cs.wr
 have e1:decide (b=a)=decide ((b:Int)=(a:Nat)):=by rw [Bool.eq_iff_iff,decide_eq_true_eq,decide_eq_true_eq];omega
 rw [decide_eq_true ha,decide_eq_true hb,h,e1,show c.fr.getD a 0=x by rw [List.getD,hx];rfl]
 rfl
def zkx (c:Cs) (co:Rl) (i:Nat):Prop:=∀ k,k<i->zIz c co k=true
theorem zP7 {c:Cs} {co:Rl} (h:zkx c co c.n):zA8 c co=true:=by
 unfold zA8
 rw [all_eq_true]
 exact fun k hk=>h k (List.mem_range.1 hk)
theorem WD_ {c:Cs} {co:Rl} {k:Nat} (hk:k<c.n) (h:zIz c co k=false):zA8 c co=false:=by
 unfold zA8
 rw [all_eq_false]
 exact ⟨k,List.mem_range.2 hk,by simp [h]⟩
theorem zD4 {c:Cs} {co:Rl} {k:Nat} {p:Int} (hp:c.f.f.pair[k]?=some p) (h:p=0\/c.at_ (fun x=>wrB x.op) k=false):zIz c co k=true:=by
 have e:c.f.f.pair.getD k 0=p:=by rw [List.getD,hp];rfl
 unfold zIz Cs.wr
 rw [e,if_pos h]
def WW_ (c:Cs) (co:Rl) (k:Nat) (i:Int) (w:Nat):Bool:=c.at_ (fun x=>wrB x.op) w&&(!decide (((c.op w).1:Int)=((c.op k).1:Nat))&&(co w k&&(decide (i<0)||co i.toNat w)))
theorem ze0 {c : Cs} {co : Rl} {k : Nat} {p i : Int} (hp : c.f.f.pair[k]? = some p) (h0 : ¬ p = 0) (hw : c.at_ (fun x => wrB x.op) k = true) (hi : c.fr[(p - 1).toNat]? = some i) :
    zIz c co k=(!(decide (0<=i)&&!co i.toNat k)&&!((List.range c.n).any (WW_ c co k i))):=by
  have e:c.f.f.pair.getD k 0=p:=by rw [List.getD,hp];rfl
  have e2:c.fr.getD (p-1).toNat 0=i:=by rw [List.getD,hi];rfl
  unfold zIz Cs.wr
  rw [e,if_neg (by rw [hw];simp [h0]),e2]
  dsimp only
  congr 2
  apply congrArg (fun f=>(List.range c.n).any f)
  funext w
  unfold WW_ Cs.th
  have e1:decide ((c.op w).1=(c.op k).1)=decide (((c.op w).1:Int)=((c.op k).1:Nat)):=by rw [Bool.eq_iff_iff,decide_eq_true_eq,decide_eq_true_eq];omega
  rw [e1]
theorem zAl (p:Rl) (a b:Int) (h0:0<=a) (h16:a<16):Pf Tryz.prog 48 [.agg (B5 p),iV a,iV b] (bV (decide (0<=b/\b<16)&&p a.toNat b.toNat)):=by
 obtain ⟨n,rfl⟩:=Int.eq_ofNat_of_zero_le h0
 exact n7 p n (by omega) b
theorem zD5 {c:Cs} {co:Rl} {k:Nat} {i:Int} (h:∀ w,w<c.n->WW_ c co k i w=false):(List.range c.n).any (WW_ c co k i)=false:=by
 rw [any_eq_false]
 exact fun w hw=>by simp [h w (List.mem_range.1 hw)]
theorem zD6 {c:Cs} {co:Rl} {k w:Nat} {i:Int} (hw:w<c.n) (h:WW_ c co k i w=true):(List.range c.n).any (WW_ c co k i)=true:=List.any_eq_true.2 ⟨w,List.mem_range.2 hw,h⟩
theorem zF9 (c:Cs) (hc:CsOk c) (hS:SeaOk c.t) (of:FuncId) (ws:List Bool) (vf:Value) (kept po co:Rl) (las:List Int) (hl8:las.length=8):Pf Tryz.prog 225 [.rp (E7 c.t (fnV of) ws c.fr (.val vf)) 0,.agg (F7 c kept po las),.agg (B5 co)] (.agg (B5 (O3 c co))):=by
 refine Pf.of_fn (.cons (VH_ c.t ws c.fr vf 0) (.cons (.agg (zQu c kept po las)) (.cons (.agg (D9 co)) .nil))) (.agg (D9 _)) ?_
 have hn8:=hc.n8
 have hfl:=hc.frl
 have hcn:(M5 0 c.t.ths).length=c.n:=rfl
 refine B7 T_ok func225 rfl rfl ntmps225 rfl (by simp) ?_
 refine rG ?_ fun K h=>by simp [go_sem,C0 hl8,B3 hl8,B1 hl8,C4 hl8,B0];exact h
 refine rG ?_
 refine dK 5 [[],[0],[0,1],[],[3],[0,1,2,3,4],[0,1,2,3,4,5],[0,1,2,3,4,5,6]] fun K hK=>?_
 first|dsimp only [List.take,List.drop]|dsimp [List.take,List.drop]
 simp [go_sem,C0 hl8,B3 hl8,B1 hl8,C4 hl8,B0]
 refine A5 (Y6_ c hc) ?_
 simp [go_sem,C0 hl8,B3 hl8,B1 hl8,C4 hl8,B0]
 refine A2 (U2 c hc) ?_
 simp [go_sem,C0 hl8,B3 hl8,B1 hl8,C4 hl8,B0]
 apply hK
 refine A3 fun K1 hK1=>?_
 refine rG ?_ fun K h=>by simp [go_sem,C0 hl8,B3 hl8,B1 hl8,C4 hl8,B0,Cs.cs];exact h
 apply A0
 refine A9 (α:=Nat × Nat) (fun a=>⟨81,[(0,.rp (E7 c.t (fnV of) ws c.fr (.val vf)) 0),(4,.ptr 0 0 0),(5,.ptr 1 0 0),(6,.ptr 2 0 0),(7,.ptr 3 0 0),(8,.val (.int .u16 (D7 (c.at_ fun x=>rdB x.op)))),(9,.val (.int .u16 (D7 (c.at_ fun x=>wrB x.op)))),(23,.ro 1 (iVs c.fr)),(24,iV (c.n:Nat)),(25,iV (a.1:Nat))],[(3,.rows 16 [.agg (B5 (upR (O3 c co) a.1 0))]),(2,.rows 16 [.agg (B5 fun _ _=>false)]),(1,.rows 16 [.agg (B5 co)]),(0,.rows 41 [.agg (F7 c kept po las)])],a.2⟩) (fun a=>a.1<=c.n/\3<a.2) (fun a=>c.n-a.1) (0,9) ?_ ?_ ?_
 .exact ⟨Nat.zero_le _,by dsimp only;omega⟩
 .refine Weaker.fy 1 0 ?_ ?_
  .simp [go_sem,Cs.cs,E7,hfl]
  simp [go_sem,zCq]
 rintro ⟨i,j⟩ ⟨hi,hj⟩
 dsimp only at hi hj ⊢
 refine rG ?_
 refine A3 fun K2 hK2=>?_
 refine cJ (fun h=>?_) fun h=>?_
 .simp at h
  obtain rfl:i=c.n:=by omega
  clear h
  apply A6
  apply hK1
  refine rG ?_
  refine A4 ?_
  simp [go_sem]
  exact C3 fun x y=>UL_ (fun x y h=>zP6 h) x y
 simp at h
 have hin:i<c.n:=by omega
 clear h
 have hwi:=wI i
 have hi16:i<16:=by omega
 have g104:(i:Int)<16/\i<=15/\(0:Int)<=(i:Nat)/\(i:Int)<(c.fr.length:Nat):=by and_intros<;>omega
 have hiF:i<c.fr.length:=by omega
 obtain ⟨x,hx,hx'⟩:=E0 hiF
 have hxr:=hc.fr1 i x hx
 apply A1
 apply hK2
 refine A3 fun K3 hK3=>?_
 apply A0
 refine rG ?_ fun K h=>by simp [go_sem,hiF,g104,hx,hx'];exact h
 refine A3 fun K4 hK4=>?_
 refine rG ?_ fun K h=>by simp [go_sem,hi16,g104,B8 hi16];exact h
 refine cK (fun h=>?_) fun h=>?_
 .have hrd:c.at_ (fun x=>rdB x.op) i=false:=by simpa using h
  apply A6
  apply hK3
  refine rF ?_ fun K h=>by simp [go_sem,hwi];exact h
  refine ⟨(i+1,j),?_,?_,?_⟩
  .exact ⟨by dsimp only;omega,by dsimp only;omega⟩
  .dsimp only;omega
  refine Weaker.fy 1 0 ?_ ?_
  .simp [go_sem,Cs.cs,E7]
  simp [go_sem,V4_ (q:=O3 c co) (a:=i) (b:=0) (s:=0) (fun y _=>zdy hrd) (fun y hy=>absurd hy (Nat.not_lt_zero _))]
 have hrd:c.at_ (fun x=>rdB x.op) i=true:=by simpa using h
 apply A1
 apply hK4
 refine rG ?_ fun K h=>by simp [go_sem,E7,hcn];exact h
 apply A0
 refine A9 (α:=Nat × Nat) (fun b=>⟨81,[(0,.rp (E7 c.t (fnV of) ws c.fr (.val vf)) 0),(4,.ptr 0 0 0),(5,.ptr 1 0 0),(6,.ptr 2 0 0),(7,.ptr 3 0 0),(8,.val (.int .u16 (D7 (c.at_ fun x=>rdB x.op)))),(9,.val (.int .u16 (D7 (c.at_ fun x=>wrB x.op)))),(23,.ro 1 (iVs c.fr)),(24,iV (c.n:Nat)),(25,iV (i:Nat)),(10,iV (i:Nat)),(11,iV x),(39,iV (c.n:Nat)),(40,iV (b.1:Nat))],[(3,.rows 16 [.agg (B5 (upR (O3 c co) i b.1))]),(2,.rows 16 [.agg (B5 fun _ _=>false)]),(1,.rows 16 [.agg (B5 co)]),(0,.rows 41 [.agg (F7 c kept po las)])],b.2⟩) (fun b=>b.1<=c.n/\3<b.2) (fun b=>c.n-b.1) (0,j) ?_ ?_ ?_
 .exact ⟨Nat.zero_le _,hj⟩
 .refine Weaker.fy 1 0 ?_ ?_
  .simp [go_sem,E7]
  simp [go_sem]
 rintro ⟨w,jj⟩ ⟨hb,hjj⟩
 dsimp only at hb hjj ⊢
 refine rG ?_
 refine A3 fun K5 hK5=>?_
 refine cJ (fun h=>?_) fun h=>?_
 .simp at h
  obtain rfl:w=c.n:=by omega
  clear h
  apply A6
  apply hK3
  refine rF ?_ fun K h=>by simp [go_sem,hwi];exact h
  refine ⟨(i+1,jj),?_,?_,?_⟩
  .exact ⟨by dsimp only;omega,by dsimp only;omega⟩
  .dsimp only;omega
  refine Weaker.fy 1 0 ?_ ?_
  .simp [go_sem,Cs.cs,E7]
  simp [go_sem,V4_ (q:=O3 c co) (a:=i) (b:=c.n) (s:=0) (fun y hy=>zWz hy) (fun y hy=>absurd hy (Nat.not_lt_zero _))]
 simp at h
 have hwn:w<c.n:=by omega
 clear h
 have hww:=wI w
 have hw16:w<16:=by omega
 have g105:(w:Int)<16/\w<=15/\(0:Int)<=(w:Nat):=by and_intros<;>omega
 have hbq:=zdz (co:=co) hin hwn hrd hx
 apply A1
 apply hK5
 refine A3 fun K6 hK6=>?_
 apply A0
 refine rG ?_
 refine D8 T_ok (by decide) ⟨81,[(0,.rp (E7 c.t (fnV of) ws c.fr (.val vf)) 0),(4,.ptr 0 0 0),(5,.ptr 1 0 0),(6,.ptr 2 0 0),(7,.ptr 3 0 0),(8,.val (.int .u16 (D7 (c.at_ fun x=>rdB x.op)))),(9,.val (.int .u16 (D7 (c.at_ fun x=>wrB x.op)))),(23,.ro 1 (iVs c.fr)),(24,iV (c.n:Nat)),(25,iV (i:Nat)),(10,iV (i:Nat)),(11,iV x),(39,iV (c.n:Nat)),(40,iV (w:Nat)),(12,iV (w:Nat)),(73,bV (O3 c co i w))],[(3,.rows 16 [.agg (B5 (upR (O3 c co) i w))]),(2,.rows 16 [.agg (B5 fun _ _=>false)]),(1,.rows 16 [.agg (B5 co)]),(0,.rows 41 [.agg (F7 c kept po las)])],jj⟩ ?_ ?_
 .by_cases c1:(w:Int)=(i:Nat)
  .simp [go_sem,c1,hw16,g105,B8 hw16]
   refine Weaker.fw 1 0 ?_ ?_<;>simp [go_sem,c1,hbq,E7,B6]
  by_cases c2:c.at_ (fun x=>wrB x.op) w=true
  .by_cases c3:(opX c.t w).loc=(opX c.t i).loc
   .by_cases c4:x<0
    .simp [go_sem,c1,c2,c3,c4,hw16,g105,B8 hw16]
     refine A2 (L2 c.t hS of ws c.fr vf w hwn) ?_
     simp [go_sem,B6,c1,c2,c3,c4,hw16,g105,B8 hw16]
     refine A2 (L2 c.t hS of ws c.fr vf i hin) ?_
     simp [go_sem,B6,c1,c2,c3,c4,hw16,g105,B8 hw16]
     refine Weaker.fw 1 0 ?_ ?_<;>simp [go_sem,c1,c2,c3,c4,hbq,E7,B6]
    obtain ⟨m,rfl⟩:=Int.eq_ofNat_of_zero_le (show 0<=x by omega)
    have hm16:m<16:=by omega
    simp [go_sem,c1,c2,c3,c4,hw16,g105,B8 hw16]
    refine A2 (L2 c.t hS of ws c.fr vf w hwn) ?_
    simp [go_sem,B6,c1,c2,c3,c4,hw16,g105,B8 hw16]
    refine A2 (L2 c.t hS of ws c.fr vf i hin) ?_
    simp [go_sem,B6,c1,c2,c3,c4,hw16,g105,B8 hw16]
    refine A2 (n7 co m hm16 _) ?_
    simp [go_sem,g105,c1,c2,c3,c4,hw16,B8 hw16]
    refine Weaker.fw 1 0 ?_ ?_<;>simp [go_sem,c1,c2,c3,c4,hbq,E7,B6]
   simp [go_sem,c1,c2,c3,hw16,g105,B8 hw16]
   refine A2 (L2 c.t hS of ws c.fr vf w hwn) ?_
   simp [go_sem,B6,c1,c2,c3,hw16,g105,B8 hw16]
   refine A2 (L2 c.t hS of ws c.fr vf i hin) ?_
   simp [go_sem,B6,c1,c2,c3,hw16,g105,B8 hw16]
   refine Weaker.fw 1 0 ?_ ?_<;>simp [go_sem,c1,c2,c3,hbq,E7,B6]
  simp [go_sem,c1,c2,hw16,g105,B8 hw16]
  refine Weaker.fw 1 0 ?_ ?_<;>simp [go_sem,c1,c2,hbq,E7,B6]
 skip
 refine cJ (fun h=>?_) fun h=>?_
 .have hbe:O3 c co i w=false:=by simpa using h
  apply A1
  apply hK6
  refine rF ?_ fun K h=>by simp [go_sem,hww];exact h
  refine ⟨(w+1,jj),?_,?_,?_⟩
  .exact ⟨by dsimp only;omega,by dsimp only;omega⟩
  .dsimp only;omega
  refine Weaker.fy 1 0 ?_ ?_
  .simp [go_sem,E7]
  simp [go_sem,zCr hbe]
 have hbe:O3 c co i w=true:=h
 refine rE fun K hK=>?_
 simp [go_sem]
 refine A2 (c9 _ _ _) ?_
 simp [go_sem]
 apply hK
 apply hK6
 refine rF ?_ fun K h=>by simp [go_sem,hww];exact h
 refine ⟨(w+1,jj),?_,?_,?_⟩
 .exact ⟨by dsimp only;omega,by dsimp only;omega⟩
 .dsimp only;omega
 refine Weaker.fy 1 0 ?_ ?_
 .simp [go_sem,E7]
 simp [go_sem,zA4 hbe]
theorem zJt (c:Cs) (hc:CsOk c) (hS:SeaOk c.t) (of:FuncId) (ws:List Bool) (vf:Value) (kept po co:Rl) (las:List Int) (hl8:las.length=8):Pf Tryz.prog 227 [.rp (E7 c.t (fnV of) ws c.fr (.val vf)) 0,.agg (F7 c kept po las),.agg (B5 co)] (bV (zA8 c co)):=by
 refine Pf.of_fn (.cons (VH_ c.t ws c.fr vf 0) (.cons (.agg (zQu c kept po las)) (.cons (.agg (D9 co)) .nil))) (.val _) ?_
 have hn8:=hc.n8
 have hfl:=hc.frl
 have hpl:=hc.fl.l3
 have hops:M5 0 c.t.ths=c.ops:=rfl
 have hcn:c.ops.length=c.n:=rfl
 refine B7 T_ok func227 rfl rfl ntmps227 rfl (by simp) ?_
 refine rG ?_ fun K h=>by simp [go_sem,C0 hl8,B3 hl8,B1 hl8,C4 hl8,B0];exact h
 refine rK fun K hK=>?_
 simp [go_sem,C0 hl8,B3 hl8,B1 hl8,C4 hl8,B0]
 refine A2 (U2 c hc) ?_
 simp [go_sem,C0 hl8,B3 hl8,B1 hl8,C4 hl8,B0]
 apply hK
 refine A3 fun K1 hK1=>?_
 refine rG ?_ fun K h=>by simp [go_sem,C0 hl8,B3 hl8,B1 hl8,C4 hl8,B0,Cs.cs,Os'.cs];exact h
 apply A0
 refine A9 (α:=Nat × Nat) (fun a=>⟨105,[(0,.rp (E7 c.t (fnV of) ws c.fr (.val vf)) 0),(4,.ptr 0 0 0),(5,.ptr 1 0 0),(7,.val (.int .u16 (D7 (c.at_ fun x=>wrB x.op)))),(22,.ro 1 (iVs c.f.f.pair)),(23,iV (c.n:Nat)),(24,iV (a.1:Nat))],[(1,.rows 16 [.agg (B5 co)]),(0,.rows 41 [.agg (F7 c kept po las)])],a.2⟩) (fun a=>a.1<=c.n/\1<a.2/\zkx c co a.1) (fun a=>c.n-a.1) (0,2) ?_ ?_ ?_
 .exact ⟨Nat.zero_le _,by dsimp only;omega,fun k h=>absurd h (Nat.not_lt_zero _)⟩
 .refine Weaker.fy 1 0 ?_ ?_
  .simp [go_sem,Cs.cs,Os'.cs,E7,hpl]
  simp [go_sem]
 rintro ⟨i,j⟩ ⟨hi,hj,hpu⟩
 dsimp only at hi hj hpu ⊢
 refine rG ?_
 refine A3 fun K2 hK2=>?_
 refine cJ (fun h=>?_) fun h=>?_
 .simp at h
  obtain rfl:i=c.n:=by omega
  clear h
  apply A6
  apply hK1
  refine rG ?_
  refine A4 ?_
  simp [go_sem,zP7 hpu]
 simp at h
 have hin:i<c.n:=by omega
 clear h
 have hwi:=wI i
 have hi16:i<16:=by omega
 have g106:(i:Int)<16/\i<=15/\(0:Int)<=(i:Nat)/\(i:Int)<(c.f.f.pair.length:Nat):=by and_intros<;>omega
 have hpF:i<c.f.f.pair.length:=by omega
 obtain ⟨p,hp,hp'⟩:=E0 hpF
 have hpr:=hc.pr1 i p hp
 apply A1
 apply hK2
 refine A3 fun K3 hK3=>?_
 apply A0
 refine rG ?_ fun K h=>by simp [go_sem,hpF,g106,hp,hp'];exact h
 refine A3 fun K4 hK4=>?_
 refine rK fun K hK=>?_
 by_cases hp0:p=0
 .simp [go_sem,hp0,hi16,g106,B8 hi16]
  apply hK
  refine cJ (fun h=>?_) fun h=>?_
  .simp at h
  have hpk:=zD4 (co:=co) hp (.inl hp0)
  apply A6
  apply hK3
  refine rF ?_ fun K h=>by simp [go_sem,hwi];exact h
  refine ⟨(i+1,j),?_,?_,?_⟩
  .refine ⟨by dsimp only;omega,by dsimp only;omega,fun k h=>?_⟩
   by_cases e:k=i
   .subst e;exact hpk
   exact hpu k (by dsimp only at h;omega)
  .dsimp only;omega
  refine Weaker.fy 1 0 ?_ ?_
  .simp [go_sem,Cs.cs,Os'.cs,E7,hops]
  simp [go_sem]
 simp [go_sem,hp0,hi16,g106,B8 hi16]
 apply hK
 refine cK (fun h=>?_) fun h=>?_
 .have hpk:=zD4 (co:=co) hp (.inr (by simpa using h))
  apply A6
  apply hK3
  refine rF ?_ fun K h=>by simp [go_sem,hwi];exact h
  refine ⟨(i+1,j),?_,?_,?_⟩
  .refine ⟨by dsimp only;omega,by dsimp only;omega,fun k h=>?_⟩
   by_cases e:k=i
   .subst e;exact hpk
   exact hpu k (by dsimp only at h;omega)
  .dsimp only;omega
  refine Weaker.fy 1 0 ?_ ?_
  .simp [go_sem,Cs.cs,Os'.cs,E7,hops]
  simp [go_sem]
 have hwr:c.at_ (fun x=>wrB x.op) i=true:=by simpa using h
 obtain ⟨q,hq⟩:∃ q:Nat,p=(q:Int)+1:=⟨(p-1).toNat,by omega⟩
 have hqn:q<c.n:=by omega
 have hwp:IntKind.i64.wrap (p-1)=(q:Nat):=by rw [E4 (by omega) (by omega)];omega
 have hqF:q<c.fr.length:=by omega
 have g107:(q:Int)<(c.fr.length:Nat)/\(0:Int)<=(q:Nat):=by and_intros<;>omega
 obtain ⟨y,hy,hy'⟩:=E0 hqF
 have hyr:=hc.fr1 q y hy
 have hpat:=ze0 (co:=co) hp hp0 hwr (show c.fr[(p-1).toNat]?=some y by rw [show (p-1).toNat=q by omega];exact hy)
 obtain ⟨lk,⟨o1k,o2k⟩,⟨a1k,a2k,a3k⟩,⟨b1k,b2k,b3k⟩⟩:=opF hc hin
 have g108:((c.op i).1:Int)<(c.t.ths.length:Nat)/\((c.op i).2:Int)<(lk.length:Nat)/\(0:Int)<=((c.op i).1:Nat)/\(0:Int)<=((c.op i).2:Nat)/\(0:Int)<=(i:Nat):=by and_intros<;>omega
 have hcnk:c.ops.length=c.n:=rfl
 have kIk:(i:Int)<(c.n:Nat):=by omega
 have kNk:i<c.n:=hin
 have o3k:(d0 c.ops)[i]?=some (.agg [iV ((c.op i).1:Nat),iV ((c.op i).2:Nat)]):=by rw [O0,o1k];rfl
 apply A1
 apply hK4
 refine rG ?_ fun K h=>by simp [go_sem,E7,hwp,hqF,g107,hy,hy'];exact h
 refine A3 fun K5 hK5=>?_
 refine rK fun K hK=>?_
 by_cases hy0:0<=y
 .simp [go_sem,hy0]
  refine A2 (zAl co y i hy0 (by omega)) ?_
  simp [go_sem,hy0,g106]
  apply hK
  refine cK (fun h=>?_) fun h=>?_
  .have hpf0:zA8 c co=false:=WD_ hin (by rw [hpat,decide_eq_true hy0,show co y.toNat i=false by simpa using h];rfl)
   refine rG ?_
   refine A4 ?_
   simp [go_sem,hpf0]
  have hg:(decide (0<=y)&&!co y.toNat i)=false:=by rw [decide_eq_true hy0,show co y.toNat i=true by simpa using h];rfl
  apply A1
  apply hK5
  refine rG ?_ fun K h=>by simp [go_sem,E7,hops,hcn];exact h
  apply A0
  refine A9 (α:=Nat × Nat) (fun b=>⟨105,[(0,.rp (E7 c.t (fnV of) ws c.fr (.val vf)) 0),(4,.ptr 0 0 0),(5,.ptr 1 0 0),(7,.val (.int .u16 (D7 (c.at_ fun x=>wrB x.op)))),(22,.ro 1 (iVs c.f.f.pair)),(23,iV (c.n:Nat)),(24,iV (i:Nat)),(8,iV (i:Nat)),(10,iV y),(59,iV (c.n:Nat)),(60,iV (b.1:Nat))],[(1,.rows 16 [.agg (B5 co)]),(0,.rows 41 [.agg (F7 c kept po las)])],b.2⟩) (fun b=>b.1<=c.n/\1<b.2/\∀ w,w<b.1->WW_ c co i y w=false) (fun b=>c.n-b.1) (0,j) ?_ ?_ ?_
  .exact ⟨Nat.zero_le _,hj,fun w h=>absurd h (Nat.not_lt_zero _)⟩
  .refine Weaker.fy 1 0 ?_ ?_
   .simp [go_sem,E7,hops]
   simp [go_sem]
  rintro ⟨w,jj⟩ ⟨hb,hjj,hpw⟩
  dsimp only at hb hjj hpw ⊢
  refine rG ?_
  refine A3 fun K6 hK6=>?_
  refine cJ (fun h=>?_) fun h=>?_
  .simp at h
   obtain rfl:w=c.n:=by omega
   clear h
   have hpk:zIz c co i=true:=by rw [hpat,hg,zD5 hpw];rfl
   apply A6
   apply hK3
   refine rF ?_ fun K h=>by simp [go_sem,hwi];exact h
   refine ⟨(i+1,jj),?_,?_,?_⟩
   .refine ⟨by dsimp only;omega,by dsimp only;omega,fun k h=>?_⟩
    by_cases e:k=i
    .subst e;exact hpk
    exact hpu k (by dsimp only at h;omega)
   .dsimp only;omega
   refine Weaker.fy 1 0 ?_ ?_
   .simp [go_sem,Cs.cs,Os'.cs,E7,hops]
   simp [go_sem]
  simp at h
  have hwn:w<c.n:=by omega
  clear h
  have hww:=wI w
  have hw16:w<16:=by omega
  have g109:(w:Int)<16/\w<=15/\(0:Int)<=(w:Nat):=by and_intros<;>omega
  obtain ⟨lq,⟨o1q,o2q⟩,⟨a1q,a2q,a3q⟩,⟨b1q,b2q,b3q⟩⟩:=opF hc hwn
  have g110:((c.op w).1:Int)<(c.t.ths.length:Nat)/\((c.op w).2:Int)<(lq.length:Nat)/\(0:Int)<=((c.op w).1:Nat)/\(0:Int)<=((c.op w).2:Nat)/\(0:Int)<=(w:Nat):=by and_intros<;>omega
  have hcnq:c.ops.length=c.n:=rfl
  have kIq:(w:Int)<(c.n:Nat):=by omega
  have kNq:w<c.n:=hwn
  have o3q:(d0 c.ops)[w]?=some (.agg [iV ((c.op w).1:Nat),iV ((c.op w).2:Nat)]):=by rw [O0,o1q];rfl
  apply A1
  apply hK6
  refine A3 fun K7 hK7=>?_
  apply A0
  refine rG ?_
  refine P7 T_ok (by kernel_rfl) 37 [[],[],[0,1],[0,1,2],[0,1,2,3],[0,1,2,3,4],[0,1,2,3,4,5],[0,1,2,3,4,5,6],[0,1,2,3,4,5,6,7],[0,1,2,3,4,5,6,7,8],[0,1,2,3,4,5],[0,1,2,3,4,5,6,7,8,9,10],[0,1,2,3,4,5,6,7,8,9,10,11],[0,1,2,3,4,5,6,7,8,9,10,11,12],[0,1,2,3,4,5],[0,1,2,3,4,5,14],[0,1,2,3,4,5,14,15],[0,1,2,3,4,5,14,15,16],[0,1,2,3,4,5],[0,1,2,3,4,5,14,15,16,17,18],[0,1,2,3,4,5,14,15,16,17,18,19],[0,1,2,3,4,5,14,15,16,17,18,19,20],[0,1,2,3,4,5,6,7,8,9,10,11,12,13,14,15,16,17,18,19,20,21],[0,1,2,3,4,5,6,7,8,9,10,11,12,13,14,15,16,17,18,19,20,21,22],[0,1,2,3,4,5,6,7,8,9,10,11,12,13,14,15,16,17,18,19,20,21,22,23],[0,1,2,3,4,5,6,7,8,9,10,11,12,13,14,15,16,17,18,19,20,21,22,23,24],[0,1,2,3,4,5,6,7,8,9,10,11,12,13,14,15,16,17,18,19,20,21,22,23,24],[0,1,2,3,4,5,6,7,8,9,10,11,12,13,14,15,16,17,18,19,20,21,22,23,24],[0,1,2,3,4,5,6,7,8,9,10,11,12,13,14,15,16,17,18,19,20,21,22,23,24,25,26,27],[0,1,2,3,4,5,6,7,8,9,10,11,12,13,14,15,16,17,18,19,20,21,22,23,24,25,26,27,28],[0,1,2,3,4,5,6,7,8,9,10,11,12,13,14,15,16,17,18,19,20,21,22,23,24,25,26,27,28,29],[0,1,2,3,4,5,6,7,8,9,10,11,12,13,14,15,16,17,18,19,20,21,22,23,24,25,26,27,28,29,30],[0,1,2,3,4,5,6,7,8,9,10,11,12,13,14,15,16,17,18,19,20,21,22,23,24,25,26,27,28,29,30,31],[0,1,2,3,4,5,6,7,8,9,10,11,12,13,14,15,16,17,18,19,20,21,22,23,24,25,26,27,28,29,30,31,32],[0,1,2,3,4,5,6,7,8,9,10,11,12,13,14,15,16,17,18,19,20,21,22,23,24,25,26,27,28,29,30,31,32,33],[0,1,2,3,4,5,6,7,8,9,10,11,12,13,14,15,16,17,18,19,20,21,22,23,24,25,26,27,28,29,30,31,32,33],[0,1,2,3,4,5,6,7,8,9,10,11,12,13,14,15,16,17,18,19,20,21,22,23,24,25,26,27,28,29,30,31,32,33],[0,1,2,3,4,5,6,7,8,9,10,11,12,13,14,15,16,17,18,19,20,21,22,23,24,25,26,27,28,29,30,31,32,33,34,35,36],[0,1,2,3,4,5,6,7,8,9,10,11,12,13,14,15,16,17,18,19,20,21,22,23,24,25,26,27,28,29,30,31,32,33,34,35,36,37],[0,1,2,3,4,5,6,7,8,9,10,11,12,13,14,15,16,17,18,19,20,21,22,23,24,25,26,27,28,29,30,31,32,33,34,35,36,37,38]] [] (by decide) (by decide) (by decide) ⟨105,[(0,.rp (E7 c.t (fnV of) ws c.fr (.val vf)) 0),(4,.ptr 0 0 0),(5,.ptr 1 0 0),(7,.val (.int .u16 (D7 (c.at_ fun x=>wrB x.op)))),(22,.ro 1 (iVs c.f.f.pair)),(23,iV (c.n:Nat)),(24,iV (i:Nat)),(8,iV (i:Nat)),(10,iV y),(59,iV (c.n:Nat)),(60,iV (w:Nat)),(11,iV (w:Nat)),(102,bV (WW_ c co i y w))],[(1,.rows 16 [.agg (B5 co)]),(0,.rows 41 [.agg (F7 c kept po las)])],jj+37⟩ ?_ ?_
  .first|dsimp only [List.take,List.drop]|dsimp [List.take,List.drop]
   by_cases c1:c.at_ (fun x=>wrB x.op) w=true
   .by_cases c2:((c.op w).1:Int)=((c.op i).1:Nat)
    .simp [go_sem,c1,c2,E7,hops,hw16,g109,B8 hw16,o1k,o2k,o3k,a1k,a2k,a3k,b1k,b2k,b3k,g108,kIk,kNk,hcnk,o1q,o2q,o3q,a1q,a2q,a3q,b1q,b2q,b3q,g110,kIq,kNq,hcnq,g106]
     refine Weaker.fw 1 0 ?_ ?_<;>simp [go_sem,c1,c2,WW_]
    by_cases c3:co w i=true
    .by_cases c4:y<0
     .simp [go_sem,c1,c2,c3,c4,E7,hops,hw16,g109,B8 hw16,o1k,o2k,o3k,a1k,a2k,a3k,b1k,b2k,b3k,g108,kIk,kNk,hcnk,o1q,o2q,o3q,a1q,a2q,a3q,b1q,b2q,b3q,g110,kIq,kNq,hcnq,g106]
      refine A5 (n7 co w hw16 _) ?_
      simp [go_sem,c1,c2,c3,c4,E7,hops,hw16,g109,B8 hw16,o1k,o2k,o3k,a1k,a2k,a3k,b1k,b2k,b3k,g108,kIk,kNk,hcnk,o1q,o2q,o3q,a1q,a2q,a3q,b1q,b2q,b3q,g110,kIq,kNq,hcnq,g106]
      refine Weaker.fw 1 0 ?_ ?_<;>simp [go_sem,c1,c2,c3,c4,WW_]
     have hy00:0<=y:=by omega
     simp [go_sem,c1,c2,c3,c4,E7,hops,hw16,g109,B8 hw16,o1k,o2k,o3k,a1k,a2k,a3k,b1k,b2k,b3k,g108,kIk,kNk,hcnk,o1q,o2q,o3q,a1q,a2q,a3q,b1q,b2q,b3q,g110,kIq,kNq,hcnq,g106]
     refine A5 (n7 co w hw16 _) ?_
     simp [go_sem,c1,c2,c3,c4,E7,hops,hw16,g109,B8 hw16,o1k,o2k,o3k,a1k,a2k,a3k,b1k,b2k,b3k,g108,kIk,kNk,hcnk,o1q,o2q,o3q,a1q,a2q,a3q,b1q,b2q,b3q,g110,kIq,kNq,hcnq,g106]
     refine A2 (zAl co y w hy00 (by omega)) ?_
     simp [go_sem,c1,c2,c3,c4,E7,hops,hw16,g109,B8 hw16,o1k,o2k,o3k,a1k,a2k,a3k,b1k,b2k,b3k,g108,kIk,kNk,hcnk,o1q,o2q,o3q,a1q,a2q,a3q,b1q,b2q,b3q,g110,kIq,kNq,hcnq,g106]
     refine Weaker.fw 1 0 ?_ ?_<;>simp [go_sem,c1,c2,c3,c4,WW_]
    simp [go_sem,c1,c2,c3,E7,hops,hw16,g109,B8 hw16,o1k,o2k,o3k,a1k,a2k,a3k,b1k,b2k,b3k,g108,kIk,kNk,hcnk,o1q,o2q,o3q,a1q,a2q,a3q,b1q,b2q,b3q,g110,kIq,kNq,hcnq,g106]
    refine A5 (n7 co w hw16 _) ?_
    simp [go_sem,c1,c2,c3,E7,hops,hw16,g109,B8 hw16,o1k,o2k,o3k,a1k,a2k,a3k,b1k,b2k,b3k,g108,kIk,kNk,hcnk,o1q,o2q,o3q,a1q,a2q,a3q,b1q,b2q,b3q,g110,kIq,kNq,hcnq,g106]
    refine Weaker.fw 1 0 ?_ ?_<;>simp [go_sem,c1,c2,c3,WW_]
   simp [go_sem,c1,E7,hops,hw16,g109,B8 hw16,o1k,o2k,o3k,a1k,a2k,a3k,b1k,b2k,b3k,g108,kIk,kNk,hcnk,o1q,o2q,o3q,a1q,a2q,a3q,b1q,b2q,b3q,g110,kIq,kNq,hcnq,g106]
   refine Weaker.fw 1 0 ?_ ?_<;>simp [go_sem,c1,WW_]
  skip
  refine cK (fun h=>?_) fun h=>?_
  .have hpf0:zA8 c co=false:=WD_ hin (by rw [hpat,zD6 hwn h];simp)
   refine rG ?_
   refine A4 ?_
   simp [go_sem,hpf0]
  have hpf:WW_ c co i y w=false:=by simpa using h
  apply A1
  apply hK7
  refine rF ?_ fun K h=>by simp [go_sem,hww];exact h
  refine ⟨(w+1,jj+37),?_,?_,?_⟩
  .refine ⟨by dsimp only;omega,by dsimp only;omega,fun q h=>?_⟩
   by_cases e:q=w
   .subst e;exact hpf
   exact hpw q (by dsimp only at h;omega)
  .dsimp only;omega
  refine Weaker.fy 1 0 ?_ ?_
  .simp [go_sem,E7,hops]
  simp [go_sem]
 simp [go_sem,hy0]
 apply hK
 refine cK (fun h=>?_) fun h=>?_
 .simp at h
 have hg:(decide (0<=y)&&!co y.toNat i)=false:=by rw [decide_eq_false hy0];rfl
 apply A1
 apply hK5
 refine rG ?_ fun K h=>by simp [go_sem,E7,hops,hcn];exact h
 apply A0
 refine A9 (α:=Nat × Nat) (fun b=>⟨105,[(0,.rp (E7 c.t (fnV of) ws c.fr (.val vf)) 0),(4,.ptr 0 0 0),(5,.ptr 1 0 0),(7,.val (.int .u16 (D7 (c.at_ fun x=>wrB x.op)))),(22,.ro 1 (iVs c.f.f.pair)),(23,iV (c.n:Nat)),(24,iV (i:Nat)),(8,iV (i:Nat)),(10,iV y),(59,iV (c.n:Nat)),(60,iV (b.1:Nat))],[(1,.rows 16 [.agg (B5 co)]),(0,.rows 41 [.agg (F7 c kept po las)])],b.2⟩) (fun b=>b.1<=c.n/\1<b.2/\∀ w,w<b.1->WW_ c co i y w=false) (fun b=>c.n-b.1) (0,j) ?_ ?_ ?_
 .exact ⟨Nat.zero_le _,hj,fun w h=>absurd h (Nat.not_lt_zero _)⟩
 .refine Weaker.fy 1 0 ?_ ?_
  .simp [go_sem,E7,hops]
  simp [go_sem]
 rintro ⟨w,jj⟩ ⟨hb,hjj,hpw⟩
 dsimp only at hb hjj hpw ⊢
 refine rG ?_
 refine A3 fun K8 hK8=>?_
 refine cJ (fun h=>?_) fun h=>?_
 .simp at h
  obtain rfl:w=c.n:=by omega
  clear h
  have hpk:zIz c co i=true:=by rw [hpat,hg,zD5 hpw];rfl
  apply A6
  apply hK3
  refine rF ?_ fun K h=>by simp [go_sem,hwi];exact h
  refine ⟨(i+1,jj),?_,?_,?_⟩
  .refine ⟨by dsimp only;omega,by dsimp only;omega,fun k h=>?_⟩
   by_cases e:k=i
   .subst e;exact hpk
   exact hpu k (by dsimp only at h;omega)
  .dsimp only;omega
  refine Weaker.fy 1 0 ?_ ?_
  .simp [go_sem,Cs.cs,Os'.cs,E7,hops]
  simp [go_sem]
 simp at h
 have hwn:w<c.n:=by omega
 clear h
 have hww:=wI w
 have hw16:w<16:=by omega
 have g111:(w:Int)<16/\w<=15/\(0:Int)<=(w:Nat):=by and_intros<;>omega
 obtain ⟨lq,⟨o1q,o2q⟩,⟨a1q,a2q,a3q⟩,⟨b1q,b2q,b3q⟩⟩:=opF hc hwn
 have g112:((c.op w).1:Int)<(c.t.ths.length:Nat)/\((c.op w).2:Int)<(lq.length:Nat)/\(0:Int)<=((c.op w).1:Nat)/\(0:Int)<=((c.op w).2:Nat)/\(0:Int)<=(w:Nat):=by and_intros<;>omega
 have hcnq:c.ops.length=c.n:=rfl
 have kIq:(w:Int)<(c.n:Nat):=by omega
 have kNq:w<c.n:=hwn
 have o3q:(d0 c.ops)[w]?=some (.agg [iV ((c.op w).1:Nat),iV ((c.op w).2:Nat)]):=by rw [O0,o1q];rfl
 apply A1
 apply hK8
 refine A3 fun K9 hK9=>?_
 apply A0
 refine rG ?_
 refine P7 T_ok (by kernel_rfl) 37 [[],[],[0,1],[0,1,2],[0,1,2,3],[0,1,2,3,4],[0,1,2,3,4,5],[0,1,2,3,4,5,6],[0,1,2,3,4,5,6,7],[0,1,2,3,4,5,6,7,8],[0,1,2,3,4,5],[0,1,2,3,4,5,6,7,8,9,10],[0,1,2,3,4,5,6,7,8,9,10,11],[0,1,2,3,4,5,6,7,8,9,10,11,12],[0,1,2,3,4,5],[0,1,2,3,4,5,14],[0,1,2,3,4,5,14,15],[0,1,2,3,4,5,14,15,16],[0,1,2,3,4,5],[0,1,2,3,4,5,14,15,16,17,18],[0,1,2,3,4,5,14,15,16,17,18,19],[0,1,2,3,4,5,14,15,16,17,18,19,20],[0,1,2,3,4,5,6,7,8,9,10,11,12,13,14,15,16,17,18,19,20,21],[0,1,2,3,4,5,6,7,8,9,10,11,12,13,14,15,16,17,18,19,20,21,22],[0,1,2,3,4,5,6,7,8,9,10,11,12,13,14,15,16,17,18,19,20,21,22,23],[0,1,2,3,4,5,6,7,8,9,10,11,12,13,14,15,16,17,18,19,20,21,22,23,24],[0,1,2,3,4,5,6,7,8,9,10,11,12,13,14,15,16,17,18,19,20,21,22,23,24],[0,1,2,3,4,5,6,7,8,9,10,11,12,13,14,15,16,17,18,19,20,21,22,23,24],[0,1,2,3,4,5,6,7,8,9,10,11,12,13,14,15,16,17,18,19,20,21,22,23,24,25,26,27],[0,1,2,3,4,5,6,7,8,9,10,11,12,13,14,15,16,17,18,19,20,21,22,23,24,25,26,27,28],[0,1,2,3,4,5,6,7,8,9,10,11,12,13,14,15,16,17,18,19,20,21,22,23,24,25,26,27,28,29],[0,1,2,3,4,5,6,7,8,9,10,11,12,13,14,15,16,17,18,19,20,21,22,23,24,25,26,27,28,29,30],[0,1,2,3,4,5,6,7,8,9,10,11,12,13,14,15,16,17,18,19,20,21,22,23,24,25,26,27,28,29,30,31],[0,1,2,3,4,5,6,7,8,9,10,11,12,13,14,15,16,17,18,19,20,21,22,23,24,25,26,27,28,29,30,31,32],[0,1,2,3,4,5,6,7,8,9,10,11,12,13,14,15,16,17,18,19,20,21,22,23,24,25,26,27,28,29,30,31,32,33],[0,1,2,3,4,5,6,7,8,9,10,11,12,13,14,15,16,17,18,19,20,21,22,23,24,25,26,27,28,29,30,31,32,33],[0,1,2,3,4,5,6,7,8,9,10,11,12,13,14,15,16,17,18,19,20,21,22,23,24,25,26,27,28,29,30,31,32,33],[0,1,2,3,4,5,6,7,8,9,10,11,12,13,14,15,16,17,18,19,20,21,22,23,24,25,26,27,28,29,30,31,32,33,34,35,36],[0,1,2,3,4,5,6,7,8,9,10,11,12,13,14,15,16,17,18,19,20,21,22,23,24,25,26,27,28,29,30,31,32,33,34,35,36,37],[0,1,2,3,4,5,6,7,8,9,10,11,12,13,14,15,16,17,18,19,20,21,22,23,24,25,26,27,28,29,30,31,32,33,34,35,36,37,38]] [] (by decide) (by decide) (by decide) ⟨105,[(0,.rp (E7 c.t (fnV of) ws c.fr (.val vf)) 0),(4,.ptr 0 0 0),(5,.ptr 1 0 0),(7,.val (.int .u16 (D7 (c.at_ fun x=>wrB x.op)))),(22,.ro 1 (iVs c.f.f.pair)),(23,iV (c.n:Nat)),(24,iV (i:Nat)),(8,iV (i:Nat)),(10,iV y),(59,iV (c.n:Nat)),(60,iV (w:Nat)),(11,iV (w:Nat)),(102,bV (WW_ c co i y w))],[(1,.rows 16 [.agg (B5 co)]),(0,.rows 41 [.agg (F7 c kept po las)])],jj+37⟩ ?_ ?_
 .first|dsimp only [List.take,List.drop]|dsimp [List.take,List.drop]
  by_cases c1:c.at_ (fun x=>wrB x.op) w=true
  .by_cases c2:((c.op w).1:Int)=((c.op i).1:Nat)
   .simp [go_sem,c1,c2,E7,hops,hw16,g111,B8 hw16,o1k,o2k,o3k,a1k,a2k,a3k,b1k,b2k,b3k,g108,kIk,kNk,hcnk,o1q,o2q,o3q,a1q,a2q,a3q,b1q,b2q,b3q,g112,kIq,kNq,hcnq,g106]
    refine Weaker.fw 1 0 ?_ ?_<;>simp [go_sem,c1,c2,WW_]
   by_cases c3:co w i=true
   .by_cases c4:y<0
    .simp [go_sem,c1,c2,c3,c4,E7,hops,hw16,g111,B8 hw16,o1k,o2k,o3k,a1k,a2k,a3k,b1k,b2k,b3k,g108,kIk,kNk,hcnk,o1q,o2q,o3q,a1q,a2q,a3q,b1q,b2q,b3q,g112,kIq,kNq,hcnq,g106]
     refine A5 (n7 co w hw16 _) ?_
     simp [go_sem,c1,c2,c3,c4,E7,hops,hw16,g111,B8 hw16,o1k,o2k,o3k,a1k,a2k,a3k,b1k,b2k,b3k,g108,kIk,kNk,hcnk,o1q,o2q,o3q,a1q,a2q,a3q,b1q,b2q,b3q,g112,kIq,kNq,hcnq,g106]
     refine Weaker.fw 1 0 ?_ ?_<;>simp [go_sem,c1,c2,c3,c4,WW_]
    have hy00:0<=y:=by omega
    simp [go_sem,c1,c2,c3,c4,E7,hops,hw16,g111,B8 hw16,o1k,o2k,o3k,a1k,a2k,a3k,b1k,b2k,b3k,g108,kIk,kNk,hcnk,o1q,o2q,o3q,a1q,a2q,a3q,b1q,b2q,b3q,g112,kIq,kNq,hcnq,g106]
    refine A5 (n7 co w hw16 _) ?_
    simp [go_sem,c1,c2,c3,c4,E7,hops,hw16,g111,B8 hw16,o1k,o2k,o3k,a1k,a2k,a3k,b1k,b2k,b3k,g108,kIk,kNk,hcnk,o1q,o2q,o3q,a1q,a2q,a3q,b1q,b2q,b3q,g112,kIq,kNq,hcnq,g106]
    refine A2 (zAl co y w hy00 (by omega)) ?_
    simp [go_sem,c1,c2,c3,c4,E7,hops,hw16,g111,B8 hw16,o1k,o2k,o3k,a1k,a2k,a3k,b1k,b2k,b3k,g108,kIk,kNk,hcnk,o1q,o2q,o3q,a1q,a2q,a3q,b1q,b2q,b3q,g112,kIq,kNq,hcnq,g106]
    refine Weaker.fw 1 0 ?_ ?_<;>simp [go_sem,c1,c2,c3,c4,WW_]
   simp [go_sem,c1,c2,c3,E7,hops,hw16,g111,B8 hw16,o1k,o2k,o3k,a1k,a2k,a3k,b1k,b2k,b3k,g108,kIk,kNk,hcnk,o1q,o2q,o3q,a1q,a2q,a3q,b1q,b2q,b3q,g112,kIq,kNq,hcnq,g106]
   refine A5 (n7 co w hw16 _) ?_
   simp [go_sem,c1,c2,c3,E7,hops,hw16,g111,B8 hw16,o1k,o2k,o3k,a1k,a2k,a3k,b1k,b2k,b3k,g108,kIk,kNk,hcnk,o1q,o2q,o3q,a1q,a2q,a3q,b1q,b2q,b3q,g112,kIq,kNq,hcnq,g106]
   refine Weaker.fw 1 0 ?_ ?_<;>simp [go_sem,c1,c2,c3,WW_]
  simp [go_sem,c1,E7,hops,hw16,g111,B8 hw16,o1k,o2k,o3k,a1k,a2k,a3k,b1k,b2k,b3k,g108,kIk,kNk,hcnk,o1q,o2q,o3q,a1q,a2q,a3q,b1q,b2q,b3q,g112,kIq,kNq,hcnq,g106]
  refine Weaker.fw 1 0 ?_ ?_<;>simp [go_sem,c1,WW_]
 skip
 refine cK (fun h=>?_) fun h=>?_
 .have hpf0:zA8 c co=false:=WD_ hin (by rw [hpat,zD6 hwn h];simp)
  refine rG ?_
  refine A4 ?_
  simp [go_sem,hpf0]
 have hpf:WW_ c co i y w=false:=by simpa using h
 apply A1
 apply hK9
 refine rF ?_ fun K h=>by simp [go_sem,hww];exact h
 refine ⟨(w+1,jj+37),?_,?_,?_⟩
 .refine ⟨by dsimp only;omega,by dsimp only;omega,fun q h=>?_⟩
  by_cases e:q=w
  .subst e;exact hpf
  exact hpw q (by dsimp only at h;omega)
 .dsimp only;omega
 refine Weaker.fy 1 0 ?_ ?_
 .simp [go_sem,E7,hops]
 simp [go_sem]
abbrev Y8 (t:Tst) (of:FuncId) (ws:List Bool) (fr:List Int) (vg:FuncId) (vcs:List V):V:=.rp (E7 t (fnV of) ws fr (.fn (.func vg) [] vcs)) 0
structure VisOk {σ:Type} (Q:Rn->Prop) (G:σ->A7) (step:σ->Rn->σ) (ok:σ->Prop) (vg:FuncId) (vcs:List V) (j0:Nat):Prop where
 call:∀ s r j,ok s->Q r->CsOk r.c->r.st.length=41->j0<=j->Sl.Fn Tryz.prog vg (.agg (rnC r)::vcs) (G s) j fun v H _=>v=.tup []/\H=G (step s r)
 okS:∀ s r,ok s->Q r->ok (step s r)
 names:∀ s,ok s->∀ p∈G s,p.1<j0
 plain:∀ s,ok s->zC3 (G s)
 still:∀ s,ok s->∀ d S H,∀ p∈G s,Ug_ S H d p.2=p.2
theorem zX0 (c:Cs) (hc:CsOk c) (hS:SeaOk c.t) (of:FuncId) (ws:List Bool) (kept po co:Rl) (las:List Int) (hl8:las.length=8) (vg:FuncId) (vcs:List V):Pf Tryz.prog 225 [Y8 c.t of ws c.fr vg vcs,.agg (F7 c kept po las),.agg (B5 co)] (.agg (B5 (O3 c co))) :=
 Pf.hide (ds:=zQt c.t (fnV of) ws c.fr) fun x _=>zF9 c hc hS of ws x kept po co las hl8
theorem zX1 (c:Cs) (hc:CsOk c) (hS:SeaOk c.t) (of:FuncId) (ws:List Bool) (kept po co:Rl) (las:List Int) (hl8:las.length=8) (vg:FuncId) (vcs:List V):Pf Tryz.prog 227 [Y8 c.t of ws c.fr vg vcs,.agg (F7 c kept po las),.agg (B5 co)] (bV (zA8 c co)) :=
 Pf.hide (ds:=zQt c.t (fnV of) ws c.fr) fun x _=>zJt c hc hS of ws x kept po co las hl8
theorem zJu (c : Cs) (kept co : Rl) : (zEx (fun a b => O3 c co a b && poP c b a) = true ∧ 0 < Wb_ (fun a b => O3 c co a b && poP c b a) 16) ∨
    (zEx (fun a b=>O3 c co a b&&poP c b a)=false/\¬ 0<Wb_ (fun a b=>O3 c co a b&&poP c b a) 16/\a8 (fun a b=>(kept a b||co a b)||O3 c co a b)=true) ∨
    (zEx (fun a b=>O3 c co a b&&poP c b a)=false/\¬ 0<Wb_ (fun a b=>O3 c co a b&&poP c b a) 16/\a8 (fun a b=>(kept a b||co a b)||O3 c co a b)=false):=by
  have h:=zWa (fun a b=>O3 c co a b&&poP c b a)
  cases hA:zEx (fun a b=>O3 c co a b&&poP c b a) with
  | true =>
    rw [hA,decide_eq_true_eq] at h
    exact .inl ⟨rfl,by omega⟩
  | false =>
    rw [hA,decide_eq_false_iff_not] at h
    cases hB:a8 (fun a b=>(kept a b||co a b)||O3 c co a b) with
    | true=>exact .inr (.inl ⟨rfl,by omega,rfl⟩)
    | false=>exact .inr (.inr ⟨rfl,by omega,rfl⟩)
theorem zAm {kept co:Rl} {c:Cs} {las:List Int} (h:(zEx (fun a b=>O3 c co a b&&poP c b a)||(a8 (Zc_ kept co (O3 c co))||!zA8 c co))=true):V8_ kept c las co=[]:=by unfold V8_;rw [if_pos h]
theorem ze1 {kept co:Rl} {c:Cs} {las:List Int} (h:(zEx (fun a b=>O3 c co a b&&poP c b a)||(a8 (Zc_ kept co (O3 c co))||!zA8 c co))=false):V8_ kept c las co=[⟨c,co,Zc_ kept co (O3 c co),W5 c.t (X4_ c) fun i=>(Zd_ c las).getD i 0⟩]:=by unfold V8_;rw [if_neg (by rw [h];simp)]
theorem zJv (f:Nat->Int):(I4 f).take 8=I4 f:=rfl
theorem zJw (g:Nat->Vl):(∀ x,x∈o5 g->x.one=true)=True:=eq_true (zCb g)
theorem zJx {P:Program} {f:FuncId} {a b rest:List V} {H:A7} {k:Nat} {K:V->A7->Nat->Prop} (e:a=b) (h:@u5 P f (.agg b::rest) H k ⟨K⟩):@u5 P f (.agg a::rest) H k ⟨K⟩:=e▸h
theorem zX2 (x:V) (A B C Y:List V) {Z:List V} {m:Nat} (hA:A.length=16) (hB:B.length=16) (hY:Y.length<=m):x::(List.take 32 (A++(B++Z))++(C++List.drop m Y))=x::(A++(B++C)):=by
 have h1:List.take 32 (A++(B++Z))=A++B:=by
  rw [<-append_assoc,take_append_of_le_length (by simp [hA,hB]),take_of_length_le (by simp [hA,hB])]
 rw [h1,drop_eq_nil_of_le hY]
 simp
theorem usT (l:List (Nat->Int)) (n:Nat) (h:l.length=n):List.take n (E1 l)=E1 l:=take_of_length_le (by rw [Z6_];omega)
theorem zP8 {σ:Type} {Q:Rn->Prop} {G:σ->A7} {step:σ->Rn->σ} {ok:σ->Prop} {vg:FuncId} {vcs:List V} {j0:Nat} (hV:VisOk Q G step ok vg vcs j0) (c:Cs) (hc:CsOk c) (hS:SeaOk c.t) (of:FuncId) (ws:List Bool) (kept po co:Rl) (hpo:po=poP c) (las:List Int) (hl8:las.length=8) (hlas:∀ (i:Nat) (n:Int),las[i]?=some n->0<=n/\n<=c.n) (hrl:c.f.regs.length=c.t.ths.length) (hQ:∀ r∈V8_ kept c las co,Q r) (s:σ) (hs:ok s) (j:Nat) (hj:j0<=j):Sl.Fn Tryz.prog 222 [Y8 c.t of ws c.fr vg vcs,.agg (F7 c kept po las),.agg (B5 co)] (G s) j fun v H _=>v=.tup []/\H=G ((V8_ kept c las co).foldl step s):=by
 subst hpo
 refine Fn.view ?_
 have hn8:=hc.n8
 have ht4:=hS.ths
 have hlo:=hS.locs
 have g113:(0:Int)<=(c.t.ths.length:Nat)/\(8:Int)*(c.t.ths.length:Nat)<=281474976710656/\(64:Int)*(c.t.ths.length:Nat)<=281474976710656/\((c.t.ths.length:Nat):Int)<=9223372036854775807:=by and_intros<;>omega
 refine B7 T_ok func222 rfl rfl ntmps222 rfl (by simp) ?_
 refine rG ?_ fun K h=>by simp [go_sem,C0 hl8,B3 hl8,B1 hl8,C4 hl8,B0,C2,E8,C1];exact h
 refine rK fun K hK=>?_
 simp [go_sem,C0 hl8,B3 hl8,B1 hl8,C4 hl8,B0,C2,E8,C1]
 refine A2 (zX0 c hc hS of ws kept (poP c) co las hl8 vg vcs) ?_
 simp [go_sem]
 apply hK
 refine R8 T_ok (by kernel_rfl) 7 [[],[0],[],[0,1,2],[],[0,1,2,3,4],[],[0,1,2,3,4,5,6]] [(0,6),(1,6),(2,6),(3,6),(4,6),(5,6)] (by decide) (by decide) (by decide) fun K hK=>?_
 first|dsimp only [List.take,List.drop]|dsimp [List.take,List.drop]
 simp [go_sem,C0 hl8,B3 hl8,B1 hl8,C4 hl8,B0,C2,E8,C1]
 refine A5 (zEk _ _) ?_
 simp [go_sem,C0 hl8,B3 hl8,B1 hl8,C4 hl8,B0,C2,E8,C1]
 refine A5 (zEk _ _) ?_
 simp [go_sem,C0 hl8,B3 hl8,B1 hl8,C4 hl8,B0,C2,E8,C1]
 apply hK
 refine A3 fun K1 hK1=>?_
 refine dK 15 [[],[],[1],[1,2],[0,1,2,3],[0,1,2,3,4],[0,1,2,3,4,5],[0,1,2,3,4,5,6],[0,1,2,3,4,5,6,7],[0,1,2,3,4,5,6,7,8],[0,1,2,3,4,5,6,7,8,9],[0,1,2,3,4,5,6,7,8,9,10],[0,1,2,3,4,5,6,7,8,9,10,11],[0,1,2,3,4,5,6,7,8,9,10,11],[0,1,2,3,4,5,6,7,8,9,10,11],[0,1,2,3,4,5,6,7,8,9,10,11,12,13,14],[0,1,2,3,4,5,6,7,8,9,10,11,12,13,14,15],[0,1,2,3,4,5,6,7,8,9,10,11,12,13,14,15,16]] fun K hK=>?_
 first|dsimp only [List.take,List.drop]|dsimp [List.take,List.drop]
 rcases zJu c kept co with ⟨hA,hAN⟩|⟨hA,hAN,hB⟩|⟨hA,hAN,hB⟩
 .simp [go_sem,C0 hl8,B3 hl8,B1 hl8,C4 hl8,B0,C2,E8,C1]
  refine A5 (Xg_ _) ?_
  simp [go_sem,C0 hl8,B3 hl8,B1 hl8,C4 hl8,B0,C2,E8,C1]
  refine A5 (J7 _ _) ?_
  simp [go_sem,C0 hl8,B3 hl8,B1 hl8,C4 hl8,B0,C2,E8,C1]
  refine A5 (X9 _) ?_
  simp [go_sem,C0 hl8,B3 hl8,B1 hl8,C4 hl8,B0,C2,E8,C1,hAN]
  try simp [go_sem,hAN,C0 hl8,B3 hl8,B1 hl8,C4 hl8,B0,C2,E8,C1]
  apply hK
  refine cJ (fun h=>?_) fun h=>?_
  .simp at h
  have hjt:=zAm (kept:=kept) (las:=las) (co:=co) (c:=c) (by rw [hA];rfl)
  refine A4 ?_
  rw [hjt]
  simp [go_sem]
  first
  | exact ⟨_,_,View.tail [] _ _,rfl,rfl⟩
  | exact ⟨_,_,View.tail [_] _ _,rfl,rfl⟩
  | exact ⟨_,_,View.tail [_,_] _ _,rfl,rfl⟩
  | exact ⟨_,_,View.tail [_,_,_] _ _,rfl,rfl⟩
  | exact ⟨_,_,View.tail [_,_,_,_] _ _,rfl,rfl⟩
  | exact ⟨_,_,View.tail [_,_,_,_,_] _ _,rfl,rfl⟩
  | exact ⟨_,_,View.tail [_,_,_,_,_,_] _ _,rfl,rfl⟩
  | exact ⟨_,_,View.tail [_,_,_,_,_,_,_] _ _,rfl,rfl⟩
 .simp [go_sem,C0 hl8,B3 hl8,B1 hl8,C4 hl8,B0,C2,E8,C1]
  refine A5 (Xg_ _) ?_
  simp [go_sem,C0 hl8,B3 hl8,B1 hl8,C4 hl8,B0,C2,E8,C1]
  refine A5 (J7 _ _) ?_
  simp [go_sem,C0 hl8,B3 hl8,B1 hl8,C4 hl8,B0,C2,E8,C1]
  refine A5 (X9 _) ?_
  simp [go_sem,C0 hl8,B3 hl8,B1 hl8,C4 hl8,B0,C2,E8,C1,hAN]
  refine A5 (Xh_ _) ?_
  simp [go_sem,hAN,hB,C0 hl8,B3 hl8,B1 hl8,C4 hl8,B0,C2,E8,C1]
  apply hK
  refine cJ (fun h=>?_) fun h=>?_
  .simp at h
  have hjt:=zAm (kept:=kept) (las:=las) (co:=co) (c:=c) (by rw [hA,show a8 (Zc_ kept co (O3 c co))=true from hB];rfl)
  refine A4 ?_
  rw [hjt]
  simp [go_sem]
  first
  | exact ⟨_,_,View.tail [] _ _,rfl,rfl⟩
  | exact ⟨_,_,View.tail [_] _ _,rfl,rfl⟩
  | exact ⟨_,_,View.tail [_,_] _ _,rfl,rfl⟩
  | exact ⟨_,_,View.tail [_,_,_] _ _,rfl,rfl⟩
  | exact ⟨_,_,View.tail [_,_,_,_] _ _,rfl,rfl⟩
  | exact ⟨_,_,View.tail [_,_,_,_,_] _ _,rfl,rfl⟩
  | exact ⟨_,_,View.tail [_,_,_,_,_,_] _ _,rfl,rfl⟩
  | exact ⟨_,_,View.tail [_,_,_,_,_,_,_] _ _,rfl,rfl⟩
 simp [go_sem,C0 hl8,B3 hl8,B1 hl8,C4 hl8,B0,C2,E8,C1]
 refine A5 (Xg_ _) ?_
 simp [go_sem,C0 hl8,B3 hl8,B1 hl8,C4 hl8,B0,C2,E8,C1]
 refine A5 (J7 _ _) ?_
 simp [go_sem,C0 hl8,B3 hl8,B1 hl8,C4 hl8,B0,C2,E8,C1]
 refine A5 (X9 _) ?_
 simp [go_sem,C0 hl8,B3 hl8,B1 hl8,C4 hl8,B0,C2,E8,C1,hAN]
 refine A5 (Xh_ _) ?_
 simp [go_sem,hAN,hB,C0 hl8,B3 hl8,B1 hl8,C4 hl8,B0,C2,E8,C1]
 refine A2 (zX1 c hc hS of ws kept (poP c) co las hl8 vg vcs) ?_
 simp [go_sem,hAN,hB,C0 hl8,B3 hl8,B1 hl8,C4 hl8,B0,C2,E8,C1]
 apply hK
 refine cK (fun h=>?_) fun h=>?_
 .have hjt:=zAm (kept:=kept) (las:=las) (co:=co) (c:=c) (by rw [hA,show a8 (Zc_ kept co (O3 c co))=false from hB];simpa using h)
  refine A4 ?_
  rw [hjt]
  simp [go_sem]
  first
  | exact ⟨_,_,View.tail [] _ _,rfl,rfl⟩
  | exact ⟨_,_,View.tail [_] _ _,rfl,rfl⟩
  | exact ⟨_,_,View.tail [_,_] _ _,rfl,rfl⟩
  | exact ⟨_,_,View.tail [_,_,_] _ _,rfl,rfl⟩
  | exact ⟨_,_,View.tail [_,_,_,_] _ _,rfl,rfl⟩
  | exact ⟨_,_,View.tail [_,_,_,_,_] _ _,rfl,rfl⟩
  | exact ⟨_,_,View.tail [_,_,_,_,_,_] _ _,rfl,rfl⟩
  | exact ⟨_,_,View.tail [_,_,_,_,_,_,_] _ _,rfl,rfl⟩
 have hjt:=ze1 (kept:=kept) (las:=las) (co:=co) (c:=c) (by rw [hA,show a8 (Zc_ kept co (O3 c co))=false from hB];simpa using h)
 apply A1
 apply hK1
 refine rG ?_ fun K h=>by simp [go_sem,E7,Tst.cs,g113];exact h
 refine A3 fun K2 hK2=>?_
 refine rG ?_ fun K h=>by simp [go_sem,C0 hl8,B3 hl8,B1 hl8,C4 hl8,B0,C2,E8,C1,Cs.cs,Os'.cs];exact h
 apply A0
 refine A9 (α:=Nat × Nat) (fun a=>⟨138,[(0,Y8 c.t of ws c.fr vg vcs),(4,.ptr j 0 0),(5,.ptr (j+1) 0 0),(7,.ptr (j+9) 0 0),(8,.sl (j+25) 0 c.t.ths.length),(61,.ro 16 (F3 c.f.regs)),(62,iV (c.t.ths.length:Nat)),(63,iV (a.1:Nat))],[(j+25,.rows 8 (E1 (rgT c.f.regs a.1 0))),(j+9,.rows 16 [.agg (B5 (Zc_ kept co (O3 c co)))]),(j+1,.rows 16 [.agg (B5 co)]),(j,.rows 41 [.agg (F7 c kept (poP c) las)])]++G s,a.2⟩) (fun a=>a.1<=c.t.ths.length/\j+25<a.2) (fun a=>c.t.ths.length-a.1) (0,j+26) ?_ ?_ ?_
 .exact ⟨Nat.zero_le _,by dsimp only;omega⟩
 .refine Weaker.fzT [_,_,_,_,_] _ (G s) 0 (by first|omega|(dsimp only;omega)|exact Nat.le_refl _) ?_ ?_ ?_
  .simp [go_sem,Cs.cs,Os'.cs,hrl]
  .first|(simp;done)|(simp;omega)
  (simp [go_sem,<-hrl,zOi,replicate_succ,Zc_];try rfl)
 rintro ⟨i,jj⟩ ⟨hi,hjj⟩
 dsimp only at hi hjj ⊢
 have g114:¬ jj=j/\¬ j=jj/\¬ jj=j+1/\¬ j+1=jj/\¬ jj=j+9/\¬ j+9=jj/\¬ jj=j+25/\¬ j+25=jj:=by and_intros<;>omega
 refine rG ?_
 refine A3 fun K3 hK3=>?_
 refine cK (fun h=>?_) fun h=>?_
 .simp at h
  have hin:i<c.t.ths.length:=by omega
  clear h
  have hw:=wI i
  have g115:(0:Int)<=(i:Nat)/\(i:Int)<(c.t.ths.length:Nat)/\(i:Int)<(c.f.regs.length:Nat):=by and_intros<;>omega
  have hiR:i<c.f.regs.length:=by omega
  obtain ⟨g,hg,hg'⟩:=E0 hiR
  have hrr:∀ h,(F3 c.f.regs)[i]'h=.agg (o5 g):=fun h=>by simp [F3,hg']
  have hrr2:(F3 c.f.regs)[i]?=some (.agg (o5 g)):=by rw [F3,List.getElem?_map,hg];rfl
  apply A1
  apply hK3
  refine A3 fun K4 hK4=>?_
  apply A0
  refine rG ?_ fun K h=>by simp [go_sem,hiR,g115,hrr,hrr2,zJw,g114];exact h
  refine rG ?_ fun K h=>by simp [go_sem,g114];exact h
  apply A0
  refine A9 (α:=Nat × Nat) (fun b=>⟨138,[(0,Y8 c.t of ws c.fr vg vcs),(4,.ptr j 0 0),(5,.ptr (j+1) 0 0),(7,.ptr (j+9) 0 0),(8,.sl (j+25) 0 c.t.ths.length),(61,.ro 16 (F3 c.f.regs)),(62,iV (c.t.ths.length:Nat)),(63,iV (i:Nat)),(9,iV (i:Nat)),(68,.agg (o5 g)),(69,iV (b.1:Nat))],[(j+25,.rows 8 (E1 (rgT c.f.regs i b.1))),(j+9,.rows 16 [.agg (B5 (Zc_ kept co (O3 c co)))]),(j+1,.rows 16 [.agg (B5 co)]),(j,.rows 41 [.agg (F7 c kept (poP c) las)])]++G s,b.2⟩) (fun b=>b.1<=8/\j+25<b.2) (fun b=>8-b.1) (0,jj+1) ?_ ?_ ?_
  .exact ⟨Nat.zero_le _,by dsimp only;omega⟩
  .refine Weaker.fzT [_,_,_,_,_] _ (G s) 0 (by first|omega|(dsimp only;omega)|exact Nat.le_refl _) ?_ ?_ ?_
   .simp [go_sem,g114]
   .first|(simp;done)|(simp;omega)
   simp [go_sem,g114]
  rintro ⟨r,kk⟩ ⟨hr,hkk⟩
  dsimp only at hr hkk ⊢
  have g116:¬ kk=j/\¬ j=kk/\¬ kk=j+1/\¬ j+1=kk/\¬ kk=j+9/\¬ j+9=kk/\¬ kk=j+25/\¬ j+25=kk:=by and_intros<;>omega
  refine rG ?_
  refine A3 fun K5 hK5=>?_
  refine cJ (fun h=>?_) fun h=>?_
  .simp at h
   obtain rfl:r=8:=by omega
   clear h
   apply A6
   apply hK4
   refine rF ?_ fun K h=>by simp [go_sem,hw];exact h
   refine ⟨(i+1,kk),?_,?_,?_⟩
   .exact ⟨by dsimp only;omega,by dsimp only;omega⟩
   .dsimp only;omega
   refine Weaker.fzT [_,_,_,_] _ (G s) 0 (by first|omega|(dsimp only;omega)) ?_ ?_ ?_
   .simp [go_sem,Cs.cs,Os'.cs]
   .first|(simp;done)|(simp;omega)
   simp [go_sem,zW5]
  simp at h
  have hr8:r<8:=by omega
  clear h
  have hwr:=wI r
  have g117:(r:Int)<8/\(0:Int)<=(r:Nat)/\r*2<=14/\r<=7:=by and_intros<;>omega
  have hrt:=zdm (r:=r) hiR
  have hrt2:∀ h,(rgT c.f.regs i r)[i]'h=rgU c.f.regs i r i:=fun h=>by simp [rgT,tab]
  apply A1
  apply hK5
  refine A3 fun K6 hK6=>?_
  apply A0
  refine rG ?_ fun K h=>by simp [go_sem,hr8,g117,g114,g116];exact h
  refine dE 6 [[],[],[],[],[3],[0,1],[0,1,2,3,4,5],[0,1,2,3,4,5,6]] fun K hK=>?_
  first|dsimp only [List.take,List.drop]|dsimp [List.take,List.drop]
  simp [go_sem,hr8,g117,g115,hin,hiR,hrt,hrt2,UF_ _ hr8,zW4,hrl,Z6_,g114,g116]
  apply hK
  apply hK6
  refine rF ?_ fun K h=>by simp [go_sem,hwr];exact h
  refine ⟨(r+1,kk+20),?_,?_,?_⟩
  .exact ⟨by dsimp only;omega,by dsimp only;omega⟩
  .dsimp only;omega
  refine Weaker.fzT [_,_,_,_,_] _ (G s) 0 (by first|omega|(dsimp only;omega)) ?_ ?_ ?_
  .simp [go_sem,g116]
  .first|(simp;done)|(simp;omega)
  simp [go_sem,hrt2,zW6 hg hr8,g116]
 simp at h
 obtain rfl:i=c.t.ths.length:=by omega
 clear h
 have hra:E1 (rgT c.f.regs c.t.ths.length 0)=E1 (X4_ c):=by rw [<-hrl];exact zW7 c
 rw [hra]
 apply A6
 apply hK2
 refine rG ?_ fun K h=>by simp [go_sem,g114];exact h
 refine A3 fun K7 hK7=>?_
 refine rG ?_ fun K h=>by simp [go_sem,E7,Tst.cs];exact h
 apply A0
 refine A9 (α:=Nat × Nat) (fun e=>⟨138,[(0,Y8 c.t of ws c.fr vg vcs),(4,.ptr j 0 0),(5,.ptr (j+1) 0 0),(7,.ptr (j+9) 0 0),(8,.sl (j+25) 0 c.t.ths.length),(13,.ptr jj 0 0),(88,.ro 2 (W7 c.t.locs)),(89,iV (c.t.locs.length:Nat)),(90,iV (e.1:Nat))],[(jj,.rows 8 [.agg (I4 (lcU c las e.1))]),(j+25,.rows 8 (E1 (X4_ c))),(j+9,.rows 16 [.agg (B5 (Zc_ kept co (O3 c co)))]),(j+1,.rows 16 [.agg (B5 co)]),(j,.rows 41 [.agg (F7 c kept (poP c) las)])]++G s,e.2⟩) (fun e=>e.1<=c.t.locs.length/\jj<e.2) (fun e=>c.t.locs.length-e.1) (0,jj+1) ?_ ?_ ?_
 .exact ⟨Nat.zero_le _,by dsimp only;omega⟩
 .refine Weaker.fzT [_,_,_,_,_] _ (G s) 0 (by first|omega|(dsimp only;omega)|exact Nat.le_refl _) ?_ ?_ ?_
  .simp [go_sem,Tst.cs,E7,g114]
  .first|(simp;done)|(simp;omega)
  simp [go_sem,zOj,g114]
 rintro ⟨i,kk⟩ ⟨hi,hkk⟩
 dsimp only at hi hkk ⊢
 have g118:¬ kk=j/\¬ j=kk/\¬ kk=j+1/\¬ j+1=kk/\¬ kk=j+9/\¬ j+9=kk/\¬ kk=j+25/\¬ j+25=kk/\¬ kk=jj/\¬ jj=kk:=by and_intros<;>omega
 refine rG ?_
 refine A3 fun K8 hK8=>?_
 refine cJ (fun h=>?_) fun h=>?_
 .simp at h
  obtain rfl:i=c.t.locs.length:=by omega
  clear h
  apply A6
  apply hK7
  have hmk:Pf Tryz.prog 141 [.rp c.t.cs 0,.ro 8 (E1 (X4_ c)),.agg (I4 fun q=>(Zd_ c las).getD q 0)] (.agg (stK (W5 c.t (X4_ c) fun q=>(Zd_ c las).getD q 0))):=zJc c.t ht4 (fun x hx=>by have:=hS.len x hx;omega) hS.rds hlo (X4_ c) (by unfold X4_;rw [length_map,hrl]) _
  have hmL:(W5 c.t (X4_ c) fun q=>(Zd_ c las).getD q 0).length=41:=ZY_ ht4 hlo _ _
  have heL:(X4_ c).length=c.t.ths.length:=by unfold X4_;rw [length_map,hrl]
  have hlca:=zW8 c las hlo
  have husT:=usT (X4_ c) c.t.ths.length heL
  refine dE 16 [[],[0],[0,1],[0,1,2],[],[4],[],[],[],[8],[8,9],[8,9,10],[],[],[8,9,10,11,12,13],[4,5,6,7,8,9,10,11,12,13,14],[0,1,2,3,4,5,6,7,8,9,10,11,12,13,14,15]] fun K hK=>?_
  first|dsimp only [List.take,List.drop]|dsimp [List.take,List.drop]
  simp [go_sem,C0 hl8,B3 hl8,B1 hl8,C4 hl8,B0,C2,E8,C1,E7,Tst.cs,hlca,g114]
  refine Xj_ hmk (r6 (S5 _)) 2 (by simp [go_sem,zJn,husT,UH_,zJv,Tst.cs,heL,g114]) ?_
  simp [go_sem,M6,W4,hmL,g114]
  refine ⟨hmL,?_⟩
  refine zJx (b:=rnC (⟨c,co,Zc_ kept co (O3 c co),W5 c.t (X4_ c) fun i=>(Zd_ c las).getD i 0⟩:Rn)) ?_ ?_
  .exact zX2 _ _ _ _ _ (M6 _) (M6 _) (by simp [M6,W4];have h9:=hmL;simp at h9;omega)
  refine Q7 (A:=[_,_,_,_,_]) (G:=G s) (hV.call s (⟨c,co,Zc_ kept co (O3 c co),W5 c.t (X4_ c) fun i=>(Zd_ c las).getD i 0⟩:Rn) _ hs (hQ _ (by rw [hjt];simp)) hc hmL (by omega)) fun k2 hk2=>?_
  simp [go_sem]
  apply hK
  refine ⟨.inl rfl,?_⟩
  rw [hjt]
  simp [go_sem]
  first
  | exact ⟨_,_,View.tail [] _ _,rfl,rfl⟩
  | exact ⟨_,_,View.tail [_] _ _,rfl,rfl⟩
  | exact ⟨_,_,View.tail [_,_] _ _,rfl,rfl⟩
  | exact ⟨_,_,View.tail [_,_,_] _ _,rfl,rfl⟩
  | exact ⟨_,_,View.tail [_,_,_,_] _ _,rfl,rfl⟩
  | exact ⟨_,_,View.tail [_,_,_,_,_] _ _,rfl,rfl⟩
  | exact ⟨_,_,View.tail [_,_,_,_,_,_] _ _,rfl,rfl⟩
  | exact ⟨_,_,View.tail [_,_,_,_,_,_,_] _ _,rfl,rfl⟩
  | exact ⟨_,_,View.tail [_,_,_,_,_,_,_,_] _ _,rfl,rfl⟩
 simp at h
 have hin:i<c.t.locs.length:=by omega
 clear h
 have hw:=wI i
 have g119:(0:Int)<=(i:Nat)/\(i:Int)<(c.t.locs.length:Nat)/\i<=7/\33+i<=40/\(i:Int)<8:=by and_intros<;>omega
 have hi8:i<8:=by omega
 obtain ⟨x,hx,hx'⟩:=E0 hin
 have hiA:i<las.length:=by omega
 obtain ⟨n,hn,hn'⟩:=E0 hiA
 obtain ⟨hn0,hn1⟩:=hlas i n hn
 have hcl:=zW2 (c:=c) (kept:=kept) (po:=poP c) hl8 hn
 apply A1
 apply hK8
 refine A3 fun K9 hK9=>?_
 apply A0
 refine rG ?_ fun K h=>by simp [go_sem,hin,g119,hx,hx',Xa_,Ini.cs,g114,g118];exact h
 refine rG ?_ fun K h=>by simp [go_sem,UF_ _ hi8,g119,hi8,Xa_,Ini.cs,g114,g118];exact h
 refine rG ?_ fun K h=>by simp [go_sem,g119,hi8,hcl,g114,g118];exact h
 refine rG ?_
 refine cJ (fun h=>?_) fun h=>?_
 .have hnp:¬ 0<n:=by simpa using h
  have hend:=zW9 (c:=c) hn hnp hx
  apply A1
  apply hK9
  refine rF ?_ fun K h=>by simp [go_sem,hw];exact h
  refine ⟨(i+1,kk+5),?_,?_,?_⟩
  .exact ⟨by dsimp only;omega,by dsimp only;omega⟩
  .dsimp only;omega
  refine Weaker.fzT [_,_,_,_,_,_] _ (G s) 0 (by first|omega|(dsimp only;omega)) ?_ ?_ ?_
  .simp [go_sem,Tst.cs,E7,Cs.cs,Os'.cs,g114,g118]
  .first|(simp;done)|(simp;omega)
  simp [go_sem,zJd hend,g114,g118]
 have hnp:0<n:=by simpa using h
 obtain ⟨q,hq⟩:∃ q:Nat,n=(q:Int)+1:=⟨(n-1).toNat,by omega⟩
 have hwn:IntKind.i64.wrap (n-1)=(q:Nat):=by rw [E4 (by omega) (by omega)];omega
 have hqW:q<c.f.f.write.length:=by have:=hc.fl.l2;omega
 have g120:(q:Int)<(c.f.f.write.length:Nat)/\(0:Int)<=(q:Nat):=by and_intros<;>omega
 obtain ⟨u,hu,hu'⟩:=E0 hqW
 have hend:=zOl (c:=c) hn hq hu
 refine rF ?_ fun K h=>by simp [go_sem,C0 hl8,B3 hl8,B1 hl8,C4 hl8,B0,C2,E8,C1,Cs.cs,Os'.cs,hwn,hqW,g120,hu,hu',g119,hi8,UF_ _ hi8,g114,g118];exact h
 apply hK9
 refine rF ?_ fun K h=>by simp [go_sem,hw];exact h
 refine ⟨(i+1,kk+5),?_,?_,?_⟩
 .exact ⟨by dsimp only;omega,by dsimp only;omega⟩
 .dsimp only;omega
 refine Weaker.fzT [_,_,_,_,_,_] _ (G s) 0 (by first|omega|(dsimp only;omega)) ?_ ?_ ?_
 .simp [go_sem,Tst.cs,E7,Cs.cs,Os'.cs,g114,g118]
 .first|(simp;done)|(simp;omega)
 simp [go_sem,zOk hend,g114,g118]
def zLz:Option Os'->V
 | none=>.val (.pointer none)
 | some f=>.rp f.cs 0
theorem zX3 (o:Option Os'):NL (zLz o):=by cases o with|none=>exact .val _|some f=>exact Vu_ f
theorem zJy (t:Tst):nO t=Zw_ t:=ZR_ 0 t.ths
theorem ze2 {t:Tst} (hS:SeaOk t) (reads:List Vl) (works:List Bool) (h1:reads.length=nO t) (h2:works.length=nO t):Pf Tryz.prog 112 [.rp t.cs 0,.ro 2 (vls reads),.ro 1 (bVs works)] (.rp (C9 t reads works).cs 0) :=
 zV8 t (by have:=hS.ths;omega) (fun l hl=>by have:=hS.len l hl;omega) hS.ins reads works (by rw [<-zJy,h1];exact Nat.le_refl _) (by rw [<-zJy,h2];exact Nat.le_refl _)
theorem zD7 {reads:List Vl} {works:List Bool} {n:Nat}:∀ (ls:List (List Ins)) (s:Os'),FlOk n s.f->FlOk n (Xp_ reads works ls s).f
 | [],_,h=>h
 | l::r,s,h=>zD7 r _ (Y0_ h)
theorem zD8 (t:Tst) (reads:List Vl) (works:List Bool):FlOk (nO t) (C9 t reads works).f:=by rw [zJy];exact zD7 _ _ (J8_ _)
theorem zR4 (t:Tst) (w:List Bool) (fr:List Int):∀ i,FlOk (nO t) (z8 t w fr i).f
 | 0=>zD8 _ _ _
 | _+1=>zD8 _ _ _
theorem zX4 (t:Tst) (f:Fl) (fr:List Int):(knT t f fr).length=nO t:=R6 ..
theorem zk0 (n:Nat):List.replicate n (V.agg [bV false,uV 0])=vls (List.replicate n zV):=Xm_ n
theorem W6 (a b:Int):(a != b)=!decide (a=b):=by rw [bne,G3]
theorem zX5 (S:List Nat) (H:A7) (d:Nat) (l:List Vl):(vls l).map (P6 (frz S H d))=vls l:=by
 unfold vls
 rw [map_map]
 apply map_congr_left
 intro x _
 show V.agg ([bV x.k,uV x.v].map (frz S H d))=_
 simp [go_sem,vlC]
theorem UO_ {t:Tst} {w:List Bool} {fr:List Int} {k:Nat} (hk:k<nO t) (h:JP_ (z8 t w fr (nO t)).f w fr k=true):U6 t w fr=none:=by
 unfold U6
 dsimp only
 split
 .rw [if_pos (List.any_eq_true.2 ⟨k,List.mem_range.2 hk,h⟩)]
 rfl
theorem zAn {t:Tst} {w:List Bool} {fr:List Int} (h:(z8 t w fr (nO t)).whole=false):U6 t w fr=none:=by unfold U6;dsimp only;rw [h];rfl
theorem zP9 {t:Tst} {w:List Bool} {fr:List Int} (hw:(z8 t w fr (nO t)).whole=true) (h:∀ k,k<nO t->JP_ (z8 t w fr (nO t)).f w fr k=false):U6 t w fr=some (z8 t w fr (nO t)):=by
 unfold U6
 dsimp only
 rw [if_pos hw,if_neg]
 rw [Bool.not_eq_true,any_eq_false]
 exact fun k hk=>by simp [h k (List.mem_range.1 hk)]
theorem ze3 {f : Fl} {w : List Bool} {fr : List Int} {k : Nat} {s x p : Int} {b : Bool} (hs : f.state[k]? = some s) (hx : fr[k]? = some x) (hw : w[k]? = some b) (hp : f.pair[k]? = some p) :
    JP_ f w fr k=(((!decide (s=1)&&(decide (0<=x)||b))||(decide (s=1)&&(decide (0<=x)&&!decide (f.state.getD x.toNat 0=1))))||(decide (s=1)&&(b&&decide (p=0)))):=by
  unfold JP_
  rw [show f.state.getD k 0=s by rw [List.getD,hs];rfl,show fr.getD k 0=x by rw [List.getD,hx];rfl,show w.getD k false=b by rw [List.getD,hw];rfl,show f.pair.getD k 0=p by rw [List.getD,hp];rfl]
theorem zJz (t:Tst) (hS:SeaOk t) (of:FuncId) (ws:List Bool) (fr:List Int) (vf:Value) (hwl:ws.length=nO t) (hfl:fr.length=nO t) (hfr:∀ (k:Nat) (x:Int),fr[k]?=some x->-1<=x/\x<nO t):Pf Tryz.prog 204 [.rp (E7 t (fnV of) ws fr (.val vf)) 0] (zLz (U6 t ws fr)):=by
 refine Pf.of_fn (.cons (VH_ t ws fr vf 0) .nil) (zX3 _) ?_
 have hn8:=hS.n8
 have hcn:(M5 0 t.ths).length=nO t:=rfl
 have g121:(0:Int)<=(nO t:Nat)/\(8:Int)*(nO t:Nat)<=281474976710656/\(16:Int)*(nO t:Nat)<=281474976710656/\((nO t:Nat):Int)<=9223372036854775807:=by and_intros<;>omega
 have hok:=zR4 t ws fr (nO t)
 have hsl:=hok.l1
 have hpl:=hok.l3
 refine B7 T_ok func204 rfl rfl ntmps204 rfl (by simp) ?_
 refine rG ?_
 refine R8 T_ok (by kernel_rfl) 14 [[],[0],[0,1],[0,1,2],[],[4],[4,5],[4,5,6],[4,5,6,7],[4,5,6,7,8],[],[10],[10,11],[10,11,12],[0,1,2,3,4,5,6,7,8,9,10,11,12,13],[0,1,2,3,4,5,6,7,8,9,10,11,12,13,14]] [(0,9),(1,9),(2,9),(3,9),(9,10),(9,11),(9,12),(9,13)] (by decide) (by decide) (by decide) fun K hK=>?_
 first|dsimp only [List.take,List.drop]|dsimp [List.take,List.drop]
 simp [go_sem,E7,hcn,g121]
 refine zHk [] [.rp t.cs 0,.ro 2 (vls (List.replicate (nO t) zV)),.ro 1 (bVs ws)] 2 0 (ze2 hS (List.replicate (nO t) zV) ws (by simp) hwl) (by simp [go_sem,zk0,take_of_length_le,zX5]) (by simp) (by simp) ?_
 simp [go_sem]
 apply hK
 refine A3 fun K1 hK1=>?_
 refine rG ?_ fun K h=>by simp [go_sem,E7,hcn];exact h
 apply A0
 refine A9 (α:=Nat × Nat) (fun a=>⟨120,[(0,.rp (E7 t (fnV of) ws fr (.val vf)) 0),(3,.rp (z8 t ws fr a.1).cs 0),(26,iV (nO t:Nat)),(27,iV (a.1:Nat))],[],a.2⟩) (fun a=>a.1<=nO t) (fun a=>nO t-a.1) (0,14) ?_ ?_ ?_
 .exact Nat.zero_le _
 .refine Weaker.fy 1 0 ?_ ?_
  ·(simp [go_sem,E7];try rfl)
  simp [go_sem]
 rintro ⟨i,j⟩ hi
 dsimp only at hi ⊢
 refine rG ?_
 refine A3 fun K2 hK2=>?_
 refine cK (fun h=>?_) fun h=>?_
 .simp at h
  have hin:i<nO t:=by omega
  clear h
  have hw:=wI i
  have hokI:=zR4 t ws fr i
  apply A1
  apply hK2
  refine A3 fun K3 hK3=>?_
  apply A0
  refine dE 11 [[],[0],[0,1],[0,1,2],[],[],[4,5],[],[7],[7,8],[7,8,9],[0,1,2,3,4,5,6,7,8,9,10],[0,1,2,3,4,5,6,7,8,9,10,11]] fun K hK=>?_
  first|dsimp only [List.take,List.drop]|dsimp [List.take,List.drop]
  simp [go_sem,E7]
  refine A5 ((zP5 t hS of ws fr vf (z8 t ws fr i) hokI hfl hfr).pf) ?_
  simp [go_sem,E7]
  refine A2 (ze2 hS _ ws (zX4 _ _ _) hwl) ?_
  simp [go_sem]
  apply hK
  apply hK3
  refine rF ?_ fun K h=>by simp [go_sem,hw];exact h
  refine ⟨(i+1,j+11),?_,?_,?_⟩
  .dsimp only;omega
  .dsimp only;omega
  refine Weaker.fy 1 0 ?_ ?_
  ·(simp [go_sem,E7];try rfl)
  simp [go_sem]
 simp at h
 obtain rfl:i=nO t:=by omega
 clear h
 apply A6
 apply hK1
 refine A3 fun K4 hK4=>?_
 refine rG ?_ fun K h=>by simp [go_sem,Os'.cs];exact h
 refine cK (fun h=>?_) fun h=>?_
 .have hst:=zAn (t:=t) (w:=ws) (fr:=fr) (by simpa using h)
  refine rG ?_
  refine A4 ?_
  simp [go_sem,hst,zLz]
 have hwh:(z8 t ws fr (nO t)).whole=true:=by simpa using h
 apply A1
 apply hK4
 refine A3 fun K5 hK5=>?_
 refine rG ?_ fun K h=>by simp [go_sem,E7];exact h
 apply A0
 refine A9 (α:=Nat × Nat) (fun b=>⟨120,[(0,.rp (E7 t (fnV of) ws fr (.val vf)) 0),(3,.rp (z8 t ws fr (nO t)).cs 0),(51,iV (nO t:Nat)),(50,.ro 1 (iVs fr)),(52,iV (b.1:Nat))],[],b.2⟩) (fun b=>b.1<=nO t/\∀ k,k<b.1->JP_ (z8 t ws fr (nO t)).f ws fr k=false) (fun b=>nO t-b.1) (0,j) ?_ ?_ ?_
 .exact ⟨Nat.zero_le _,fun k h=>absurd h (Nat.not_lt_zero _)⟩
 .refine Weaker.fy 1 0 ?_ ?_
  .simp [go_sem,E7,Os'.cs,hfl]
  simp [go_sem]
 rintro ⟨i,j2⟩ ⟨hi,hbd⟩
 dsimp only at hi hbd ⊢
 refine rG ?_
 refine A3 fun K6 hK6=>?_
 refine cJ (fun h=>?_) fun h=>?_
 .simp at h
  obtain rfl:i=nO t:=by omega
  clear h
  have hst:=zP9 hwh hbd
  apply A6
  apply hK5
  refine rG ?_
  refine A4 ?_
  simp [go_sem,hst,zLz]
 simp at h
 have hin:i<nO t:=by omega
 clear h
 have hw:=wI i
 have g122:(0:Int)<=(i:Nat)/\(i:Int)<(fr.length:Nat):=by and_intros<;>omega
 have hiF:i<fr.length:=by omega
 obtain ⟨x,hx,hx'⟩:=E0 hiF
 have hxr:=hfr i x hx
 have hiS:i<(z8 t ws fr (nO t)).f.state.length:=by omega
 have hiSI:(i:Int)<((z8 t ws fr (nO t)).f.state.length:Nat):=by omega
 obtain ⟨s,hs,hs'⟩:=E0 hiS
 have hiP:i<(z8 t ws fr (nO t)).f.pair.length:=by omega
 have hiPI:(i:Int)<((z8 t ws fr (nO t)).f.pair.length:Nat):=by omega
 obtain ⟨p,hp,hp'⟩:=E0 hiP
 have hiW:i<ws.length:=by omega
 have hiWI:(i:Int)<(ws.length:Nat):=by omega
 obtain ⟨wv,hb,hb'⟩:=E0 hiW
 have hbe:=ze3 hs hx hb hp
 apply A1
 apply hK6
 refine A3 fun K7 hK7=>?_
 apply A0
 refine rG ?_ fun K h=>by simp [go_sem,hiF,g122,hx,hx'];exact h
 refine rG ?_ fun K h=>by simp [go_sem,Os'.cs,hiS,hiSI,hs,hs',g122];exact h
 apply A0
 refine D8 T_ok (by decide) ⟨120,[(0,.rp (E7 t (fnV of) ws fr (.val vf)) 0),(3,.rp (z8 t ws fr (nO t)).cs 0),(51,iV (nO t:Nat)),(50,.ro 1 (iVs fr)),(52,iV (i:Nat)),(4,iV (i:Nat)),(5,iV x),(6,bV (decide (s=1))),(65,bV (!decide (s=1)&&(decide (0<=x)||wv)))],[],j2⟩ ?_ ?_
 .by_cases c1:s=1
  .simp [go_sem,c1,E7,hiW,hiWI,hb,hb',g122]
   refine Weaker.fw 1 0 ?_ ?_<;>simp [go_sem,c1,Os'.cs]
  by_cases c2:0<=x
  .simp [go_sem,c1,c2,E7,hiW,hiWI,hb,hb',g122]
   refine Weaker.fw 1 0 ?_ ?_<;>simp [go_sem,c1,c2,Os'.cs]
  simp [go_sem,c1,c2,E7,hiW,hiWI,hb,hb',g122]
  refine Weaker.fw 1 0 ?_ ?_<;>simp [go_sem,c1,c2,Os'.cs]
 skip
 refine cK (fun h=>?_) fun h=>?_
 .have hst:=UO_ hin (by rw [hbe,show (!decide (s=1)&&(decide (0<=x)||wv))=true from h];rfl)
  refine rG ?_
  refine A4 ?_
  simp [go_sem,hst,zLz]
 have hB1:(!decide (s=1)&&(decide (0<=x)||wv))=false:=h
 refine D8 T_ok (by decide) ⟨120,[(0,.rp (E7 t (fnV of) ws fr (.val vf)) 0),(3,.rp (z8 t ws fr (nO t)).cs 0),(51,iV (nO t:Nat)),(50,.ro 1 (iVs fr)),(52,iV (i:Nat)),(4,iV (i:Nat)),(5,iV x),(6,bV (decide (s=1))),(81,bV (decide (s=1)&&(decide (0<=x)&&!decide ((z8 t ws fr (nO t)).f.state.getD x.toNat 0=1))))],[],j2⟩ ?_ ?_
 .by_cases c1:s=1
  .by_cases c2:0<=x
   .obtain ⟨m,rfl⟩:=Int.eq_ofNat_of_zero_le (show 0<=x by omega)
    have hmS:m<(z8 t ws fr (nO t)).f.state.length:=by omega
    have hmSI:(m:Int)<((z8 t ws fr (nO t)).f.state.length:Nat):=by omega
    obtain ⟨y,hy,hy'⟩:=E0 hmS
    have hm00:(0:Int)<=(m:Nat):=by omega
    have hyd:(z8 t ws fr (nO t)).f.state.getD m 0=y:=by rw [List.getD,hy];rfl
    simp [go_sem,c1,c2,Os'.cs,hmS,hmSI,hy,hy',hm00,hyd,Int.toNat_natCast]
    refine Weaker.fw 1 0 ?_ ?_<;>simp [go_sem,c1,c2,E7,G3,W6,hmS,hmSI,hy,hy',hm00,hyd,Int.toNat_natCast]
   simp [go_sem,c1,c2,Os'.cs]
   refine Weaker.fw 1 0 ?_ ?_<;>simp [go_sem,c1,c2,E7,G3,W6]
  simp [go_sem,c1,Os'.cs]
  refine Weaker.fw 1 0 ?_ ?_<;>simp [go_sem,c1,E7,G3,W6]
 skip
 refine cK (fun h=>?_) fun h=>?_
 .have hst:=UO_ hin (by rw [hbe,show (decide (s=1)&&(decide (0<=x)&&!decide ((z8 t ws fr (nO t)).f.state.getD x.toNat 0=1)))=true from h];simp)
  refine rG ?_
  refine A4 ?_
  simp [go_sem,hst,zLz]
 have hB2:(decide (s=1)&&(decide (0<=x)&&!decide ((z8 t ws fr (nO t)).f.state.getD x.toNat 0=1)))=false:=h
 refine D8 T_ok (by decide) ⟨120,[(0,.rp (E7 t (fnV of) ws fr (.val vf)) 0),(3,.rp (z8 t ws fr (nO t)).cs 0),(51,iV (nO t:Nat)),(50,.ro 1 (iVs fr)),(52,iV (i:Nat)),(4,iV (i:Nat)),(5,iV x),(6,bV (decide (s=1))),(97,bV (decide (s=1)&&(wv&&decide (p=0))))],[],j2⟩ ?_ ?_
 .by_cases c1:s=1
  .by_cases c2:wv=true
   .simp [go_sem,c1,c2,E7,Os'.cs,hiW,hiWI,hb,hb',g122,hiP,hiPI,hp,hp']
    refine Weaker.fw 1 0 ?_ ?_<;>simp [go_sem,c1,c2,G3,W6]
   simp [go_sem,c1,c2,E7,Os'.cs,hiW,hiWI,hb,hb',g122,hiP,hiPI,hp,hp']
   refine Weaker.fw 1 0 ?_ ?_<;>simp [go_sem,c1,c2,G3,W6]
  simp [go_sem,c1,E7,Os'.cs,hiW,hiWI,hb,hb',g122,hiP,hiPI,hp,hp']
  refine Weaker.fw 1 0 ?_ ?_<;>simp [go_sem,c1,G3,W6]
 skip
 refine cK (fun h=>?_) fun h=>?_
 .have hst:=UO_ hin (by rw [hbe,show (decide (s=1)&&(wv&&decide (p=0)))=true from h];simp)
  refine rG ?_
  refine A4 ?_
  simp [go_sem,hst,zLz]
 have hbad:JP_ (z8 t ws fr (nO t)).f ws fr i=false:=by rw [hbe,hB1,hB2,show (decide (s=1)&&(wv&&decide (p=0)))=false from h];rfl
 apply A1
 apply hK7
 refine rF ?_ fun K h=>by simp [go_sem,hw];exact h
 refine ⟨(i+1,j2),?_,?_,?_⟩
 .refine ⟨by dsimp only;omega,fun k h=>?_⟩
  by_cases e:k=i
  .subst e;exact hbad
  exact hbd k (by dsimp only at h;omega)
 .dsimp only;omega
 refine Weaker.fy 1 0 ?_ ?_
 .simp [go_sem,E7,Os'.cs]
 simp [go_sem]
def sdA (n:Int):Int:=if n=1\/n=3 then 1 else 0
def sdB (n:Int):Int:=if n=2\/n=3 then 2 else 0
theorem zR5 {n:Int} (hn:n=1\/n=2\/n=3) (K:V->Prop):J2 .and .i64 n 1 K=K (iV (sdA n))/\J2 .and .i64 n 2 K=K (iV (sdB n)):=by
 rcases hn with rfl|rfl|rfl
 .exact ⟨zLu,zLt⟩
 .exact ⟨zLw,zLv⟩
 exact ⟨zLy,zLx⟩
abbrev mR (c:Cs):Nat:=D7 (c.at_ fun x=>rdB x.op)
abbrev mW (c:Cs):Nat:=D7 (c.at_ fun x=>wrB x.op)
def ahU (c:Cs) (i s k q:Nat):Bool:=decide (q<k)&&(decide ((c.op q).1=i)&&decide ((c.op q).2<s))
def bhU (c:Cs) (i s k q:Nat):Bool:=decide (q<k)&&(decide ((c.op q).1=i)&&!decide ((c.op q).2<s))
theorem zPa (c:Cs) (i s:Nat):D7 (ahU c i s 0)=0:=D3.2 fun q _=>by simp [ahU]
theorem zPb (c:Cs) (i s:Nat):D7 (bhU c i s 0)=0:=D3.2 fun q _=>by simp [bhU]
theorem ze4 {f:Nat->Bool} {k:Nat} (h:f k=false):D7 (fun q=>decide (q<k)&&f q)=D7 (fun q=>decide (q<k+1)&&f q):=L7 fun q _=>by
 rw [Bool.eq_iff_iff]
 simp only [Bool.and_eq_true,decide_eq_true_eq]
 constructor
 .rintro ⟨h1,h2⟩;exact ⟨by omega,h2⟩
 rintro ⟨h1,h2⟩
 refine ⟨?_,h2⟩
 by_cases e:q=k
 .subst e;rw [h] at h2;cases h2
 omega
theorem zR6 {f:Nat->Bool} {k:Nat} (h:f k=true) (hk:k<16):D7 (fun q=>decide (q<k)&&f q) ||| pw k=D7 (fun q=>decide (q<k+1)&&f q):=by
 rw [XW_ hk,V8]
 refine L7 fun q _=>?_
 rw [Bool.eq_iff_iff]
 simp only [Bool.or_eq_true,Bool.and_eq_true,decide_eq_true_eq,beq_iff_eq]
 constructor
 .rintro (⟨h1,h2⟩|rfl)
  .exact ⟨by omega,h2⟩
  exact ⟨by omega,h⟩
 rintro ⟨h1,h2⟩
 by_cases e:q=k
 .exact .inr e
 exact .inl ⟨by omega,h2⟩
theorem zR7 {c:Cs} {i s k:Nat} (h:¬ ((c.op k).1=i/\(c.op k).2<s)):D7 (ahU c i s k)=D7 (ahU c i s (k+1)):=ze4 (f:=fun q=>decide ((c.op q).1=i)&&decide ((c.op q).2<s)) (by rw [Bool.eq_false_iff];simpa using h)
theorem zX6 {c:Cs} {i s k:Nat} (h:(c.op k).1=i) (h':(c.op k).2<s) (hk:k<16):D7 (ahU c i s k) ||| pw k=D7 (ahU c i s (k+1)):=zR6 (f:=fun q=>decide ((c.op q).1=i)&&decide ((c.op q).2<s)) (by simp [h,h']) hk
theorem zR8 {c:Cs} {i s k:Nat} (h:¬ ((c.op k).1=i/\¬ (c.op k).2<s)):D7 (bhU c i s k)=D7 (bhU c i s (k+1)):=ze4 (f:=fun q=>decide ((c.op q).1=i)&&!decide ((c.op q).2<s)) (by rw [Bool.eq_false_iff];simpa using h)
theorem zX7 {c:Cs} {i s k:Nat} (h:(c.op k).1=i) (h':¬ (c.op k).2<s) (hk:k<16):D7 (bhU c i s k) ||| pw k=D7 (bhU c i s (k+1)):=zR6 (f:=fun q=>decide ((c.op q).1=i)&&!decide ((c.op q).2<s)) (by simp [h] ;omega) hk
theorem zK0 (c:Cs) (i:Nat):(fun x y=>zA5 c i x y||zEw c i 0 x y)=zA5 c i:=by funext x y;simp [zEw]
theorem Qu_ (c:Cs) (i s x y:Nat):zEw c i (s+1) x y=(zEw c i s x y||zg4 c i s x y):=by simp [zEw,range_succ]
theorem zK1 {c:Cs} {i:Nat} {l:List Ins} (h:c.t.ths[i]?=some l):(fun x y=>zA5 c i x y||zEw c i l.length x y)=zA5 c (i+1):=by
 funext x y
 simp [zA5,range_succ,List.getD,h]
theorem zK2 (c:Cs):zA5 c 0=fun _ _=>false:=by funext x y;simp [zA5]
theorem ze5 {t:Tst} {i s:Nat} {l:List Ins} {x:Ins} (h:t.ths[i]?=some l) (hx:l[s]?=some x):Yi_ t (i,s)=x:=by simp [Yi_,List.getD,h,hx]
theorem zR9 {c:Cs} {i s:Nat} (h:V7_ c i s=false):B5 (fun x y=>zA5 c i x y||zEw c i s x y)=B5 (fun x y=>zA5 c i x y||zEw c i (s+1) x y):=C3 fun x y=>by
 rw [Qu_]
 unfold zg4
 rw [h];simp
theorem zX8 {c:Cs} {i s:Nat} {x:Ins} (h:V7_ c i s=true) (hx:Yi_ c.t (i,s)=x):B5 (fun a b=>(zA5 c i a b||zEw c i s a b)||((ahU c i s c.n a&&V6_ c x.pred a)&&(bhU c i s c.n b&&V6_ c x.succ b)))=B5 (fun x y=>zA5 c i x y||zEw c i (s+1) x y):=C3 fun a b=>by
 rw [Qu_]
 unfold zg4 zQl zIw ahU bhU
 rw [h,hx]
 simp [Bool.or_assoc]
theorem zK3 (c:Cs) (n:Int) (hn:n=1\/n=2\/n=3):Pf Tryz.prog 116 [iV n,.rp [.val (.int .u16 (mR c))] 0,.rp [.val (.int .u16 (mW c))] 0] (.val (.int .u16 (D7 (V6_ c n)))):=by
 refine Pf.of_fn (.cons (.val _) (.cons (.rp (.cons (.val _) .nil)) (.cons (.rp (.cons (.val _) .nil)) .nil))) (.val _) ?_
 have hA:=fun K=>(zR5 hn K).1
 have hB:=fun K=>(zR5 hn K).2
 refine B7 T_ok func116 rfl rfl ntmps116 rfl (by simp) ?_
 refine rG ?_
 refine rG ?_
 refine A3 fun K1 hK1=>?_
 refine rG ?_ fun K h=>by simp [go_sem,hA];exact h
 refine cK (fun h=>?_) fun h=>?_
 .have h1:n=1\/n=3:=by unfold sdA at h;split at h;assumption;simp at h
  refine rF ?_
  apply hK1
  refine A3 fun K2 hK2=>?_
  refine rG ?_ fun K h=>by simp [go_sem,hB];exact h
  refine cK (fun h=>?_) fun h=>?_
  .have h2:n=2\/n=3:=by unfold sdB at h;split at h;assumption;simp at h
   refine rF ?_ fun K h=>by simp [go_sem,V8];exact h
   apply hK2
   refine rG ?_
   refine A4 ?_
   simp [go_sem]
   first|exact congrArg Nat.cast (L7 fun k _=>by unfold V6_;simp [h1,h2,Cs.rd,Cs.wr])|(exfalso;omega)
  have h2:¬ (n=2\/n=3):=fun hc=>by unfold sdB at h;rw [if_pos hc] at h;simp at h
  apply A1
  apply hK2
  refine rG ?_
  refine A4 ?_
  simp [go_sem]
  first|exact congrArg Nat.cast (L7 fun k _=>by unfold V6_;simp [h1,h2,Cs.rd,Cs.wr])|(exfalso;omega)
 have h1:¬ (n=1\/n=3):=fun hc=>by unfold sdA at h;rw [if_pos hc] at h;simp at h
 apply A1
 apply hK1
 refine A3 fun K3 hK3=>?_
 refine rG ?_ fun K h=>by simp [go_sem,hB];exact h
 refine cK (fun h=>?_) fun h=>?_
 .have h2:n=2\/n=3:=by unfold sdB at h;split at h;assumption;simp at h
  refine rF ?_ fun K h=>by simp [go_sem,V8];exact h
  apply hK3
  refine rG ?_
  refine A4 ?_
  simp [go_sem]
  first|exact congrArg Nat.cast (L7 fun k _=>by unfold V6_;simp [h1,h2,Cs.rd,Cs.wr])|(exfalso;omega)
 have h2:¬ (n=2\/n=3):=fun hc=>by unfold sdB at h;rw [if_pos hc] at h;simp at h
 apply A1
 apply hK3
 refine rG ?_
 refine A4 ?_
 simp [go_sem]
 first|exact congrArg Nat.cast (L7 fun k _=>by unfold V6_;simp [h1,h2,Cs.rd,Cs.wr])|(exfalso;omega)
theorem zK4 (c:Cs) (hc:CsOk c):Pf Tryz.prog 60 [.rp c.cs 0] (.agg (B5 (zkv c))):=by
 refine Pf.of_fn (.cons (Z9_ c) .nil) (.agg (D9 _)) ?_
 have hn8:=hc.n8
 have hcn:c.ops.length=c.n:=rfl
 have ht4:=hc.ths
 have hll:=hc.left
 refine B7 T_ok func60 rfl rfl ntmps60 rfl (by simp) ?_
 refine rG ?_
 refine rK fun K hK=>?_
 simp [go_sem]
 refine A2 (Y6_ c hc) ?_
 simp [go_sem]
 refine A2 (U2 c hc) ?_
 simp [go_sem]
 apply hK
 refine rG ?_
 refine rG ?_
 refine A3 fun K1 hK1=>?_
 refine rG ?_ fun K h=>by simp [go_sem,Cs.cs,Tst.cs];exact h
 apply A0
 refine A9 (α:=Nat × Nat) (fun a=>⟨106,[(0,.rp c.cs 0),(2,.ptr 0 0 0),(5,.fn (.func 116) [] [.ptr 1 0 0,.ptr 2 0 0]),(6,.ptr 3 0 0),(26,.ro 1 (N3 c.t.ths)),(27,iV (c.t.ths.length:Nat)),(28,iV (a.1:Nat))],[(3,.rows 16 [.agg (B5 (zA5 c a.1))]),(2,.rows 1 [.val (.int .u16 (mW c))]),(1,.rows 1 [.val (.int .u16 (mR c))]),(0,.rows 16 [.agg (B5 fun _ _=>false)])],a.2⟩) (fun a=>a.1<=c.t.ths.length/\3<a.2) (fun a=>c.t.ths.length-a.1) (0,4) ?_ ?_ ?_
 .exact ⟨Nat.zero_le _,by dsimp only;omega⟩
 .refine Weaker.fy 1 0 ?_ ?_
  .simp [go_sem,Cs.cs,Tst.cs]
  simp [go_sem,zK2]
 rintro ⟨i,j0⟩ ⟨hi,hj0⟩
 dsimp only at hi hj0 ⊢
 refine rG ?_
 refine A3 fun K2 hK2=>?_
 refine cJ (fun h=>?_) fun h=>?_
 .simp at h
  obtain rfl:i=c.t.ths.length:=by omega
  clear h
  apply A6
  apply hK1
  refine rG ?_
  refine A4 ?_
  simp [go_sem]
  rfl
 simp at h
 have hin:i<c.t.ths.length:=by omega
 clear h
 have hinI:(i:Int)<(c.t.ths.length:Nat):=by omega
 obtain ⟨l,hx,hx'⟩:=E0 hin
 have hi0:(0:Int)<=(i:Nat):=by omega
 have hw:=wI i
 have hl8:=hc.len l (List.mem_of_getElem? hx)
 have hfe:=hc.fen l (List.mem_of_getElem? hx)
 have hlL:i<c.f.left.length:=by omega
 obtain ⟨m,hm,hm'⟩:=E0 hlL
 obtain ⟨hm0,hm1⟩:=hc.leU i m hm
 have hlI:(i:Int)<(c.f.left.length:Nat):=by omega
 apply A1
 apply hK2
 refine A3 fun K3 hK3=>?_
 apply A0
 refine rG ?_ fun K h=>by simp [go_sem,hin,hinI,hx,hx',hi0];exact h
 refine rG ?_
 apply A0
 refine A9 (α:=Nat × Nat) (fun b=>⟨106,[(0,.rp c.cs 0),(2,.ptr 0 0 0),(5,.fn (.func 116) [] [.ptr 1 0 0,.ptr 2 0 0]),(6,.ptr 3 0 0),(26,.ro 1 (N3 c.t.ths)),(27,iV (c.t.ths.length:Nat)),(28,iV (i:Nat)),(7,iV (i:Nat)),(33,.ro 13 (W0 l)),(34,iV (l.length:Nat)),(35,iV (b.1:Nat))],[(3,.rows 16 [.agg (B5 (fun x y=>zA5 c i x y||zEw c i b.1 x y))]),(2,.rows 1 [.val (.int .u16 (mW c))]),(1,.rows 1 [.val (.int .u16 (mR c))]),(0,.rows 16 [.agg (B5 fun _ _=>false)])],b.2⟩) (fun b=>b.1<=l.length/\3<b.2) (fun b=>l.length-b.1) (0,j0) ?_ ?_ ?_
 .exact ⟨Nat.zero_le _,hj0⟩
 .refine Weaker.fy 1 0 ?_ ?_<;>simp [go_sem,zK0]
 rintro ⟨s,j⟩ ⟨hs,hj⟩
 dsimp only at hs hj ⊢
 have g123:¬ j=0/\¬ 0=j/\¬ j=1/\¬ 1=j/\¬ j=2/\¬ 2=j/\¬ j=3/\¬ 3=j:=by and_intros<;>omega
 refine rG ?_
 refine A3 fun K4 hK4=>?_
 refine cJ (fun h=>?_) fun h=>?_
 .simp at h
  obtain rfl:s=l.length:=by omega
  clear h
  apply A6
  apply hK3
  refine rF ?_ fun K h=>by simp [go_sem,hw];exact h
  refine ⟨(i+1,j),?_,?_,?_⟩
  .exact ⟨by dsimp only;omega,by dsimp only;omega⟩
  .dsimp only;omega
  refine Weaker.fy 1 0 ?_ ?_
  .simp [go_sem,Cs.cs,Os'.cs]
  simp [go_sem,zK1 hx]
 simp at h
 have hsn:s<l.length:=by omega
 clear h
 have hsI:(s:Int)<(l.length:Nat):=by omega
 obtain ⟨x,hg,hg'⟩:=E0 hsn
 have hs0:(0:Int)<=(s:Nat):=by omega
 have hws:=wI s
 have hxx:Yi_ c.t (i,s)=x:=ze5 hx hg
 have hbt:=zD2 hm0 hm1 (show s<64 by omega)
 have hlg:c.f.left.getD i 0=m:=by rw [List.getD,hm];rfl
 apply A1
 apply hK4
 refine A3 fun K5 hK5=>?_
 apply A0
 refine rG ?_ fun K h=>by simp [go_sem,hsn,hsI,hg,hg',hs0,B6,g123];exact h
 refine A3 fun K6 hK6=>?_
 refine rK fun K hK=>?_
 by_cases h15:x.op=15
 .simp [go_sem,Cs.cs,Os'.cs,Ins.cs,h15,hlL,hlI,hm,hm',hi0,hs0,hbt,g123]
  apply hK
  refine cK (fun h=>?_) fun h=>?_
  .have hfn:V7_ c i s=false:=by unfold V7_;rw [hlg];cases hB:R7 m s with|false=>(rw [hB] at h;simp at h)|true=>simp
   apply A6
   apply hK5
   refine rF ?_ fun K h=>by simp [go_sem,hws];exact h
   refine ⟨(s+1,j+1),?_,?_,?_⟩
   .exact ⟨by dsimp only;omega,by dsimp only;omega⟩
   .dsimp only;omega
   refine Weaker.fy 1 0 ?_ ?_
   .simp [go_sem,Cs.cs,Os'.cs,g123]
   simp [go_sem,zR9 hfn,g123]
  have hfy:V7_ c i s=true:=by unfold V7_;rw [hlg,hxx,h15];cases hB:R7 m s with|true=>(rw [hB] at h;simp at h)|false=>rfl
  obtain ⟨hp,hq⟩:=hfe x (List.mem_of_getElem? hg) h15
  apply A1
  apply hK6
  refine rG ?_
  refine A3 fun K7 hK7=>?_
  refine rG ?_ fun K h=>by simp [go_sem,Cs.cs,hcn];exact h
  apply A0
  refine A9 (α:=Nat × Nat) (fun e=>⟨106,[(0,.rp c.cs 0),(2,.ptr 0 0 0),(5,.fn (.func 116) [] [.ptr 1 0 0,.ptr 2 0 0]),(6,.ptr 3 0 0),(26,.ro 1 (N3 c.t.ths)),(27,iV (c.t.ths.length:Nat)),(28,iV (i:Nat)),(7,iV (i:Nat)),(33,.ro 13 (W0 l)),(34,iV (l.length:Nat)),(35,iV (s:Nat)),(9,iV (s:Nat)),(10,.ptr j 0 0),(11,.val (.int .u16 (D7 (ahU c i s e.1)))),(12,.val (.int .u16 (D7 (bhU c i s e.1)))),(62,.ro 2 (d0 c.ops)),(63,iV (c.n:Nat)),(64,iV (e.1:Nat))],[(j,.rows 13 [.agg x.cs]),(3,.rows 16 [.agg (B5 (fun x y=>zA5 c i x y||zEw c i s x y))]),(2,.rows 1 [.val (.int .u16 (mW c))]),(1,.rows 1 [.val (.int .u16 (mR c))]),(0,.rows 16 [.agg (B5 fun _ _=>false)])],e.2⟩) (fun e=>e.1<=c.n/\j<e.2) (fun e=>c.n-e.1) (0,j+1) ?_ ?_ ?_
  .exact ⟨Nat.zero_le _,by dsimp only;omega⟩
  .refine Weaker.fy 1 0 ?_ ?_
   .simp [go_sem,Cs.cs,Os'.cs,zPa,zPb,g123]
   simp [go_sem,Ins.cs,h15,g123]
  rintro ⟨k,jj⟩ ⟨hk,hjj⟩
  dsimp only at hk hjj ⊢
  have g124:¬ jj=0/\¬ 0=jj/\¬ jj=1/\¬ 1=jj/\¬ jj=2/\¬ 2=jj/\¬ jj=3/\¬ 3=jj/\¬ jj=j/\¬ j=jj:=by and_intros<;>omega
  refine rG ?_
  refine A3 fun K8 hK8=>?_
  refine cJ (fun h=>?_) fun h=>?_
  .simp at h
   obtain rfl:k=c.n:=by omega
   clear h
   apply A6
   apply hK7
   refine dE 14 [[],[],[],[],[3],[2,3,4],[1,2,3,4,5],[],[],[],[9],[2,3,4,5,8,9,10],[2,3,4,5,7,8,9,10,11],[1,2,3,4,5,6,7,8,9,10,11,12],[0,1,2,3,4,5,6,7,8,9,10,11,12,13],[0,1,2,3,4,5,6,7,8,9,10,11,12,13,14]] fun K hK=>?_
   first|dsimp only [List.take,List.drop]|dsimp [List.take,List.drop]
   simp [go_sem,Ins.cs,g123,g124]
   refine F6 (zK3 c x.pred hp) 1 (by simp [go_sem,Ins.cs,g123]) ?_
   simp [go_sem,Ins.cs,q9,g123,g124]
   refine F6 (zK3 c x.succ hq) 1 (by simp [go_sem,Ins.cs,g123]) ?_
   simp [go_sem,Ins.cs,q9,g123,g124]
   refine A5 (G8 _ _) ?_
   simp [go_sem,g123,g124]
   refine A2 (zEk _ _) ?_
   simp [go_sem,g123,g124]
   apply hK
   apply hK5
   refine rF ?_ fun K h=>by simp [go_sem,hws];exact h
   refine ⟨(s+1,jj+14),?_,?_,?_⟩
   .exact ⟨by dsimp only;omega,by dsimp only;omega⟩
   .dsimp only;omega
   refine Weaker.fy 1 0 ?_ ?_
   .simp [go_sem,Cs.cs,Os'.cs,g123]
   simp [go_sem,zX8 hfy hxx,g123,g124]
  simp at h
  have hkn:k<c.n:=by omega
  clear h
  have hwk:=wI k
  have hk16:k<16:=by omega
  have hk16I:(k:Int)<16:=by omega
  have hmr2:=zGt hk16
  have g125:((pw k:Nat):Int)<65536/\(0:Int)<=((pw k:Nat):Int):=by and_intros<;>omega
  obtain ⟨lk,⟨o1k,o2k⟩,⟨a1k,a2k,a3k⟩,⟨b1k,b2k,b3k⟩⟩:=opF hc hkn
  have g126:((c.op k).1:Int)<(c.t.ths.length:Nat)/\((c.op k).2:Int)<(lk.length:Nat)/\(0:Int)<=((c.op k).1:Nat)/\(0:Int)<=((c.op k).2:Nat)/\(0:Int)<=(k:Nat):=by and_intros<;>omega
  have hcnk:c.ops.length=c.n:=rfl
  have kIk:(k:Int)<(c.n:Nat):=by omega
  have kNk:k<c.n:=hkn
  have o3k:(d0 c.ops)[k]?=some (.agg [iV ((c.op k).1:Nat),iV ((c.op k).2:Nat)]):=by rw [O0,o1k];rfl
  apply A1
  apply hK8
  refine A3 fun K9 hK9=>?_
  apply A0
  refine rG ?_ fun K h=>by simp [go_sem,o1k,o2k,o3k,a1k,a2k,a3k,b1k,b2k,b3k,g126,kIk,kNk,hcnk,g123,g124];exact h
  apply A0
  refine rG ?_ fun K h=>by simp [go_sem,g123,g124];exact h
  refine cK (fun h=>?_) fun h=>?_
  .have h9:¬ ((c.op k).1:Int)=(i:Nat):=by simpa using h
   have hth:¬ (c.op k).1=i:=by omega
   have han:¬ ((c.op k).1=i/\(c.op k).2<s):=fun hc=>hth hc.1
   have hbn:¬ ((c.op k).1=i/\¬ (c.op k).2<s):=fun hc=>hth hc.1
   apply A1
   apply hK9
   refine rF ?_ fun K h=>by simp [go_sem,hwk];exact h
   refine ⟨(k+1,jj+1),?_,?_,?_⟩
   .exact ⟨by dsimp only;omega,by dsimp only;omega⟩
   .dsimp only;omega
   refine Weaker.fy 1 0 ?_ ?_
   .simp [go_sem,zR7 han,zR8 hbn,g123,g124]
   simp [go_sem,g123,g124]
  have h9:((c.op k).1:Int)=(i:Nat):=by simpa using h
  have hth:(c.op k).1=i:=by omega
  refine rG ?_ fun K h=>by simp [go_sem,g123,g124];exact h
  refine cK (fun h=>?_) fun h=>?_
  .have h8:((c.op k).2:Int)<(s:Nat):=by simpa using h
   have hat:(c.op k).2<s:=by omega
   have hbn:¬ ((c.op k).1=i/\¬ (c.op k).2<s):=fun hc=>hc.2 hat
   refine rF ?_ fun K h=>by simp [go_sem,g126,hk16,hk16I,g125,zX6 hth hat hk16];exact h
   apply hK9
   refine rF ?_ fun K h=>by simp [go_sem,hwk];exact h
   refine ⟨(k+1,jj+1),?_,?_,?_⟩
   .exact ⟨by dsimp only;omega,by dsimp only;omega⟩
   .dsimp only;omega
   refine Weaker.fy 1 0 ?_ ?_
   .simp [go_sem,zR8 hbn,g123,g124]
   simp [go_sem,g123,g124]
  have h8:¬ ((c.op k).2:Int)<(s:Nat):=by simpa using h
  have hat:¬ (c.op k).2<s:=by omega
  have han:¬ ((c.op k).1=i/\(c.op k).2<s):=fun hc=>hat hc.2
  refine rF ?_ fun K h=>by simp [go_sem,g126,hk16,hk16I,g125,zX7 hth hat hk16];exact h
  apply hK9
  refine rF ?_ fun K h=>by simp [go_sem,hwk];exact h
  refine ⟨(k+1,jj+1),?_,?_,?_⟩
  .exact ⟨by dsimp only;omega,by dsimp only;omega⟩
  .dsimp only;omega
  refine Weaker.fy 1 0 ?_ ?_
  .simp [go_sem,zR7 han,g123,g124]
  simp [go_sem,g123,g124]
 simp [go_sem,Cs.cs,Os'.cs,Ins.cs,h15,g123]
 apply hK
 refine cJ (fun h=>?_) fun h=>?_
 .simp at h
 have hfn:V7_ c i s=false:=by unfold V7_;rw [hxx];simp [h15]
 apply A6
 apply hK5
 refine rF ?_ fun K h=>by simp [go_sem,hws];exact h
 refine ⟨(s+1,j+1),?_,?_,?_⟩
 .exact ⟨by dsimp only;omega,by dsimp only;omega⟩
 .dsimp only;omega
 refine Weaker.fy 1 0 ?_ ?_
 .simp [go_sem,Cs.cs,Os'.cs,g123]
 simp [go_sem,zR9 hfn,g123]
theorem zK5 (p:Nat->Nat->Bool):(∀ x,x∈B5 p->x.one=true)=True:=eq_true fun x hx=>by obtain ⟨a,_,rfl⟩:=List.mem_map.1 hx;rfl
def rmU (c:Cs) (a b x y:Nat):Bool:=JN_ c x y&&!upR (fun u v=>JN_ c u v&&zIx c u v) a b x y
section
variable {c:Cs} {x y:Nat}
theorem zK6 (h:JN_ c x y=true):x<c.n/\y<c.n:=by
 unfold JN_ zg5 lcP at h
 simp only [Bool.and_eq_true,decide_eq_true_eq] at h
 exact ⟨h.1.1.2.1.1,h.1.1.2.1.2⟩
theorem zX9:B5 (rmU c 0 0)=B5 (JN_ c):=C3 fun x y=>by unfold rmU upR;simp
theorem zRa {i b:Nat}:rmU c i b i b=JN_ c i b:=by unfold rmU upR;simp
theorem zRb {i b:Nat} (h:JN_ c i b=true) (h2:zIx c i b=true):B5 (fun x y=>rmU c i b x y&&!(false||(decide ((x:Int)=(i:Nat))&&decide ((y:Int)=(b:Nat)))))=B5 (rmU c i (b+1)):=C3 fun x y=>by
 unfold rmU upR
 rw [Bool.eq_iff_iff]
 simp only [Bool.false_or,Bool.and_eq_true,Bool.not_eq_true',Bool.and_eq_false_iff,Bool.or_eq_false_iff,decide_eq_false_iff_not]
 constructor
 .rintro ⟨⟨h1,h3⟩,h4⟩
  refine ⟨h1,?_⟩
  rcases h3 with h3|⟨h3,h5⟩
  .exact .inl h3
  right;refine ⟨h3,?_⟩;omega
 rintro ⟨h1,h3⟩
 rcases h3 with h3|⟨h3,h5⟩
 .refine ⟨⟨h1,.inl h3⟩,?_⟩
  by_cases e:x=i/\y=b
  .obtain ⟨rfl,rfl⟩:=e
   rcases h3 with h3|h3
   .rw [h] at h3;cases h3
   rw [h2] at h3;cases h3
  omega
 refine ⟨⟨h1,.inr ⟨h3,by omega⟩⟩,by omega⟩
theorem zXa {i b:Nat} (h:JN_ c i b=true) (h2:zIx c i b=true):B5 (rmU c i (b+1))=B5 (fun x y=>rmU c i b x y&&(!decide ((x:Int)=(i:Nat))||!decide ((y:Int)=(b:Nat)))):=by
 rw [<-zRb h h2]
 exact C3 fun x y=>by simp
theorem ze6 {i b:Nat} (h:¬ (JN_ c i b=true/\zIx c i b=true)):B5 (rmU c i b)=B5 (rmU c i (b+1)):=C3 fun x y=>by
 unfold rmU
 congr 2
 have:=zCr (q:=fun u v=>JN_ c u v&&zIx c u v) (a:=i) (b:=b) (by rw [Bool.eq_false_iff];simpa using h)
 unfold upR
 rw [Bool.eq_iff_iff]
 simp only [Bool.and_eq_true,Bool.or_eq_true,decide_eq_true_eq]
 constructor
 .rintro ⟨h1,h2⟩;exact ⟨h1,by omega⟩
 rintro ⟨h1,h2⟩
 refine ⟨h1,?_⟩
 by_cases e:x=i/\y=b
 .obtain ⟨rfl,rfl⟩:=e;exact absurd h1 h
 omega
theorem ze7 {i:Nat}:B5 (rmU c i c.n)=B5 (rmU c (i+1) 0):=C3 fun x y=>by
 unfold rmU
 cases hu:JN_ c x y with
 | false=>rfl
 | true =>
  have:=(zK6 hu).2
  congr 2
  unfold upR
  rw [Bool.eq_iff_iff]
  simp only [Bool.and_eq_true,Bool.or_eq_true,decide_eq_true_eq]
  constructor
  .rintro ⟨h1,h2⟩;exact ⟨h1,by omega⟩
  rintro ⟨h1,h2⟩;exact ⟨h1,by omega⟩
theorem ze8:B5 (rmU c c.n 0)=B5 (zg6 c):=C3 fun x y=>by
 unfold rmU zg6 upR
 cases hu:JN_ c x y with
 | false=>rfl
 | true =>
  have:=(zK6 hu).1
  simp [this,hu]
end
theorem zK7 (c:Cs) (hc:CsOk c):Pf Tryz.prog 97 [.rp c.cs 0] (.agg (B5 (zg6 c))):=by
 refine Pf.of_fn (.cons (Z9_ c) .nil) (.agg (D9 _)) ?_
 have hn8:=hc.n8
 have hcn:c.ops.length=c.n:=rfl
 have hfl:=hc.frl
 refine B7 T_ok func97 rfl rfl ntmps97 rfl (by simp) ?_
 refine rG ?_
 refine rK fun K hK=>?_
 simp [go_sem]
 refine A2 (zWv c hc) ?_
 simp [go_sem]
 refine A2 (zD3 c hc) ?_
 simp [go_sem]
 refine A2 (J7 _ _) ?_
 simp [go_sem]
 apply hK
 refine rK fun K hK=>?_
 simp [go_sem]
 refine A2 (Y6_ c hc) ?_
 simp [go_sem]
 refine A2 (U2 c hc) ?_
 simp [go_sem]
 apply hK
 refine R8 T_ok (by kernel_rfl) 6 [[],[],[],[1,2],[0,1,2,3],[],[0,1,2,3,4,5]] [(0,5),(1,5),(2,5),(3,5),(4,5)] (by decide) (by decide) (by decide) fun K hK=>?_
 first|dsimp only [List.take,List.drop]|dsimp [List.take,List.drop]
 simp [go_sem]
 refine A5 (G8 _ _) ?_
 simp [go_sem]
 refine A5 (J7 _ _) ?_
 simp [go_sem]
 apply hK
 refine R8 T_ok (by kernel_rfl) 12 [[],[],[],[1,2],[0,1,2,3],[],[],[],[0,1,2,3,4,6,7],[0,1,2,3,4,5,6,7,8],[0,1,2,3,4,5,6,7,8,9],[],[0,1,2,3,4,5,6,7,8,9,10,11]] [(0,11),(1,11),(2,11),(3,11),(4,11),(5,11),(6,11),(7,11),(8,11),(9,11),(10,11)] (by decide) (by decide) (by decide) fun K hK=>?_
 first|dsimp only [List.take,List.drop]|dsimp [List.take,List.drop]
 simp [go_sem]
 refine A5 (G8 _ _) ?_
 simp [go_sem]
 refine A5 (J7 _ _) ?_
 simp [go_sem]
 refine A5 (G8 _ _) ?_
 simp [go_sem]
 refine A5 (J7 _ _) ?_
 simp [go_sem]
 refine A5 (J0_ _ _) ?_
 simp [go_sem]
 apply hK
 refine rK fun K hK=>?_
 simp [go_sem]
 refine A2 (Xf_ _ _) ?_
 simp [go_sem]
 apply hK
 refine A3 fun K1 hK1=>?_
 refine rG ?_ fun K h=>by simp [go_sem,Cs.cs,hcn];exact h
 apply A0
 refine A9 (α:=Nat × Nat) (fun a=>⟨84,[(0,.rp c.cs 0),(2,.ptr 0 0 0),(6,.ptr 7 0 0),(42,iV (c.n:Nat)),(43,iV (a.1:Nat))],[(7,.rows 16 [.agg (B5 (rmU c a.1 0))]),(0,.rows 16 [.agg (B5 fun _ _=>false)])],a.2⟩) (fun a=>a.1<=c.n/\19<a.2) (fun a=>c.n-a.1) (0,20) ?_ ?_ ?_
 .exact ⟨Nat.zero_le _,by dsimp only;omega⟩
 .refine Weaker.fy 1 0 ?_ ?_
  .simp [go_sem,Cs.cs]
  (simp [go_sem,zX9];rfl)
 rintro ⟨i,j⟩ ⟨hi,hj⟩
 dsimp only at hi hj ⊢
 refine rG ?_
 refine A3 fun K2 hK2=>?_
 refine cJ (fun h=>?_) fun h=>?_
 .simp at h
  obtain rfl:i=c.n:=by omega
  clear h
  apply A6
  apply hK1
  refine rG ?_
  refine A4 ?_
  simp [go_sem,ze8]
 simp at h
 have hin:i<c.n:=by omega
 clear h
 have hw:=wI i
 have hi16:i<16:=by omega
 have g127:(0:Int)<=(i:Nat)/\(i:Int)<(c.fr.length:Nat):=by and_intros<;>omega
 have hiL:i<c.fr.length:=by omega
 obtain ⟨x,hx,hx'⟩:=E0 hiL
 apply A1
 apply hK2
 refine A3 fun K3 hK3=>?_
 apply A0
 refine rG ?_
 refine rG ?_ fun K h=>by simp [go_sem,Cs.cs,hcn];exact h
 apply A0
 refine A9 (α:=Nat × Nat) (fun b=>⟨84,[(0,.rp c.cs 0),(2,.ptr 0 0 0),(6,.ptr 7 0 0),(42,iV (c.n:Nat)),(43,iV (i:Nat)),(8,iV (i:Nat)),(50,iV (c.n:Nat)),(51,iV (b.1:Nat))],[(7,.rows 16 [.agg (B5 (rmU c i b.1))]),(0,.rows 16 [.agg (B5 fun _ _=>false)])],b.2⟩) (fun b=>b.1<=c.n/\19<b.2) (fun b=>c.n-b.1) (0,j) ?_ ?_ ?_
 .exact ⟨Nat.zero_le _,hj⟩
 .refine Weaker.fy 1 0 ?_ ?_
  .simp [go_sem,Cs.cs]
  simp [go_sem]
 rintro ⟨b,jj⟩ ⟨hb,hjj⟩
 dsimp only at hb hjj ⊢
 refine rG ?_
 refine A3 fun K4 hK4=>?_
 refine cJ (fun h=>?_) fun h=>?_
 .simp at h
  obtain rfl:b=c.n:=by omega
  clear h
  apply A6
  apply hK3
  refine rF ?_ fun K h=>by simp [go_sem,hw];exact h
  refine ⟨(i+1,jj),?_,?_,?_⟩
  .exact ⟨by dsimp only;omega,by dsimp only;omega⟩
  .dsimp only;omega
  refine Weaker.fy 1 0 ?_ ?_
  .simp [go_sem,Cs.cs]
  simp [go_sem,ze7]
 simp at h
 have hbn:b<c.n:=by omega
 clear h
 have hwb:=wI b
 have g128:(0:Int)<=(b:Nat)/\(b:Int)<16/\(b:Int)<(c.fr.length:Nat):=by and_intros<;>omega
 have hbL:b<c.fr.length:=by omega
 obtain ⟨y,hy,hy'⟩:=E0 hbL
 have hfe:zIx c i b=decide (x=y):=by unfold zIx;rw [List.getD,List.getD,hx,hy];rfl
 apply A1
 apply hK4
 refine A3 fun K5 hK5=>?_
 apply A0
 refine rG ?_
 refine dK 19 [[],[],[],[0,1,2],[0,1,2,3],[0,1,2,3,4],[0,1,2,3,4,5],[0,1,2,3,4,5,6],[0,1,2,3,4,5,6,7],[0,1,2,3,4],[0,1,2,3,4,5,6,7,8,9],[0,1,2,3,4,5,6,7,8,9,10],[0,1,2,3,4],[0,1,2,3,4,12],[0,1,2,3,4,12,13],[0,1,2,3,4,12,13,14],[0,1,2,3,4],[0,1,2,3,4,12,13,14,15,16],[0,1,2,3,4,12,13,14,15,16,17],[0,1,2,3,4,5,6,7,8,9,10,11,12,13,14,15,16,17,18],[0,1,2,3,4,5,6,7,8,9,10,11,12,13,14,15,16,17,18,19]] fun K hK=>?_
 first|dsimp only [List.take,List.drop]|dsimp [List.take,List.drop]
 by_cases hU:JN_ c i b=true
 .simp [go_sem]
  refine A5 (n7 _ i hi16 _) ?_
  simp [go_sem,zRa,hU,g128,Cs.cs,hiL,g127,hx,hx',hbL,hy,hy']
  apply hK
  refine cJ (fun h=>?_) fun h=>?_
  .have hno:¬ (JN_ c i b=true/\zIx c i b=true):=fun hc=>by rw [hfe] at hc;have h9:¬ x=y:=(by simpa using h);exact h9 (by simpa using hc.2)
   apply A1
   apply hK5
   refine rF ?_ fun K h=>by simp [go_sem,hwb];exact h
   refine ⟨(b+1,jj+19),?_,?_,?_⟩
   .exact ⟨by dsimp only;omega,by dsimp only;omega⟩
   .dsimp only;omega
   refine Weaker.fy 1 0 ?_ ?_
   .simp [go_sem,Cs.cs]
   simp [go_sem,ze6 hno]
  have hE:zIx c i b=true:=by rw [hfe];simpa using h
  refine dE 5 [[],[],[],[],[1,2,3],[0,1,2,3,4],[0,1,2,3,4,5]] fun K hK=>?_
  first|dsimp only [List.take,List.drop]|dsimp [List.take,List.drop]
  simp [go_sem]
  refine A5 (c9 (fun _ _=>false) (i:Nat) (b:Nat)) ?_
  simp [go_sem]
  refine A2 (Xf_ _ _) ?_
  simp [go_sem]
  apply hK
  apply hK5
  refine rF ?_ fun K h=>by simp [go_sem,hwb];exact h
  refine ⟨(b+1,jj+19+5),?_,?_,?_⟩
  .exact ⟨by dsimp only;omega,by dsimp only;omega⟩
  .dsimp only;omega
  refine Weaker.fy 1 0 ?_ ?_
  .simp [go_sem,Cs.cs]
  first|(simp [go_sem,zRb hU hE];done)|(simp [go_sem,zXa hU hE];done)
 simp [go_sem]
 refine A5 (n7 _ i hi16 _) ?_
 simp [go_sem,zRa,hU,g128,Cs.cs]
 apply hK
 refine cK (fun h=>?_) fun h=>?_
 .simp at h
 have hno:¬ (JN_ c i b=true/\zIx c i b=true):=fun hc=>hU hc.1
 apply A1
 apply hK5
 refine rF ?_ fun K h=>by simp [go_sem,hwb];exact h
 refine ⟨(b+1,jj+19),?_,?_,?_⟩
 .exact ⟨by dsimp only;omega,by dsimp only;omega⟩
 .dsimp only;omega
 refine Weaker.fy 1 0 ?_ ?_
 .simp [go_sem,Cs.cs]
 simp [go_sem,ze6 hno]
theorem zK8 (c:Cs) (hc:CsOk c):Pf Tryz.prog 38 [.rp c.cs 0] (.agg (B5 (Q9 c))):=by
 refine Pf.of_fn (.cons (Z9_ c) .nil) (.agg (D9 _)) ?_
 have hn8:=hc.n8
 have hlen:(rul c).length=13:=rfl
 refine B7 T_ok func38 rfl rfl ntmps38 rfl (by simp) ?_
 refine rG ?_
 refine rK fun K hK=>?_
 simp [go_sem]
 refine A2 (zWv c hc) ?_
 simp [go_sem]
 apply hK
 refine R8 T_ok (by kernel_rfl) 5 [[],[0],[],[0,1,2],[],[0,1,2,3,4]] [(0,4),(1,4),(2,4),(3,4)] (by decide) (by decide) (by decide) fun K hK=>?_
 first|dsimp only [List.take,List.drop]|dsimp [List.take,List.drop]
 simp [go_sem]
 refine A5 (zP3 c hc) ?_
 simp [go_sem]
 refine A5 (J7 _ _) ?_
 simp [go_sem]
 apply hK
 refine rK fun K hK=>?_
 simp [go_sem]
 refine A2 (Y6_ c hc) ?_
 simp [go_sem]
 refine A2 (U2 c hc) ?_
 simp [go_sem]
 refine A2 (WC_ c hc) ?_
 simp [go_sem]
 apply hK
 refine rK fun K hK=>?_
 simp [go_sem]
 refine A2 (Zl_ c hc 93 (fun x=>x.acq) (fun x=>zWn x)) ?_
 simp [go_sem]
 apply hK
 refine rK fun K hK=>?_
 simp [go_sem]
 refine A2 (Zl_ c hc 94 (fun x=>x.rel) (fun x=>zWo x)) ?_
 simp [go_sem]
 apply hK
 refine rK fun K hK=>?_
 simp [go_sem]
 refine A2 (Zl_ c hc 95 (fun x=>decide (x.op=11)||(decide (x.op=12)||decide (x.op=14))) (fun x=>zWp x)) ?_
 simp [go_sem]
 apply hK
 refine rK fun K hK=>?_
 simp [go_sem,Cs.cs,Os'.cs]
 refine A2 (UN_ c.f.f.place (by have:=hc.fl.l4;omega) hc.plU) ?_
 simp [go_sem]
 refine A2 (G8 _ _) ?_
 simp [go_sem]
 refine A2 (J7 _ _) ?_
 simp [go_sem]
 apply hK
 refine rK fun K hK=>?_
 simp [go_sem,Cs.cs,Os'.cs]
 refine A2 (UN_ c.f.f.value (by have:=hc.fl.l5;omega) hc.vaU) ?_
 simp [go_sem]
 refine A2 (G8 _ _) ?_
 simp [go_sem]
 refine A2 (J7 _ _) ?_
 simp [go_sem]
 apply hK
 refine rK fun K hK=>?_
 simp [go_sem,Cs.cs,Os'.cs]
 refine A2 (UN_ c.f.f.path (by have:=hc.fl.l6;omega) hc.phU) ?_
 simp [go_sem]
 refine A2 (G8 _ _) ?_
 simp [go_sem]
 refine A2 (J7 _ _) ?_
 simp [go_sem]
 apply hK
 have hcs:[V.rp c.t.cs 0,V.ro 2 (d0 c.ops),V.rp [V.ro 1 (iVs c.f.f.state),V.ro 2 (vls c.f.f.write),V.ro 1 (iVs c.f.f.pair),V.ro 1 (uVs c.f.f.place),V.ro 1 (uVs c.f.f.value),V.ro 1 (uVs c.f.f.path),V.ro 1 (uVs c.f.left),V.ro 16 (F3 c.f.regs),bV c.f.whole] 0,V.ro 1 (iVs c.fr)]=c.cs:=rfl
 refine dK 61 [[],[],[1],[0,1,2],[],[],[0,1,2,3,4,5],[0,1,2,3,4,5,6],[],[0,1,2,3,4,5,6,7,8],[],[],[],[0,1,2,3,4,5,6,7,8,9,11,12],[0,1,2,3,4,5,6,7,8,9,10,11,12,13],[],[0,1,2,3,4,5,6,7,8,9,10,11,12,13,14,15],[],[],[],[0,1,2,3,4,5,6,7,8,9,10,11,12,13,14,15,16,18,19],[0,1,2,3,4,5,6,7,8,9,10,11,12,13,14,15,16,17,18,19,20],[],[],[],[0,1,2,3,4,5,6,7,8,9,10,11,12,13,14,15,16,17,18,19,20,21,23,24],[0,1,2,3,4,5,6,7,8,9,10,11,12,13,14,15,16,17,18,19,20,21,22,23,24,25],[],[],[],[28,29],[],[],[31,32],[0,1,2,3,4,5,6,7,8,9,10,11,12,13,14,15,16,17,18,19,20,21,22,23,24,25,26,28,29,30,31,32,33],[0,1,2,3,4,5,6,7,8,9,10,11,12,13,14,15,16,17,18,19,20,21,22,23,24,25,26,27,28,29,30,31,32,33,34],[],[0,1,2,3,4,5,6,7,8,9,10,11,12,13,14,15,16,17,18,19,20,21,22,23,24,25,26,27,28,29,30,31,32,33,34,35,36],[],[],[],[],[],[0,1,2,3,4,5,6,7,8,9,10,11,12,13,14,15,16,17,18,19,20,21,22,23,24,25,26,27,28,29,30,31,32,33,34,35,36,37,41,42],[0,1,2,3,4,5,6,7,8,9,10,11,12,13,14,15,16,17,18,19,20,21,22,23,24,25,26,27,28,29,30,31,32,33,34,35,36,37,40,41,42,43],[],[],[0,1,2,3,4,5,6,7,8,9,10,11,12,13,14,15,16,17,18,19,20,21,22,23,24,25,26,27,28,29,30,31,32,33,34,35,36,37,40,41,42,43,44,45,46],[],[],[0,1,2,3,4,5,6,7,8,9,10,11,12,13,14,15,16,17,18,19,20,21,22,23,24,25,26,27,28,29,30,31,32,33,34,35,36,37,40,41,42,43,44,45,46,47,48,49],[0,1,2,3,4,5,6,7,8,9,10,11,12,13,14,15,16,17,18,19,20,21,22,23,24,25,26,27,28,29,30,31,32,33,34,35,36,37,40,41,42,43,44,45,46,47,48,49,50],[],[0,1,2,3,4,5,6,7,8,9,10,11,12,13,14,15,16,17,18,19,20,21,22,23,24,25,26,27,28,29,30,31,32,33,34,35,36,37,40,41,42,43,44,45,46,47,48,49,50,51,52],[],[],[0,1,2,3,4,5,6,7,8,9,10,11,12,13,14,15,16,17,18,19,20,21,22,23,24,25,26,27,28,29,30,31,32,33,34,35,36,37,40,41,42,43,44,45,46,47,48,49,50,51,52,53,54,55],[],[],[0,1,2,3,4,5,6,7,8,9,10,11,12,13,14,15,16,17,18,19,20,21,22,23,24,25,26,27,28,29,30,31,32,33,34,35,36,37,40,41,42,43,44,45,46,47,48,49,50,51,52,53,54,55,56,57,58],[0,1,2,3,4,5,6,7,8,9,10,11,12,13,14,15,16,17,18,19,20,21,22,23,24,25,26,27,28,29,30,31,32,33,34,35,36,37,40,41,42,43,44,45,46,47,48,49,50,51,52,53,54,55,56,57,58,59],[0,1,2,3,4,5,6,7,8,9,10,11,12,13,14,15,16,17,18,19,20,21,22,23,24,25,26,27,28,29,30,31,32,33,34,35,36,37,38,39,40,41,42,43,44,45,46,47,48,49,50,51,52,53,54,55,56,57,58,59,60],[0,1,2,3,4,5,6,7,8,9,10,11,12,13,14,15,16,17,18,19,20,21,22,23,24,25,26,27,28,29,30,31,32,33,34,35,36,37,38,39,40,41,42,43,44,45,46,47,48,49,50,51,52,53,54,55,56,57,58,59,60,61]] fun K hK=>?_
 first|dsimp only [List.take,List.drop]|dsimp [List.take,List.drop]
 simp [go_sem,hcs]
 refine A5 (zD3 c hc) ?_
 simp [go_sem]
 refine A5 (J7 _ _) ?_
 simp [go_sem]
 refine A5 (G8 _ _) ?_
 simp [go_sem]
 refine A5 (J7 _ _) ?_
 simp [go_sem]
 refine A5 (zK7 c hc) ?_
 simp [go_sem]
 refine A5 (G8 _ _) ?_
 simp [go_sem]
 refine A5 (J7 _ _) ?_
 simp [go_sem]
 refine A5 (zK4 c hc) ?_
 simp [go_sem]
 refine A5 (G8 _ _) ?_
 simp [go_sem]
 refine A5 (J7 _ _) ?_
 simp [go_sem]
 refine A5 (G8 _ _) ?_
 simp [go_sem]
 refine A5 (J7 _ _) ?_
 simp [go_sem,V8]
 refine A5 (G8 _ _) ?_
 simp [go_sem]
 refine A5 (J7 _ _) ?_
 simp [go_sem]
 refine A5 (zP4 c hc) ?_
 simp [go_sem]
 refine A5 (G8 _ _) ?_
 simp [go_sem]
 refine A5 (J7 _ _) ?_
 simp [go_sem]
 refine A5 (zEk _ _) ?_
 simp [go_sem]
 refine A5 (G8 _ _) ?_
 simp [go_sem]
 refine A5 (J7 _ _) ?_
 simp [go_sem]
 refine A5 (J0_ _ _) ?_
 simp [go_sem]
 refine A5 (J0_ _ _) ?_
 simp [go_sem]
 refine A5 (G8 _ _) ?_
 simp [go_sem]
 refine A5 (J7 _ _) ?_
 simp [go_sem,zK5]
 apply hK
 refine rG ?_
 refine A3 fun K1 hK1=>?_
 refine rG ?_
 apply A0
 refine A9 (α:=Nat × Nat) (fun a=>⟨147,[(0,.rp c.cs 0),(2,.ptr 0 0 0),(3,.ptr 1 0 0),(15,.ptr 72 0 0),(134,.sl 71 0 13),(135,iV 13),(136,iV (a.1:Nat))],[(72,.rows 16 [.agg (B5 (orU (rul c) a.1))]),(71,.rows 16 ((rul c).map fun r=>.agg (B5 r))),(1,.rows 16 [.agg (B5 (poP c))]),(0,.rows 16 [.agg (B5 fun _ _=>false)])],a.2⟩) (fun a=>a.1<=13/\72<a.2) (fun a=>13-a.1) (0,73) ?_ ?_ ?_
 .exact ⟨Nat.zero_le _,by dsimp only;omega⟩
 .refine Weaker.fy 1 0 ?_ ?_
  .simp [go_sem,Cs.cs,Os'.cs]
  (simp [go_sem,rul,orU];(repeat' apply And.intro)<;>rfl)
 rintro ⟨i,j⟩ ⟨hi,hj⟩
 dsimp only at hi hj ⊢
 have g129:¬ j=72/\¬ 72=j/\¬ j=71/\¬ 71=j/\¬ j=1/\¬ 1=j/\¬ j=0/\¬ 0=j:=by and_intros<;>omega
 refine rG ?_
 refine A3 fun K2 hK2=>?_
 refine cJ (fun h=>?_) fun h=>?_
 .simp at h
  obtain rfl:i=13:=by omega
  clear h
  apply A6
  apply hK1
  refine rK fun K hK=>?_
  simp [go_sem]
  refine A2 (J7 _ _) ?_
  simp [go_sem]
  apply hK
  refine A4 ?_
  simp [go_sem]
  rfl
 simp at h
 have hin:i<13:=by omega
 clear h
 have hw:=wI i
 have hinL:i<(rul c).length:=by omega
 have g130:(i:Int)<13/\(0:Int)<=(i:Nat):=by and_intros<;>omega
 obtain ⟨r,hr,hr'⟩:=E0 hinL
 apply A1
 apply hK2
 refine A3 fun K3 hK3=>?_
 apply A0
 refine rG ?_ fun K h=>by simp [go_sem,g129,hinL,g130,hr,hr',hlen,hin];exact h
 refine rE fun K hK=>?_
 simp [go_sem,g129]
 refine A2 (zEk _ _) ?_
 simp [go_sem,g129]
 apply hK
 apply hK3
 refine rF ?_ fun K h=>by simp [go_sem,hw];exact h
 refine ⟨(i+1,j+1),?_,?_,?_⟩
 .exact ⟨by dsimp only;omega,by dsimp only;omega⟩
 .dsimp only;omega
 refine Weaker.fy 1 0 ?_ ?_
 .simp [go_sem]
 (simp [go_sem,g129];exact C3 fun a b=>(zO8 hr a b).symm)
def onV:Option (List Nat)->V
 | none=>.val (.slice none 0 0)
 | some l=>.ro 1 (Q3 l)
@[go_sem] theorem ze9 (o:Option (List Nat)):(onV o).one=true:=by cases o<;>rfl
@[go_sem] theorem zk1:V.val (.slice none 0 0)=onV none:=Eq.trans rfl rfl
structure RV where
 k:Bool
 v:Int
 on:Option (List Nat)
def RV.cs (x:RV):List V:=[bV x.k,uV x.v,onV x.on]
structure RF where
 state:Int
 pair:Int
 wk:Bool
 wv:Int
 place:Option (List Nat)
 value:Option (List Nat)
 path:Option (List Nat)
def RF.cs (x:RF):List V:=[iV x.state,iV x.pair,bV x.wk,uV x.wv,onV none,onV x.place,onV x.value,onV x.path]
structure RW where
 regs:Nat->RV
 path:Option (List Nat)
 last:Int
 left:Option (List Nat)
 facts:List RF
 known:Bool
def zk2 (g:Nat->RV):List V:=(List.range 8).map fun r=>.agg (g r).cs
def rfs (l:List RF):List V:=l.map fun x=>.agg x.cs
def RW.cs (w:RW):List V:=[.ro 3 (zk2 w.regs),onV w.path,iV w.last,onV w.left,.ro 8 (rfs w.facts),bV w.known]
theorem Y9 (l l':List Nat):Q3 l++Q3 l'=Q3 (l++l'):=by simp [Q3]
theorem zD9 (S:List Nat) (H:A7) (d:Nat) (l:List Nat):(Q3 l).map (P6 (frz S H d))=Q3 l:=by
 unfold Q3
 rw [map_map]
 exact map_congr_left fun x _=>by show P6 (frz S H d) (iV _)=_;simp [P6,go_sem]
theorem zea (t:Tst) (hS:SeaOk t) (of:FuncId) (ws:List Bool) (fr:List Int) (vg:FuncId) (vcs:List V) (k:Nat) (hk:k<nO t):Pf Tryz.prog 145 [Y8 t of ws fr vg vcs,iV k] (B6 (opX t k)) :=
 Pf.hide (ds:=zQt t (fnV of) ws fr) fun x _=>L2 t hS of ws fr x k hk
theorem Fn.seen {P:Program} {f:FuncId} {args args':List V} {H:A7} {k:Nat} {K:V->A7->Nat->Prop} (hs:SeenAll args args') (h:Sl.Fn P f args' H k K):Sl.Fn P f args H k K:=⟨h.enters,fun F ι w cargs hv R hf=>h.calls F ι w cargs (hs.rels hv) R hf⟩
theorem YD_ {σ:Type} {Q:Rn->Prop} {G:σ->A7} {step:σ->Rn->σ} {ok:σ->Prop} {vg:FuncId} {vcs:List V} {j0:Nat} (hV:VisOk Q G step ok vg vcs j0):∀ (l:List Rn) (s:σ),ok s->(∀ r∈l,Q r)->ok (l.foldl step s)
 | [],s,h,_=>h
 | r::l,s,h,hq=>YD_ hV l _ (hV.okS s r h (hq r (.head _))) fun q hm=>hq q (.tail _ hm)
structure LasOk (c:Cs) (las:List Int):Prop where
 len:las.length=8
 bd:∀ (i:Nat) (n:Int),las[i]?=some n->0<=n/\n<=c.n
theorem LasOk.set {c:Cs} {las:List Int} (h:LasOk c las) (i:Nat) {n:Int} (h0:0<=n) (h1:n<=c.n):LasOk c (las.set i n):=⟨by rw [length_set];exact h.len,fun q m hm=>by
 rw [List.getElem?_set] at hm
 split at hm
 .split at hm
  .cases hm;exact ⟨h0,h1⟩
  cases hm
 exact h.bd q m hm⟩
theorem I8 {G:A7} {j0 n:Nat} (h:∀ p∈G,p.1<j0) (hn:j0<=n):G.filter (fun p=>decide (p.1=n))=[] :=
 List.filter_eq_nil_iff.2 fun p hp=>by have:=h p hp;simp;omega
theorem O4 {G:A7} {j0 n:Nat} (h:∀ p∈G,p.1<j0) (hn:j0<=n):G.filter (fun p=>!decide (p.1=n))=G :=
 List.filter_eq_self.2 fun p hp=>by have:=h p hp;simp;omega
theorem UP_ {G:A7} {j0 n m:Nat} (h:∀ p∈G,p.1<j0) (hn:j0<=n) (hm:j0<=m):G.filter (fun p=>decide (p.1=n)||decide (p.1=m))=[] :=
 List.filter_eq_nil_iff.2 fun p hp=>by have:=h p hp;simp;omega
theorem zAo {G:A7} {j0 n m:Nat} (h:∀ p∈G,p.1<j0) (hn:j0<=n) (hm:j0<=m):G.filter (fun p=>!decide (p.1=n)&&!decide (p.1=m))=G :=
 List.filter_eq_self.2 fun p hp=>by have:=h p hp;simp;omega
theorem V3 {G:A7} {j0 n:Nat} (h:∀ p∈G,p.1<j0) (hn:j0<=n) (x:B):((n,x)∈G)=False:=eq_false fun hm=>by have:=h _ hm;simp only [] at this;omega
theorem zXb {l:List Nat} {n a:Nat} (h:∀ x∈l,x<n) (ha:a<n):∀ x∈l++[a],x<n:=by
 intro x hx
 rcases List.mem_append.1 hx with h1|h1
 .exact h x h1
 cases List.mem_singleton.1 h1;exact ha
theorem zeb {l:List Nat} {n:Nat} (h:∀ x∈l,x<n) (i:Nat):∀ x∈l.take i++l.drop (i+1),x<n:=by
 intro x hx
 rcases List.mem_append.1 hx with h1|h1
 .exact h x (mem_of_mem_take h1)
 exact h x (mem_of_mem_drop h1)
def zgg {σ:Type} (Q:Rn->Prop) (G:σ->A7) (step:σ->Rn->σ) (ok:σ->Prop) (vg:FuncId) (vcs:List V) (j0:Nat) (c:Cs) (of:FuncId) (ws:List Bool) (kept:Rl) (f:Nat):Prop :=
 ∀ (loc:Nat) (las:List Int) (co:Rl) (s:σ) (j:Nat),loc+f=c.t.locs.length->LasOk c las->(∀ r∈zJe kept c f loc las co,Q r)->ok s->j0<=j →
  Sl.Fn Tryz.prog 205 [Y8 c.t of ws c.fr vg vcs,.agg (F7 c kept (poP c) las),.agg (B5 co),iV (loc:Nat)] (G s) j fun v H _=>v=.tup []/\H=G ((zJe kept c f loc las co).foldl step s)
def zgh {σ:Type} (Q:Rn->Prop) (G:σ->A7) (step:σ->Rn->σ) (ok:σ->Prop) (vg:FuncId) (vcs:List V) (j0:Nat) (c:Cs) (of:FuncId) (ws:List Bool) (kept:Rl) (f m:Nat):Prop :=
 ∀ (loc:Nat) (las:List Int) (co:Rl) (ahead left:List Nat) (s:σ) (j:Nat),loc+(f+1)=c.t.locs.length->LasOk c las->left.length=m->ahead.length+left.length<=8->(∀ a∈ahead,a<c.n)->(∀ a∈left,a<c.n) →
  (∀ r∈zF6 kept c f loc las co m ahead left,Q r)->ok s->j0<=j →
  Sl.Fn Tryz.prog 223 [Y8 c.t of ws c.fr vg vcs,.agg (F7 c kept (poP c) las),.agg (B5 co),iV (loc:Nat),.ro 1 (Q3 ahead),.ro 1 (Q3 left)] (G s) j fun v H _=>v=.tup []/\H=G ((zF6 kept c f loc las co m ahead left).foldl step s)
theorem Qv_ {las:List Int} {loc:Nat} {ahead:List Nat} {n a:Nat} (hn:ahead.length=n+1) (ha:ahead[n]?=some a):zA7 las loc ahead=las.set loc ((a:Int)+1):=by
 unfold zA7
 rw [List.getLast?_eq_getElem?,hn,Nat.add_sub_cancel,ha]
theorem zPc (las:List Int) (loc:Nat):zA7 las loc []=las:=rfl
theorem zK9 (l:List Nat) (hl:l.length<=1000):Pf Tryz.prog 228 [.ro 1 (Q3 l)] (.agg (B5 (X3_ l))):=by
 refine Pf.of_fn (.cons (zd3 l) .nil) (.agg (D9 _)) ?_
 refine B7 T_ok func228 rfl rfl ntmps228 rfl (by simp) ?_
 refine rG ?_
 refine rG ?_
 refine A3 fun K1 hK1=>?_
 refine rG ?_
 apply A0
 refine A9 (α:=Nat) (fun i=>⟨31,[(0,.ro 1 (Q3 l)),(2,.ptr 0 0 0),(3,.ptr 1 0 0),(8,.ro 1 (Q3 l)),(9,iV (l.length:Nat)),(10,iV (i:Nat))],[(1,.rows 16 [.agg (B5 (chU l i 0))]),(0,.rows 16 [.agg (B5 fun _ _=>false)])],2⟩) (fun i=>i<=l.length) (fun i=>l.length-i) 0 ?_ ?_ ?_
 .exact Nat.zero_le _
 .refine Weaker.fw 1 0 ?_ ?_
  .simp [go_sem]
  simp [go_sem,zOm]
 rintro i hi
 skip
 refine rG ?_
 refine A3 fun K2 hK2=>?_
 refine cJ (fun h=>?_) fun h=>?_
 .simp at h
  obtain rfl:i=l.length:=by omega
  apply A6
  apply hK1
  refine rG ?_
  refine A4 ?_
  simp [go_sem,zWc]
 simp at h
 have hin:i<l.length:=by omega
 have hiI:(i:Int)<(l.length:Nat):=by omega
 clear h
 have hw:=wI i
 obtain ⟨a,hx,hx'⟩:=E0 hin
 have hi0:(0:Int)<=(i:Nat):=by omega
 have hdl:(l.drop (i+1)).length=l.length-(i+1):=length_drop ..
 have htl:(l.drop (i+1)).take (l.length-(i+1))=l.drop (i+1):=take_of_length_le (by rw [length_drop];omega)
 have g131:(0:Int)<=(i:Int)+1/\(i:Int)+1<=(l.length:Nat)/\((i:Int)+1).toNat=i+1/\i+1<=l.length:=by and_intros<;>omega
 apply A1
 apply hK2
 refine A3 fun K3 hK3=>?_
 apply A0
 refine rG ?_ fun K h=>by simp [go_sem,hin,hiI,hx,hx',hi0];exact h
 refine rG ?_ fun K h=>by simp [go_sem,hin,hiI,hx,hx',hi0,hw,g131];exact h
 apply A0
 refine A9 (α:=Nat) (fun b=>⟨31,[(0,.ro 1 (Q3 l)),(2,.ptr 0 0 0),(3,.ptr 1 0 0),(8,.ro 1 (Q3 l)),(9,iV (l.length:Nat)),(10,iV (i:Nat)),(5,iV (a:Nat)),(18,.ro 1 (Q3 (l.drop (i+1)))),(19,iV ((l.length-(i+1):Nat):Int)),(20,iV (b:Nat))],[(1,.rows 16 [.agg (B5 (chU l i b))]),(0,.rows 16 [.agg (B5 fun _ _=>false)])],2⟩) (fun b=>b<=l.length-(i+1)) (fun b=>l.length-(i+1)-b) 0 ?_ ?_ ?_
 .exact Nat.zero_le _
 .refine Weaker.fw 1 0 ?_ ?_
  .simp [go_sem,hdl,htl]
  simp [go_sem]
 rintro b hb
 skip
 refine rG ?_
 refine A3 fun K4 hK4=>?_
 refine cJ (fun h=>?_) fun h=>?_
 .have hb1:¬ b<l.length-(i+1):=by have h9:¬ (b:Int)<((l.length-(i+1):Nat):Int):=(by simpa using h);omega
  obtain rfl:b=l.length-(i+1):=by omega
  clear h
  apply A6
  apply hK3
  refine rF ?_ fun K h=>by simp [go_sem,hw];exact h
  refine ⟨i+1,?_,?_,?_⟩
  .omega
  .omega
  refine Weaker.fw 1 0 ?_ ?_
  .simp [go_sem]
  simp [go_sem,zWb hx]
 have hb1:b<l.length-(i+1):=by have h9:(b:Int)<((l.length-(i+1):Nat):Int):=(by simpa using h);omega
 clear h
 have hwb:=wI b
 have hb2:b<(l.drop (i+1)).length:=by omega
 obtain ⟨y,hy,hy'⟩:=E0 hb2
 have g132:(0:Int)<=(b:Nat)/\(b:Int)<((l.drop (i+1)).length:Nat)/\(b:Int)<((l.length-(i+1):Nat):Int):=by and_intros<;>omega
 apply A1
 apply hK4
 refine A3 fun K5 hK5=>?_
 apply A0
 refine rG ?_ fun K h=>by simp [go_sem,hb1,hb2,g132,hy,hy',hdl];exact h
 refine rE fun K hK=>?_
 simp [go_sem]
 refine A2 (c9 _ _ _) ?_
 simp [go_sem]
 apply hK
 apply hK5
 refine rF ?_ fun K h=>by simp [go_sem,hwb];exact h
 refine ⟨b+1,?_,?_,?_⟩
 .omega
 .omega
 refine Weaker.fw 1 0 ?_ ?_
 .simp [go_sem]
 simp [go_sem,zOn hx hy]
theorem zDa {σ:Type} {Q:Rn->Prop} {G:σ->A7} {step:σ->Rn->σ} {ok:σ->Prop} {vg:FuncId} {vcs:List V} {j0:Nat} (hV:VisOk Q G step ok vg vcs j0) (c:Cs) (hc:CsOk c) (hS:SeaOk c.t) (of:FuncId) (ws:List Bool) (kept:Rl) (hrl:c.f.regs.length=c.t.ths.length) (f m:Nat) (hL:zgg Q G step ok vg vcs j0 c of ws kept f) (ih:∀ q,q+1=m->zgh Q G step ok vg vcs j0 c of ws kept f q):zgh Q G step ok vg vcs j0 c of ws kept f m:=by
 intro loc las co ahead left s j hloc hlas hm h8 hah hle hQ hs hj
 refine Fn.view ?_
 have hl8:=hlas.len
 have hn8:=hc.n8
 have hlo:=hS.locs
 have hc8:loc<8:=by omega
 have g133:(loc:Int)<8/\(0:Int)<=(loc:Nat)/\loc<=7/\33+loc<=40:=by and_intros<;>omega
 have hwl:=wI loc
 refine B7 T_ok func223 rfl rfl ntmps223 rfl (by simp) ?_
 refine rG ?_ fun K h=>by simp [go_sem,C0 hl8,B3 hl8,B1 hl8,C4 hl8,B0,C2,E8,C1];exact h
 refine A3 fun K1 hK1=>?_
 refine rG ?_
 refine cK (fun h=>?_) fun h=>?_
 .have hz:left.length=0:=by simpa using h
  have hm0:m=0:=by omega
  subst hm0
  have hER:=zJh kept c f loc las co ahead left
  rw [hER] at hQ
  refine X6 ⟨71,[(0,Y8 c.t of ws c.fr vg vcs),(3,iV (loc:Nat)),(4,.ro 1 (Q3 ahead)),(5,.ro 1 (Q3 left)),(7,.ptr j 0 0),(8,.ptr (j+1) 0 0)],[(j+1,.rows 16 [.agg (B5 co)]),(j,.rows 41 [.agg (F7 c kept (poP c) (zA7 las loc ahead))])]++G s,j+2⟩ ?_ ?_
  .skip
   refine rG ?_
   refine rG ?_
   refine cJ (fun h=>?_) fun h=>?_
   .have hap:¬ 0<ahead.length:=by simpa using h
    obtain rfl:ahead=[]:=List.length_eq_zero_iff.1 (by omega)
    have hlt:=zPc las loc
    apply A1
    refine Weaker.fzT [_,_] _ (G s) 0 (by omega) ?_ ?_ ?_
    .simp [go_sem,hlt]
    .first|(simp;done)|(simp;omega)
    simp [go_sem,hlt]
   have hap:0<ahead.length:=by simpa using h
   obtain ⟨n,hn⟩:∃ n,ahead.length=n+1:=⟨ahead.length-1,by omega⟩
   have hnA:n<ahead.length:=by omega
   obtain ⟨a,ha,ha'⟩:=E0 hnA
   have hac:=hah a (List.mem_of_getElem? ha)
   have hlt:=Qv_ (las:=las) (loc:=loc) hn ha
   have hwn:IntKind.i64.wrap ((ahead.length:Nat)-1)=(n:Nat):=by rw [E4 (by omega) (by omega)];omega
   have hwa:=wI a
   have g134:(n:Int)<(ahead.length:Nat)/\(0:Int)<=(n:Nat):=by and_intros<;>omega
   have hlasT:LasOk c (zA7 las loc ahead):=by rw [hlt];exact hlas.set loc (by omega) (by omega)
   refine rF ?_ fun K h=>by simp [go_sem,C0 hl8,B3 hl8,B1 hl8,C4 hl8,B0,C2,E8,C1,hwn,hwa,hnA,g134,ha,ha',hc8,g133,zW3 hl8 hc8];exact h
   refine Weaker.fzT [_,_] _ (G s) 0 (by omega) ?_ ?_ ?_
   .simp [go_sem,hlt]
   .first|(simp;done)|(simp;omega)
   simp [go_sem,hlt]
  have hlasT:LasOk c (zA7 las loc ahead):=by
   rcases Nat.eq_zero_or_pos ahead.length with h9|h9
   .rw [List.length_eq_zero_iff.1 h9];exact hlas
   obtain ⟨n,hn⟩:∃ n,ahead.length=n+1:=⟨ahead.length-1,by omega⟩
   obtain ⟨a,ha,_⟩:=E0 (show n<ahead.length by omega)
   have hac:=hah a (List.mem_of_getElem? ha)
   rw [Qv_ hn ha];exact hlas.set loc (by omega) (by omega)
  have hlT:=hlasT.len
  refine dK 8 [[],[],[],[],[3],[2,3,4],[],[6],[0,1,2,3,4,5,6,7]] fun K hK=>?_
  first|dsimp only [List.take,List.drop]|dsimp [List.take,List.drop]
  simp [go_sem,C0 hlT,B3 hlT,B1 hlT,C4 hlT,B0,C2,E8,C1]
  refine A5 (zK9 ahead (by omega)) ?_
  simp [go_sem,C0 hlT,B3 hlT,B1 hlT,C4 hlT,B0,C2,E8,C1]
  refine A5 (zEk _ _) ?_
  simp [go_sem,hwl,C0 hlT,B3 hlT,B1 hlT,C4 hlT,B0,C2,E8,C1]
  refine Q7 (A:=[_,_]) (G:=G s) (hL (loc+1) (zA7 las loc ahead) (fun a b=>co a b||X3_ ahead a b) s _ (by omega) hlasT hQ hs (by omega)) fun k2 hk2=>?_
  simp [go_sem]
  apply hK
  refine A4 ?_
  rw [hER]
  simp [go_sem]
  first
  | exact ⟨_,_,View.tail [] _ _,rfl,rfl⟩
  | exact ⟨_,_,View.tail [_] _ _,rfl,rfl⟩
  | exact ⟨_,_,View.tail [_,_] _ _,rfl,rfl⟩
  | exact ⟨_,_,View.tail [_,_,_] _ _,rfl,rfl⟩
  | exact ⟨_,_,View.tail [_,_,_,_] _ _,rfl,rfl⟩
  | exact ⟨_,_,View.tail [_,_,_,_,_] _ _,rfl,rfl⟩
 have hz:¬ left.length=0:=by simpa using h
 obtain ⟨q,rfl⟩:∃ q,m=q+1:=⟨m-1,by omega⟩
 have hER:=Qk_ kept c f loc las co q ahead left
 have hQ2:∀ i,i<=left.length->∀ r∈zAg kept c f loc las co q ahead left i,Q r:=fun i hi r hr=>hQ r (zOo hi hr)
 apply A1
 apply hK1
 refine rG ?_
 apply A0
 refine A9 (α:=Nat × Nat) (fun a=>⟨71,[(0,Y8 c.t of ws c.fr vg vcs),(3,iV (loc:Nat)),(4,.ro 1 (Q3 ahead)),(5,.ro 1 (Q3 left)),(7,.ptr j 0 0),(8,.ptr (j+1) 0 0),(41,.ro 1 (Q3 left)),(42,iV (left.length:Nat)),(43,iV (a.1:Nat))],[(j+1,.rows 16 [.agg (B5 co)]),(j,.rows 41 [.agg (F7 c kept (poP c) las)])]++G ((zAg kept c f loc las co q ahead left a.1).foldl step s),a.2⟩) (fun a=>a.1<=left.length/\j+1<a.2) (fun a=>left.length-a.1) (0,j+2) ?_ ?_ ?_
 .exact ⟨Nat.zero_le _,by dsimp only;omega⟩
 .refine Weaker.fzT [_,_] _ (G s) 0 (by first|omega|(dsimp only;omega)|exact Nat.le_refl _) ?_ ?_ ?_
  .simp [go_sem]
  .first|(simp;done)|(simp;omega)
  simp [go_sem]
 rintro ⟨i,kk⟩ ⟨hi,hkk⟩
 dsimp only at hi hkk ⊢
 have g135:¬ kk=j/\¬ j=kk/\¬ kk=j+1/\¬ j+1=kk/\¬ kk+3=j/\¬ j=kk+3/\¬ kk+4=j/\¬ j=kk+4/\¬ kk+8=j/\¬ j=kk+8/\¬ kk+9=j/\¬ j=kk+9/\¬ kk+14=j/\¬ j=kk+14/\¬ kk+16=j/\¬ j=kk+16/\¬ kk+18=j/\¬ j=kk+18/\¬ kk+19=j/\¬ j=kk+19/\¬ kk+4=j+1/\¬ j+1=kk+4/\¬ kk+9=j+1/\¬ j+1=kk+9/\¬ kk+14=j+1/\¬ j+1=kk+14/\¬ kk+16=j+1/\¬ j+1=kk+16/\¬ kk+18=j+1/\¬ j+1=kk+18/\¬ kk+19=j+1/\¬ j+1=kk+19:=by and_intros<;>omega
 refine rG ?_
 refine A3 fun K2 hK2=>?_
 refine cJ (fun h=>?_) fun h=>?_
 .simp at h
  obtain rfl:i=left.length:=by omega
  clear h
  apply A6
  refine ⟨.inl rfl,?_⟩
  rw [hER]
  simp [go_sem]
  first
  | exact ⟨_,_,View.tail [] _ _,rfl,rfl⟩
  | exact ⟨_,_,View.tail [_] _ _,rfl,rfl⟩
  | exact ⟨_,_,View.tail [_,_] _ _,rfl,rfl⟩
  | exact ⟨_,_,View.tail [_,_,_] _ _,rfl,rfl⟩
  | exact ⟨_,_,View.tail [_,_,_,_] _ _,rfl,rfl⟩
  | exact ⟨_,_,View.tail [_,_,_,_,_] _ _,rfl,rfl⟩
 simp at h
 have hin:i<left.length:=by omega
 have hiI:(i:Int)<(left.length:Nat):=by omega
 clear h
 have hw:=wI i
 obtain ⟨a,hx,hx'⟩:=E0 hin
 have hi0:(0:Int)<=(i:Nat):=by omega
 have hac:=hle a (List.mem_of_getElem? hx)
 have hst:(zAg kept c f loc las co q ahead left (i+1)).foldl step s=(zF6 kept c f loc las co q (ahead++[a]) (left.take i++left.drop (i+1))).foldl step ((zAg kept c f loc las co q ahead left i).foldl step s):=by rw [Ql_ hx,foldl_append]
 have hQ3:∀ r∈zF6 kept c f loc las co q (ahead++[a]) (left.take i++left.drop (i+1)),Q r:=fun r hr=>hQ2 (i+1) (by omega) r (by rw [Ql_ hx];exact List.mem_append.2 (.inr hr))
 have hsi:=YD_ hV _ s hs (hQ2 i (by omega))
 have hgn:=hV.names _ hsi
 have hpn0:=I8 hgn (show j0<=kk by omega)
 have hpa0:=O4 hgn (show j0<=kk by omega)
 have hpn1:=I8 hgn (show j0<=kk+4 by omega)
 have hpa1:=O4 hgn (show j0<=kk+4 by omega)
 have hpn2:=I8 hgn (show j0<=kk+1+1+1+1 by omega)
 have hpa2:=O4 hgn (show j0<=kk+1+1+1+1 by omega)
 have hpn3:=I8 hgn (show j0<=kk+9 by omega)
 have hpa3:=O4 hgn (show j0<=kk+9 by omega)
 have g136:i*8<=140737488355328/\(i+(left.length-(i+1)))*8<=140737488355328/\(i:Int)<=(left.length:Nat)/\(0:Int)<=(i:Int)+1/\(i:Int)+1<=(left.length:Nat)/\((i:Int)+1).toNat=i+1/\i+1<=left.length:=by and_intros<;>omega
 have hi1:i<=left.length:=by omega
 have hil:min i left.length=i:=Nat.min_eq_left hi1
 have hdl:(left.drop (i+1)).length=left.length-(i+1):=length_drop ..
 have hdt:(left.drop (i+1)).take (left.length-(i+1))=left.drop (i+1):=take_of_length_le (by omega)
 have hrl2:(left.take i++left.drop (i+1)).length=q:=by rw [length_append,length_take,length_drop];omega
 have hlft:List.take (i+(left.length-(i+1))) (List.take i (List.take i left)++List.drop (i+1) left)=List.take i left++List.drop (i+1) left:=by rw [take_take,Nat.min_self];exact take_of_length_le (by rw [hrl2];omega)
 apply A1
 apply hK2
 refine A3 fun K3 hK3=>?_
 apply A0
 refine rG ?_ fun K h=>by simp [go_sem,hin,hiI,hx,hx',hi0];exact h
 refine P7 T_ok (by kernel_rfl) 9 [[],[],[],[1,2],[0,1,2,3],[],[],[6],[5,6,7],[0,1,2,3,4,5,6,7,8],[0,1,2,3,4,5,6,7,8,9]] [(0,1),(0,2),(0,3),(0,5),(4,5),(0,6),(4,6),(0,7),(4,7),(0,8),(4,8)] (by decide) (by decide) (by decide) ⟨71,[(0,Y8 c.t of ws c.fr vg vcs),(3,iV (loc:Nat)),(4,.ro 1 (Q3 ahead)),(5,.ro 1 (Q3 left)),(7,.ptr j 0 0),(8,.ptr (j+1) 0 0),(41,.ro 1 (Q3 left)),(42,iV (left.length:Nat)),(43,iV (i:Nat)),(13,iV (i:Nat)),(14,iV (a:Nat)),(15,.ro 1 (Q3 (left.take i++left.drop (i+1))))],[(j+1,.rows 16 [.agg (B5 co)]),(j,.rows 41 [.agg (F7 c kept (poP c) las)])]++G ((zAg kept c f loc las co q ahead left i).foldl step s),kk+20⟩ ?_ ?_
 .first|dsimp only [List.take,List.drop]|dsimp [List.take,List.drop]
  simp [go_sem,hin,hiI,hi0,hw,hi1,g136,hil,hdl,hdt,Y9,hpn0,hpn1,hpn2,hpn3,hpa0,hpa1,hpa2,hpa3,g135]
  refine Weaker.fzT [_,_,_] [(j+1,.rows 16 [.agg (B5 co)]),(j,.rows 41 [.agg (F7 c kept (poP c) las)])] (G ((zAg kept c f loc las co q ahead left i).foldl step s)) 1 (by first|exact Nat.le_refl _|omega|(dsimp only;omega)) ?_ ?_ ?_
  .simp [go_sem,hlft,hil,Y9,g135]
  .first|(simp;done)|(simp;omega)
  simp [go_sem,hlft,hil,Y9,g135]
 skip
 obtain ⟨k2,hk2⟩:∃ k2,k2=kk+20:=⟨_,rfl⟩
 rw [<-hk2]
 have hE:=ih q rfl loc las co (ahead++[a]) (left.take i++left.drop (i+1)) _ (k2+11) hloc hlas hrl2 (by simp;omega) (zXb hah hac) (zeb hle i) hQ3 hsi (by omega)
 rw [<-hst] at hE
 have htk:List.take (ahead.length+1) (Q3 ahead++[iV a])=Q3 (ahead++[a]):=by rw [take_of_length_le (by simp [Q3])];simp [Q3]
 have g137:¬ k2+1+1+1=j/\¬ j=k2+1+1+1/\¬ k2+1+1+1=j+1/\¬ j+1=k2+1+1+1/\¬ k2+3=j/\¬ j=k2+3/\¬ k2+3=j+1/\¬ j+1=k2+3/\¬ k2+1+1+1+1=j/\¬ j=k2+1+1+1+1/\¬ k2+1+1+1+1=j+1/\¬ j+1=k2+1+1+1+1/\¬ k2+4=j/\¬ j=k2+4/\¬ k2+4=j+1/\¬ j+1=k2+4/\¬ k2+1+1+1+1+1=j/\¬ j=k2+1+1+1+1+1/\¬ k2+1+1+1+1+1=j+1/\¬ j+1=k2+1+1+1+1+1/\¬ k2+5=j/\¬ j=k2+5/\¬ k2+5=j+1/\¬ j+1=k2+5/\¬ k2+1+1+1+1+1+1=j/\¬ j=k2+1+1+1+1+1+1/\¬ k2+1+1+1+1+1+1=j+1/\¬ j+1=k2+1+1+1+1+1+1/\¬ k2+6=j/\¬ j=k2+6/\¬ k2+6=j+1/\¬ j+1=k2+6/\¬ k2+1+1+1+1+1+1+1=j/\¬ j=k2+1+1+1+1+1+1+1/\¬ k2+1+1+1+1+1+1+1=j+1/\¬ j+1=k2+1+1+1+1+1+1+1/\¬ k2+7=j/\¬ j=k2+7/\¬ k2+7=j+1/\¬ j+1=k2+7/\¬ k2+1+1+1+1+1+1+1+1=j/\¬ j=k2+1+1+1+1+1+1+1+1/\¬ k2+1+1+1+1+1+1+1+1=j+1/\¬ j+1=k2+1+1+1+1+1+1+1+1/\¬ k2+8=j/\¬ j=k2+8/\¬ k2+8=j+1/\¬ j+1=k2+8/\¬ k2+1+1+1+1+1+1+1+1+1=j/\¬ j=k2+1+1+1+1+1+1+1+1+1/\¬ k2+1+1+1+1+1+1+1+1+1=j+1/\¬ j+1=k2+1+1+1+1+1+1+1+1+1/\¬ k2+9=j/\¬ j=k2+9/\¬ k2+9=j+1/\¬ j+1=k2+9/\¬ k2+1+1+1+1+1+1+1+1+1+1=j/\¬ j=k2+1+1+1+1+1+1+1+1+1+1/\¬ k2+1+1+1+1+1+1+1+1+1+1=j+1/\¬ j+1=k2+1+1+1+1+1+1+1+1+1+1/\¬ k2+10=j/\¬ j=k2+10/\¬ k2+10=j+1/\¬ j+1=k2+10/\¬ k2+1+1+1+1+1+1+1+1+1+1+1=j/\¬ j=k2+1+1+1+1+1+1+1+1+1+1+1/\¬ k2+1+1+1+1+1+1+1+1+1+1+1=j+1/\¬ j+1=k2+1+1+1+1+1+1+1+1+1+1+1/\¬ k2+11=j/\¬ j=k2+11/\¬ k2+11=j+1/\¬ j+1=k2+11:=by and_intros<;>omega
 have hqn0:=I8 hgn (show j0<=k2+1+1+1+1 by omega)
 have hqa0:=O4 hgn (show j0<=k2+1+1+1+1 by omega)
 have hqm0:=V3 hgn (show j0<=k2+1+1+1+1 by omega)
 have hqn1:=I8 hgn (show j0<=k2+1+1+1+1+1+1 by omega)
 have hqa1:=O4 hgn (show j0<=k2+1+1+1+1+1+1 by omega)
 have hqm1:=V3 hgn (show j0<=k2+1+1+1+1+1+1 by omega)
 have hqn2:=I8 hgn (show j0<=k2+1+1+1+1+1+1+1+1 by omega)
 have hqa2:=O4 hgn (show j0<=k2+1+1+1+1+1+1+1+1 by omega)
 have hqm2:=V3 hgn (show j0<=k2+1+1+1+1+1+1+1+1 by omega)
 have hqn3:=I8 hgn (show j0<=k2+1+1+1+1+1+1+1+1+1 by omega)
 have hqa3:=O4 hgn (show j0<=k2+1+1+1+1+1+1+1+1+1 by omega)
 have hqm3:=V3 hgn (show j0<=k2+1+1+1+1+1+1+1+1+1 by omega)
 have hqn4:=I8 hgn (show j0<=k2+1+1+1+1+1+1+1+1+1+1 by omega)
 have hqa4:=O4 hgn (show j0<=k2+1+1+1+1+1+1+1+1+1+1 by omega)
 have hqm4:=V3 hgn (show j0<=k2+1+1+1+1+1+1+1+1+1+1 by omega)
 have hrn:=UP_ hgn (show j0<=k2+1+1+1+1+1+1 by omega) (show j0<=k2+1+1+1+1+1+1+1+1 by omega)
 have hra:=zAo hgn (show j0<=k2+1+1+1+1+1+1 by omega) (show j0<=k2+1+1+1+1+1+1+1+1 by omega)
 have g138:ahead.length*8<=140737488355328/\(ahead.length+1)*8<=140737488355328:=by and_intros<;>omega
 refine X4 T_ok (by kernel_rfl) 11 [[],[],[],[],[],[],[4,5],[],[7],[4,5,6,7,8],[],[0,1,2,3,4,5,6,7,8,9,10]] [(0,4),(1,4),(2,4),(3,4),(4,5),(0,6),(1,6),(2,6),(3,6),(4,7),(6,7),(0,8),(1,8),(2,8),(3,8),(4,8),(5,8),(6,8),(0,9),(1,9),(2,9),(3,9),(4,10),(6,10),(8,10),(9,10)] (by decide) (by decide) (by decide) fun K hK=>?_
 first|dsimp only [List.take,List.drop]|dsimp [List.take,List.drop]
 simp [go_sem,C0 hl8,B3 hl8,B1 hl8,C4 hl8,B0,C2,E8,C1,Y9,g137,hqn0,hqa0,hqm0,hqn1,hqa1,hqm1,hqn2,hqa2,hqm2,hqn3,hqa3,hqm3,hqn4,hqa4,hqm4,hrn,hra,g138]
 refine W2_ [_,_,_,_] [(j+1,.rows 16 [.agg (B5 co)]),(j,.rows 41 [.agg (F7 c kept (poP c) las)])] (G ((zAg kept c f loc las co q ahead left i).foldl step s)) 1 hE (by simp [go_sem,Y9,zD9,P6,frz,htk,g137,hqn0,hqa0,hqm0,hqn1,hqa1,hqm1,hqn2,hqa2,hqm2,hqn3,hqa3,hqm3,hqn4,hqa4,hqm4,hrn,hra,g138]) (by simp) (by simp [go_sem,g137,hqn0,hqa0,hqm0,hqn1,hqa1,hqm1,hqn2,hqa2,hqm2,hqn3,hqa3,hqm3,hqn4,hqa4,hqm4,hrn,hra,g138]) fun k3 hk3=>?_
 simp [go_sem]
 apply hK
 apply hK3
 refine rF ?_ fun K h=>by simp [go_sem,hw];exact h
 refine ⟨(i+1,k3),?_,?_,?_⟩
 .exact ⟨by dsimp only;omega,by dsimp only;omega⟩
 .dsimp only;omega
 refine Weaker.fzT [_,_] _ (G ((zAg kept c f loc las co q ahead left (i+1)).foldl step s)) 0 (by first|omega|(dsimp only;omega)) ?_ ?_ ?_
 .simp [go_sem,g135]
 .first|(simp;done)|(simp;omega)
 simp [go_sem,g135]
theorem zDb {c:Cs} {loc m:Nat} (h:(c.at_ (fun x=>wrB x.op) m&&decide ((opX c.t m).loc=(loc:Nat)))=true):W8 c loc (m+1)=W8 c loc m++[m]:=by
 rw [Qm_,if_pos]
 exact h
theorem zKa {c:Cs} {loc m:Nat} (h:(c.at_ (fun x=>wrB x.op) m&&decide ((opX c.t m).loc=(loc:Nat)))=false):W8 c loc (m+1)=W8 c loc m:=by
 rw [Qm_,if_neg]
 intro h2
 have h3:(c.at_ (fun x=>wrB x.op) m&&decide ((opX c.t m).loc=(loc:Nat)))=true:=h2
 rw [h] at h3;cases h3
theorem zXc {c:Cs} {loc m:Nat}:∀ x∈W8 c loc m,x<m:=fun x hx=>List.mem_range.1 (List.mem_filter.1 hx).1
theorem zXd (S:List Nat) (H:A7) (d:Nat):frz S H d (onV none)=onV none:=by cases d<;>rfl
theorem Qw_ (c:Cs) (loc:Nat):W8 c loc 0=[]:=rfl
theorem zDc {σ:Type} {Q:Rn->Prop} {G:σ->A7} {step:σ->Rn->σ} {ok:σ->Prop} {vg:FuncId} {vcs:List V} {j0:Nat} (hV:VisOk Q G step ok vg vcs j0) (c:Cs) (hc:CsOk c) (hS:SeaOk c.t) (of:FuncId) (ws:List Bool) (kept:Rl) (hrl:c.f.regs.length=c.t.ths.length) (f:Nat) (hE:∀ q,f=q+1->∀ m,zgh Q G step ok vg vcs j0 c of ws kept q m):zgg Q G step ok vg vcs j0 c of ws kept f:=by
 intro loc las co s j hloc hlas hQ hs hj
 refine Fn.view ?_
 have hl8:=hlas.len
 have hn8:=hc.n8
 have hlo:=hS.locs
 have g139:loc<=8/\(0:Int)<=(loc:Nat):=by and_intros<;>omega
 have hgn:=hV.names _ hs
 refine B7 T_ok func205 rfl rfl ntmps205 rfl (by simp) ?_
 refine rG ?_ fun K h=>by simp [go_sem,C0 hl8,B3 hl8,B1 hl8,C4 hl8,B0,C2,E8,C1];exact h
 refine A3 fun K1 hK1=>?_
 refine rG ?_ fun K h=>by simp [go_sem,C0 hl8,B3 hl8,B1 hl8,C4 hl8,B0,C2,E8,C1,Y8,E7,Tst.cs];exact h
 refine cK (fun h=>?_) fun h=>?_
 .have hle:loc=c.t.locs.length:=by have h9:(loc:Int)=(c.t.locs.length:Nat):=(by simpa using h);omega
  obtain rfl:f=0:=by omega
  have hLR:=zJf kept c loc las co
  rw [hLR] at hQ
  refine rK fun K hK=>?_
  simp [go_sem,C0 hl8,B3 hl8,B1 hl8,C4 hl8,B0,C2,E8,C1]
  refine Q7 (A:=[_,_]) (G:=G s) (zP8 hV c hc hS of ws kept (poP c) co rfl las hl8 hlas.bd hrl hQ s hs _ (by omega)) fun k2 hk2=>?_
  simp [go_sem]
  apply hK
  refine A4 ?_
  rw [hLR]
  simp [go_sem]
  first
  | exact ⟨_,_,View.tail [] _ _,rfl,rfl⟩
  | exact ⟨_,_,View.tail [_] _ _,rfl,rfl⟩
  | exact ⟨_,_,View.tail [_,_] _ _,rfl,rfl⟩
  | exact ⟨_,_,View.tail [_,_,_] _ _,rfl,rfl⟩
  | exact ⟨_,_,View.tail [_,_,_,_] _ _,rfl,rfl⟩
  | exact ⟨_,_,View.tail [_,_,_,_,_] _ _,rfl,rfl⟩
 have hle:¬ loc=c.t.locs.length:=by have h9:¬ (loc:Int)=(c.t.locs.length:Nat):=(by simpa using h);omega
 obtain ⟨q,rfl⟩:∃ q,f=q+1:=⟨f-1,by omega⟩
 have hLR:=zJg kept c q loc las co
 rw [hLR] at hQ
 have hcn:(M5 0 c.t.ths).length=c.n:=rfl
 have hsl:=zJi c loc c.n
 apply A1
 apply hK1
 refine rG ?_
 refine rK fun K hK=>?_
 simp [go_sem,C0 hl8,B3 hl8,B1 hl8,C4 hl8,B0,C2,E8,C1]
 refine A2 (U2 c hc) ?_
 simp [go_sem,C0 hl8,B3 hl8,B1 hl8,C4 hl8,B0,C2,E8,C1]
 apply hK
 refine A3 fun K2 hK2=>?_
 refine rG ?_ fun K h=>by simp [go_sem,Y8,E7,hcn];exact h
 apply A0
 refine Tr.weaken (Weaker.ghost 8 1 rfl) ?_
 refine A9 (α:=Nat × Nat × Nat) (fun a=>⟨60,[(0,Y8 c.t of ws c.fr vg vcs),(3,iV (loc:Nat)),(5,.ptr j 0 0),(6,.ptr (j+1) 0 0),(9,.val (.int .u16 (D7 (c.at_ fun x=>wrB x.op)))),(8,.sl a.2.1 0 (W8 c loc a.1).length),(32,iV (c.n:Nat)),(33,iV (a.1:Nat))],[(a.2.1,.rows 1 (Q3 (W8 c loc a.1))),(j+1,.rows 16 [.agg (B5 co)]),(j,.rows 41 [.agg (F7 c kept (poP c) las)])]++G s,a.2.2⟩) (fun a=>a.1<=c.n/\j+1<a.2.1/\a.2.1<a.2.2) (fun a=>c.n-a.1) (0,j+2,j+3) ?_ ?_ ?_
 .exact ⟨Nat.zero_le _,by dsimp only;omega,by dsimp only;omega⟩
 .refine Weaker.fzT [_,_,_] _ (G s) 0 (by first|omega|(dsimp only;omega)|exact Nat.le_refl _) ?_ ?_ ?_
  .simp [go_sem,Y8,E7,Tst.cs,Qw_,hcn]
  .first|(simp;done)|(simp;omega)
  simp [go_sem,Qw_,Q3]
 rintro ⟨i,n,kk⟩ ⟨hi,hn,hkk⟩
 dsimp only at hi hn hkk ⊢
 have g140:¬ n=j/\¬ j=n/\¬ n=j+1/\¬ j+1=n/\¬ kk=j/\¬ j=kk/\¬ kk=j+1/\¬ j+1=kk/\¬ n=kk/\¬ kk=n/\¬ kk+1=j/\¬ j=kk+1/\¬ kk+1=j+1/\¬ j+1=kk+1/\¬ kk+1=n/\¬ n=kk+1/\¬ kk+2=j/\¬ j=kk+2/\¬ kk+2=j+1/\¬ j+1=kk+2/\¬ kk+2=n/\¬ n=kk+2/\¬ kk+3=j/\¬ j=kk+3/\¬ kk+3=j+1/\¬ j+1=kk+3/\¬ kk+3=n/\¬ n=kk+3/\¬ kk+4=j/\¬ j=kk+4/\¬ kk+4=j+1/\¬ j+1=kk+4/\¬ kk+4=n/\¬ n=kk+4/\¬ kk+5=j/\¬ j=kk+5/\¬ kk+5=j+1/\¬ j+1=kk+5/\¬ kk+5=n/\¬ n=kk+5/\¬ kk+6=j/\¬ j=kk+6/\¬ kk+6=j+1/\¬ j+1=kk+6/\¬ kk+6=n/\¬ n=kk+6/\¬ kk+7=j/\¬ j=kk+7/\¬ kk+7=j+1/\¬ j+1=kk+7/\¬ kk+7=n/\¬ n=kk+7/\¬ kk+8=j/\¬ j=kk+8/\¬ kk+8=j+1/\¬ j+1=kk+8/\¬ kk+8=n/\¬ n=kk+8/\¬ kk+9=j/\¬ j=kk+9/\¬ kk+9=j+1/\¬ j+1=kk+9/\¬ kk+9=n/\¬ n=kk+9/\¬ kk+10=j/\¬ j=kk+10/\¬ kk+10=j+1/\¬ j+1=kk+10/\¬ kk+10=n/\¬ n=kk+10/\¬ kk+11=j/\¬ j=kk+11/\¬ kk+11=j+1/\¬ j+1=kk+11/\¬ kk+11=n/\¬ n=kk+11/\¬ kk+12=j/\¬ j=kk+12/\¬ kk+12=j+1/\¬ j+1=kk+12/\¬ kk+12=n/\¬ n=kk+12/\¬ kk+13=j/\¬ j=kk+13/\¬ kk+13=j+1/\¬ j+1=kk+13/\¬ kk+13=n/\¬ n=kk+13/\¬ kk+14=j/\¬ j=kk+14/\¬ kk+14=j+1/\¬ j+1=kk+14/\¬ kk+14=n/\¬ n=kk+14/\¬ kk+15=j/\¬ j=kk+15/\¬ kk+15=j+1/\¬ j+1=kk+15/\¬ kk+15=n/\¬ n=kk+15/\¬ kk+16=j/\¬ j=kk+16/\¬ kk+16=j+1/\¬ j+1=kk+16/\¬ kk+16=n/\¬ n=kk+16/\¬ kk+17=j/\¬ j=kk+17/\¬ kk+17=j+1/\¬ j+1=kk+17/\¬ kk+17=n/\¬ n=kk+17/\¬ kk+18=j/\¬ j=kk+18/\¬ kk+18=j+1/\¬ j+1=kk+18/\¬ kk+18=n/\¬ n=kk+18/\¬ kk+19=j/\¬ j=kk+19/\¬ kk+19=j+1/\¬ j+1=kk+19/\¬ kk+19=n/\¬ n=kk+19/\¬ kk+1+1=j/\¬ j=kk+1+1/\¬ kk+1+1=j+1/\¬ j+1=kk+1+1/\¬ kk+1+1=n/\¬ n=kk+1+1/\¬ kk+1+1+1=j/\¬ j=kk+1+1+1/\¬ kk+1+1+1=j+1/\¬ j+1=kk+1+1+1/\¬ kk+1+1+1=n/\¬ n=kk+1+1+1/\¬ kk+1+1+1+1=j/\¬ j=kk+1+1+1+1/\¬ kk+1+1+1+1=j+1/\¬ j+1=kk+1+1+1+1/\¬ kk+1+1+1+1=n/\¬ n=kk+1+1+1+1/\¬ kk+1+1+1+1+1=j/\¬ j=kk+1+1+1+1+1/\¬ kk+1+1+1+1+1=j+1/\¬ j+1=kk+1+1+1+1+1/\¬ kk+1+1+1+1+1=n/\¬ n=kk+1+1+1+1+1:=by and_intros<;>omega
 have hsn0:=I8 hgn (show j0<=n by omega)
 have hsa0:=O4 hgn (show j0<=n by omega)
 have hsm0:=V3 hgn (show j0<=n by omega)
 have hsn1:=I8 hgn (show j0<=kk by omega)
 have hsa1:=O4 hgn (show j0<=kk by omega)
 have hsm1:=V3 hgn (show j0<=kk by omega)
 have hsn2:=I8 hgn (show j0<=kk+1 by omega)
 have hsa2:=O4 hgn (show j0<=kk+1 by omega)
 have hsm2:=V3 hgn (show j0<=kk+1 by omega)
 have hsn3:=I8 hgn (show j0<=kk+1+1 by omega)
 have hsa3:=O4 hgn (show j0<=kk+1+1 by omega)
 have hsm3:=V3 hgn (show j0<=kk+1+1 by omega)
 have hsn4:=I8 hgn (show j0<=kk+1+1+1 by omega)
 have hsa4:=O4 hgn (show j0<=kk+1+1+1 by omega)
 have hsm4:=V3 hgn (show j0<=kk+1+1+1 by omega)
 have hsn5:=I8 hgn (show j0<=kk+1+1+1+1 by omega)
 have hsa5:=O4 hgn (show j0<=kk+1+1+1+1 by omega)
 have hsm5:=V3 hgn (show j0<=kk+1+1+1+1 by omega)
 have hsn6:=I8 hgn (show j0<=kk+2 by omega)
 have hsa6:=O4 hgn (show j0<=kk+2 by omega)
 have hsm6:=V3 hgn (show j0<=kk+2 by omega)
 have hsn7:=I8 hgn (show j0<=kk+3 by omega)
 have hsa7:=O4 hgn (show j0<=kk+3 by omega)
 have hsm7:=V3 hgn (show j0<=kk+3 by omega)
 have hsn8:=I8 hgn (show j0<=kk+4 by omega)
 have hsa8:=O4 hgn (show j0<=kk+4 by omega)
 have hsm8:=V3 hgn (show j0<=kk+4 by omega)
 have htn0:=UP_ hgn (show j0<=n by omega) (show j0<=kk+1+1 by omega)
 have htn1:=UP_ hgn (show j0<=n by omega) (show j0<=kk+2 by omega)
 have hta0:=zAo hgn (show j0<=n by omega) (show j0<=kk+1+1 by omega)
 have hta1:=zAo hgn (show j0<=n by omega) (show j0<=kk+2 by omega)
 refine rG ?_
 refine A3 fun K3 hK3=>?_
 refine cJ (fun h=>?_) fun h=>?_
 .simp at h
  obtain rfl:i=c.n:=by omega
  clear h
  have hEE:=Fn.seen (args:=[Y8 c.t of ws c.fr vg vcs,.agg (F7 c kept (poP c) las),.agg (B5 co),iV (loc:Nat),onV none,.ro 1 (Q3 (W8 c loc c.n))]) (.cons (.refl _) (.cons (.refl _) (.cons (.refl _) (.cons (.refl _) (.cons (zBm 1) (.cons (.refl _) .nil)))))) (hE q rfl _ loc las co [] (W8 c loc c.n) s kk (by omega) hlas rfl (by simp;omega) (fun a h=>nomatch h) zXc hQ hs (by omega))
  apply A6
  apply hK2
  refine rE fun K hK=>?_
  simp [go_sem,C0 hl8,B3 hl8,B1 hl8,C4 hl8,B0,C2,E8,C1,g140,hsn0,hsa0,hsm0,hsn1,hsa1,hsm1,hsn2,hsa2,hsm2,hsn3,hsa3,hsm3,hsn4,hsa4,hsm4,hsn5,hsa5,hsm5,hsn6,hsa6,hsm6,hsn7,hsa7,hsm7,hsn8,hsa8,hsm8,htn0,htn1,hta0,hta1]
  refine W2_ [_,_,_] [(j+1,.rows 16 [.agg (B5 co)]),(j,.rows 41 [.agg (F7 c kept (poP c) las)])] (G s) 1 hEE (by simp only [map_cons,map_nil,zXd];simp [go_sem,Y9,zD9,P6,frz,g140,hsn0,hsa0,hsm0,hsn1,hsa1,hsm1,hsn2,hsa2,hsm2,hsn3,hsa3,hsm3,hsn4,hsa4,hsm4,hsn5,hsa5,hsm5,hsn6,hsa6,hsm6,hsn7,hsa7,hsm7,hsn8,hsa8,hsm8,htn0,htn1,hta0,hta1]) (by simp) (by simp [go_sem,g140,hsn0,hsa0,hsm0,hsn1,hsa1,hsm1,hsn2,hsa2,hsm2,hsn3,hsa3,hsm3,hsn4,hsa4,hsm4,hsn5,hsa5,hsm5,hsn6,hsa6,hsm6,hsn7,hsa7,hsm7,hsn8,hsa8,hsm8,htn0,htn1,hta0,hta1]) fun k3 hk3=>?_
  simp [go_sem]
  apply hK
  refine ⟨.inl rfl,?_⟩
  rw [hLR]
  simp [go_sem]
  first
  | exact ⟨_,_,View.tail [] _ _,rfl,rfl⟩
  | exact ⟨_,_,View.tail [_] _ _,rfl,rfl⟩
  | exact ⟨_,_,View.tail [_,_] _ _,rfl,rfl⟩
  | exact ⟨_,_,View.tail [_,_,_] _ _,rfl,rfl⟩
  | exact ⟨_,_,View.tail [_,_,_,_] _ _,rfl,rfl⟩
  | exact ⟨_,_,View.tail [_,_,_,_,_] _ _,rfl,rfl⟩
 simp at h
 have hin:i<c.n:=by omega
 have hinI:(i:Int)<(c.n:Nat):=by omega
 clear h
 have hw:=wI i
 have hi16:i<16:=by omega
 have g141:(i:Int)<16/\i<=15/\(0:Int)<=(i:Nat):=by and_intros<;>omega
 have hsi:=zJi c loc i
 have g142:(W8 c loc i).length*8<=140737488355328/\((W8 c loc i).length+1)*8<=140737488355328:=by and_intros<;>omega
 apply A1
 apply hK3
 refine A3 fun K4 hK4=>?_
 apply A0
 refine rG ?_ fun K h=>by simp [go_sem,hinI];exact h
 refine D8 T_ok (by decide) ⟨60,[(0,Y8 c.t of ws c.fr vg vcs),(3,iV (loc:Nat)),(5,.ptr j 0 0),(6,.ptr (j+1) 0 0),(9,.val (.int .u16 (D7 (c.at_ fun x=>wrB x.op)))),(8,.sl n 0 (W8 c loc i).length),(32,iV (c.n:Nat)),(33,iV (i:Nat)),(10,iV (i:Nat)),(48,bV (c.at_ (fun x=>wrB x.op) i&&decide ((opX c.t i).loc=(loc:Nat))))],[(n,.rows 1 (Q3 (W8 c loc i))),(j+1,.rows 16 [.agg (B5 co)]),(j,.rows 41 [.agg (F7 c kept (poP c) las)])]++G s,kk⟩ ?_ ?_
 .by_cases c1:c.at_ (fun x=>wrB x.op) i=true
  .simp [go_sem,c1,hi16,g141,B8 hi16,g140,hsn0,hsa0,hsm0,hsn1,hsa1,hsm1,hsn2,hsa2,hsm2,hsn3,hsa3,hsm3,hsn4,hsa4,hsm4,hsn5,hsa5,hsm5,hsn6,hsa6,hsm6,hsn7,hsa7,hsm7,hsn8,hsa8,hsm8,htn0,htn1,hta0,hta1]
   refine A2 (zea c.t hS of ws c.fr vg vcs i hin) ?_
   simp [go_sem,B6,c1,hi16,g141,B8 hi16,g140,hsn0,hsa0,hsm0,hsn1,hsa1,hsm1,hsn2,hsa2,hsm2,hsn3,hsa3,hsm3,hsn4,hsa4,hsm4,hsn5,hsa5,hsm5,hsn6,hsa6,hsm6,hsn7,hsa7,hsm7,hsn8,hsa8,hsm8,htn0,htn1,hta0,hta1]
   refine Weaker.fzT [_,_,_] [(n,.rows 1 (Q3 (W8 c loc i))),(j+1,.rows 16 [.agg (B5 co)]),(j,.rows 41 [.agg (F7 c kept (poP c) las)])] (G s) 1 (by first|exact Nat.le_refl _|omega|(dsimp only;omega)) ?_ ?_ ?_
   .simp [go_sem,c1,B6,G3,g140,hsn0,hsa0,hsm0,hsn1,hsa1,hsm1,hsn2,hsa2,hsm2,hsn3,hsa3,hsm3,hsn4,hsa4,hsm4,hsn5,hsa5,hsm5,hsn6,hsa6,hsm6,hsn7,hsa7,hsm7,hsn8,hsa8,hsm8,htn0,htn1,hta0,hta1]
   .first|(simp;done)|(simp;omega)
   simp [go_sem,c1,B6,G3,g140,hsn0,hsa0,hsm0,hsn1,hsa1,hsm1,hsn2,hsa2,hsm2,hsn3,hsa3,hsm3,hsn4,hsa4,hsm4,hsn5,hsa5,hsm5,hsn6,hsa6,hsm6,hsn7,hsa7,hsm7,hsn8,hsa8,hsm8,htn0,htn1,hta0,hta1]
  simp [go_sem,c1,hi16,g141,B8 hi16,g140,hsn0,hsa0,hsm0,hsn1,hsa1,hsm1,hsn2,hsa2,hsm2,hsn3,hsa3,hsm3,hsn4,hsa4,hsm4,hsn5,hsa5,hsm5,hsn6,hsa6,hsm6,hsn7,hsa7,hsm7,hsn8,hsa8,hsm8,htn0,htn1,hta0,hta1]
  refine Weaker.fzT [_,_,_] [(n,.rows 1 (Q3 (W8 c loc i))),(j+1,.rows 16 [.agg (B5 co)]),(j,.rows 41 [.agg (F7 c kept (poP c) las)])] (G s) 1 (by first|exact Nat.le_refl _|omega|(dsimp only;omega)) ?_ ?_ ?_
  .simp [go_sem,c1,B6,G3,g140,hsn0,hsa0,hsm0,hsn1,hsa1,hsm1,hsn2,hsa2,hsm2,hsn3,hsa3,hsm3,hsn4,hsa4,hsm4,hsn5,hsa5,hsm5,hsn6,hsa6,hsm6,hsn7,hsa7,hsm7,hsn8,hsa8,hsm8,htn0,htn1,hta0,hta1]
  .first|(simp;done)|(simp;omega)
  simp [go_sem,c1,B6,G3,g140,hsn0,hsa0,hsm0,hsn1,hsa1,hsm1,hsn2,hsa2,hsm2,hsn3,hsa3,hsm3,hsn4,hsa4,hsm4,hsn5,hsa5,hsm5,hsn6,hsa6,hsm6,hsn7,hsa7,hsm7,hsn8,hsa8,hsm8,htn0,htn1,hta0,hta1]
 skip
 refine cK (fun h=>?_) fun h=>?_
 .have hst:=h
  refine rF ?_ fun K h=>by simp [go_sem,g142,g140,hsn0,hsa0,hsm0,hsn1,hsa1,hsm1,hsn2,hsa2,hsm2,hsn3,hsa3,hsm3,hsn4,hsa4,hsm4,hsn5,hsa5,hsm5,hsn6,hsa6,hsm6,hsn7,hsa7,hsm7,hsn8,hsa8,hsm8,htn0,htn1,hta0,hta1];exact h
  apply hK4
  refine rF ?_ fun K h=>by simp [go_sem,hw];exact h
  refine ⟨(i+1,kk+1,kk+20),?_,?_,?_⟩
  .exact ⟨by dsimp only;omega,by dsimp only;omega,by dsimp only;omega⟩
  .dsimp only;omega
  refine Weaker.fzT [_,_,_,_] _ (G s) 0 (by first|omega|(dsimp only;omega)) ?_ ?_ ?_
  .simp [go_sem,zDb hst,g140,hsn0,hsa0,hsm0,hsn1,hsa1,hsm1,hsn2,hsa2,hsm2,hsn3,hsa3,hsm3,hsn4,hsa4,hsm4,hsn5,hsa5,hsm5,hsn6,hsa6,hsm6,hsn7,hsa7,hsm7,hsn8,hsa8,hsm8,htn0,htn1,hta0,hta1]
  .first|(simp;done)|(simp;omega)
  simp [go_sem,zDb hst,Xd_,zBx,g140,hsn0,hsa0,hsm0,hsn1,hsa1,hsm1,hsn2,hsa2,hsm2,hsn3,hsa3,hsm3,hsn4,hsa4,hsm4,hsn5,hsa5,hsm5,hsn6,hsa6,hsm6,hsn7,hsa7,hsm7,hsn8,hsa8,hsm8,htn0,htn1,hta0,hta1]
 have hst:=h
 apply A1
 apply hK4
 refine rF ?_ fun K h=>by simp [go_sem,hw];exact h
 refine ⟨(i+1,n,kk+20),?_,?_,?_⟩
 .exact ⟨by dsimp only;omega,by dsimp only;omega,by dsimp only;omega⟩
 .dsimp only;omega
 refine Weaker.fzT [_,_,_] _ (G s) 0 (by first|omega|(dsimp only;omega)) ?_ ?_ ?_
 .simp [go_sem,zKa hst,g140,hsn0,hsa0,hsm0,hsn1,hsa1,hsm1,hsn2,hsa2,hsm2,hsn3,hsa3,hsm3,hsn4,hsa4,hsm4,hsn5,hsa5,hsm5,hsn6,hsa6,hsm6,hsn7,hsa7,hsm7,hsn8,hsa8,hsm8,htn0,htn1,hta0,hta1]
 .first|(simp;done)|(simp;omega)
 simp [go_sem,zKa hst,g140,hsn0,hsa0,hsm0,hsn1,hsa1,hsm1,hsn2,hsa2,hsm2,hsn3,hsa3,hsm3,hsn4,hsa4,hsm4,hsn5,hsa5,hsm5,hsn6,hsa6,hsm6,hsn7,hsa7,hsm7,hsn8,hsa8,hsm8,htn0,htn1,hta0,hta1]
theorem zXe {σ:Type} {Q:Rn->Prop} {G:σ->A7} {step:σ->Rn->σ} {ok:σ->Prop} {vg:FuncId} {vcs:List V} {j0:Nat} (hV:VisOk Q G step ok vg vcs j0) (c:Cs) (hc:CsOk c) (hS:SeaOk c.t) (of:FuncId) (ws:List Bool) (kept:Rl) (hrl:c.f.regs.length=c.t.ths.length) (f:Nat) (hL:zgg Q G step ok vg vcs j0 c of ws kept f):∀ m,zgh Q G step ok vg vcs j0 c of ws kept f m:=by
 intro m
 induction m with
 | zero=>exact zDa hV c hc hS of ws kept hrl f 0 hL fun q hq=>nomatch hq
 | succ m ih=>exact zDa hV c hc hS of ws kept hrl f (m+1) hL fun q hq=>by cases hq;exact ih
theorem zXf {σ:Type} {Q:Rn->Prop} {G:σ->A7} {step:σ->Rn->σ} {ok:σ->Prop} {vg:FuncId} {vcs:List V} {j0:Nat} (hV:VisOk Q G step ok vg vcs j0) (c:Cs) (hc:CsOk c) (hS:SeaOk c.t) (of:FuncId) (ws:List Bool) (kept:Rl) (hrl:c.f.regs.length=c.t.ths.length):∀ f,zgg Q G step ok vg vcs j0 c of ws kept f:=by
 intro f
 induction f with
 | zero=>exact zDc hV c hc hS of ws kept hrl 0 fun q hq=>nomatch hq
 | succ f ih=>exact zDc hV c hc hS of ws kept hrl (f+1) fun q hq m=>by cases hq;exact zXe hV c hc hS of ws kept hrl f ih m
end Go.Proofs.YtmpbalepefpllaaGreat
