/- Texts put together, in order: Gfloe, W13, Gflof, W14, Gflog, W17, W18, W19, Gclitw, W30, Gouta, W15, W31, W32, W33, W34, W60, W61, W35, W36, W37, W38, W39, W40, W42, W43. -/
import Derived.KernelRfl
import Derived.Test.YtmpbalepefpllaaGreatD4
open List
set_option maxRecDepth 100000
set_option maxHeartbeats 16000000
set_option linter.unusedVariables false
set_option linter.unusedSimpArgs false
namespace Go.Proofs.YtmpbalepefpllaaGreat
open Go Go.Sl Go.Proofs.Tryz
theorem zJa (w k:Nat) (h12:12<w) (hw:w<k) (m:Nat) (L R Wh:V) (y:Wk) (f:Fl) (hfl:FlOk m f) (l:List Ins) (hl:∀ x∈l,InsOk x) (hll:l.length<=9223372036854775806) (n:Nat) (hn:n+M8 l<=m) (hm:m<=9223372036854775806) (reads:List Vl) (works:List Bool) (hrl:m<=reads.length) (hwl:m<=works.length):Sl.Fn Tryz.prog 153 [.ptr w 0 0,.ro 13 (Y1 l),iV (n:Nat),.ro 2 (vls reads),.ro 1 (bVs works)] [(w,.rows 29 [.agg (wkC (.ptr 12 0 0) y)]),(12,.rows 9 [.agg [.sl 1 0 m,.sl 3 0 m,.sl 5 0 m,.sl 7 0 m,.sl 9 0 m,.sl 11 0 m,L,R,Wh]]),(1,.rows 1 (iVs f.state)),(3,.rows 2 (vls f.write)),(5,.rows 1 (iVs f.pair)),(7,.rows 1 (uVs f.place)),(9,.rows 1 (uVs f.value)),(11,.rows 1 (uVs f.path))] k fun r H _=>r=bV (runT reads works 0 l ⟨y,f,0,n⟩).2/\H=[(w,.rows 29 [.agg (wkC (.ptr 12 0 0) (runT reads works 0 l ⟨y,f,0,n⟩).1.w)]),(12,.rows 9 [.agg [.sl 1 0 m,.sl 3 0 m,.sl 5 0 m,.sl 7 0 m,.sl 9 0 m,.sl 11 0 m,L,R,Wh]]),(1,.rows 1 (iVs (runT reads works 0 l ⟨y,f,0,n⟩).1.f.state)),(3,.rows 2 (vls (runT reads works 0 l ⟨y,f,0,n⟩).1.f.write)),(5,.rows 1 (iVs (runT reads works 0 l ⟨y,f,0,n⟩).1.f.pair)),(7,.rows 1 (uVs (runT reads works 0 l ⟨y,f,0,n⟩).1.f.place)),(9,.rows 1 (uVs (runT reads works 0 l ⟨y,f,0,n⟩).1.f.value)),(11,.rows 1 (uVs (runT reads works 0 l ⟨y,f,0,n⟩).1.f.path))]:=by
 have g37:¬ w=1/\¬ 1=w/\¬ w=3/\¬ 3=w/\¬ w=5/\¬ 5=w/\¬ w=7/\¬ 7=w/\¬ w=9/\¬ 9=w/\¬ w=11/\¬ 11=w/\¬ w=12/\¬ 12=w/\¬ w=k/\¬ k=w/\¬ w=k+1/\¬ k+1=w/\¬ w=k+2/\¬ k+2=w/\¬ k=0/\¬ 0=k/\¬ k=1/\¬ 1=k/\¬ k=2/\¬ 2=k/\¬ k=3/\¬ 3=k/\¬ k=4/\¬ 4=k/\¬ k=5/\¬ 5=k/\¬ k=6/\¬ 6=k/\¬ k=7/\¬ 7=k/\¬ k=8/\¬ 8=k/\¬ k=9/\¬ 9=k/\¬ k=10/\¬ 10=k/\¬ k=11/\¬ 11=k/\¬ k=12/\¬ 12=k:=by and_intros<;>omega
 refine Sl.Fn.keep (by simp [g37]) ?_
 refine B7 T_ok func153 rfl rfl ntmps153 rfl (by simp) ?_
 refine rG ?_
 refine rG ?_
 refine A3 fun K1 hK1=>?_
 refine rG ?_
 apply A0
 refine A9 (α:=Nat × Ts × Nat) (fun a=>⟨88,[(0,.ptr w 0 0),(3,.ro 2 (vls reads)),(4,.ro 1 (bVs works)),(16,.ro 13 (Y1 l)),(17,iV (l.length:Nat)),(18,iV (a.1:Nat)),(11,iV a.2.1.out),(2,iV (a.2.1.k:Nat))],[(w,.rows 29 [.agg (wkC (.ptr 12 0 0) a.2.1.w)]),(12,.rows 9 [.agg [.sl 1 0 m,.sl 3 0 m,.sl 5 0 m,.sl 7 0 m,.sl 9 0 m,.sl 11 0 m,L,R,Wh]]),(1,.rows 1 (iVs a.2.1.f.state)),(3,.rows 2 (vls a.2.1.f.write)),(5,.rows 1 (iVs a.2.1.f.pair)),(7,.rows 1 (uVs a.2.1.f.place)),(9,.rows 1 (uVs a.2.1.f.value)),(11,.rows 1 (uVs a.2.1.f.path))],a.2.2⟩) (fun a=>a.1<=l.length/\runT reads works a.1 (l.drop a.1) a.2.1=(runT reads works 0 l ⟨y,f,0,n⟩)/\FlOk m a.2.1.f/\a.2.1.k+M8 (l.drop a.1)<=m/\a.2.1.out<=9223372036854775807/\w<a.2.2) (fun a=>l.length-a.1) (0,⟨y,f,0,n⟩,k) ?_ ?_ ?_
 .exact ⟨Nat.zero_le _,by rw [drop_zero],hfl,by rw [drop_zero];exact hn,by dsimp only;omega,hw⟩
 .refine Weaker.fw 1 0 ?_ ?_<;>simp [go_sem,g37]
 rintro ⟨i,s,j⟩ ⟨hi,hrun,hfl,hkm,hout,hwj⟩
 dsimp only at hi hrun hfl hkm hout hwj ⊢
 refine rG ?_
 refine A3 fun K2 hK2=>?_
 refine cJ (fun h=>?_) fun h=>?_
 .simp at h
  obtain rfl:i=l.length:=by omega
  have hR:(runT reads works 0 l ⟨y,f,0,n⟩)=(s,true):=by rw [<-hrun,drop_length];rfl
  apply A6
  apply hK1
  refine rG ?_
  refine A4 ?_
  rw [hR]
  simp [go_sem,B5,g37]
 simp at h
 have hI:=h
 clear h
 have h':i<l.length:=by omega
 obtain ⟨x,hx,hx'⟩:=E0 h'
 have hi0:(0:Int)<=(i:Nat):=by omega
 have hw1:=wI i
 have hok:=hl x (List.mem_of_getElem? hx)
 have hD:=Qt_ hx
 have hKk:=zXh (reads:=reads) (works:=works) (s:=s) hx
 have hO2:=zJ8 (reads:=reads) (works:=works) (i:=i) hout hok
 have hF2:=XB_ (reads:=reads) (works:=works) (i:=i) (x:=x) hfl
 have g38:¬ w=1/\¬ 1=w/\¬ w=3/\¬ 3=w/\¬ w=5/\¬ 5=w/\¬ w=7/\¬ 7=w/\¬ w=9/\¬ 9=w/\¬ w=11/\¬ 11=w/\¬ w=12/\¬ 12=w/\¬ w=j/\¬ j=w/\¬ w=j+1/\¬ j+1=w/\¬ j=0/\¬ 0=j/\¬ j=1/\¬ 1=j/\¬ j=2/\¬ 2=j/\¬ j=3/\¬ 3=j/\¬ j=4/\¬ 4=j/\¬ j=5/\¬ 5=j/\¬ j=6/\¬ 6=j/\¬ j=7/\¬ 7=j/\¬ j=8/\¬ 8=j/\¬ j=9/\¬ 9=j/\¬ j=10/\¬ 10=j/\¬ j=11/\¬ 11=j/\¬ j=12/\¬ 12=j:=by and_intros<;>omega
 obtain ⟨l1,l2,l3,l4,l5,l6⟩:=id hfl
 apply A1
 apply hK2
 refine A3 fun K3 hK3=>?_
 apply A0
 refine rG ?_ fun K h=>by simp [go_sem,B5,hI,hx,hx',hi0,h',g38];exact h
 refine A3 fun K4 hK4=>?_
 refine rG ?_
 refine cK (fun h=>?_) fun h=>?_
 .have ho:0<s.out:=by simpa using h
  clear h
  have hwo:IntKind.i64.wrap (s.out-1)=s.out-1:=E4 (by omega) (by omega)
  have ho':¬ s.out<=0:=by omega
  refine rG ?_ fun K h=>by simp [go_sem,B5,g38,hwo];exact h
  refine dK 6 [[],[0],[0,1],[0,1,2],[],[4],[0,1,2,3,4,5],[0,1,2,3,4,5,6],[0,1,2,3,4,5,6,7],[0,1,2,3,4,5,6,7,8]] fun K hK=>?_
  first|dsimp only [List.take,List.drop]|dsimp [List.take,List.drop]
  simp [go_sem,B5,hI,hx,hx',hi0,h',g38]
  apply hK
  refine A3 fun K5 hK5=>?_
  refine rK fun K hK=>?_
  simp [go_sem,B5,g38]
  refine A2 (P0 x) ?_
  simp [go_sem,B5,g38]
  apply hK
  refine cJ (fun h=>?_) fun h=>?_
  .have hmI:J8 x=false:=by simpa [J8] using h
   clear h
   have hsb:Z4 x s=true:=by simp [Z4,ho,hmI,ho']
   have hrun2:=(q9 (reads:=reads) (works:=works) hx hsb).symm.trans hrun
   apply A1
   apply hK5
   apply A6
   apply hK3
   refine rF ?_ fun K h=>by simp [go_sem,hw1];exact h
   refine ⟨(i+1,stepT reads works i x s,j+7),?_,?_,?_⟩
   .exact ⟨by omega,hrun2,hF2,by dsimp only at hKk ⊢;omega,hO2,by dsimp only;omega⟩
   .dsimp only;omega
   refine Weaker.fw 1 0 ?_ ?_<;>simp [go_sem,stepT,ho,hmI,g38]
  have hmI:J8 x=true:=h
  have hmB:G4 x.op=true:=h
  clear h
  rw [if_pos hmI] at hD
  have g39:(s.k:Int)<(m:Nat)/\s.k<s.f.state.length/\(0:Int)<=(s.k:Nat):=by and_intros<;>omega
  have hwk:IntKind.i64.wrap ((s.k:Nat)+1)=(s.k:Nat)+1:=E4 (by omega) (by omega)
  have hsb:Z4 x s=true:=by simp [Z4,ho,hmI,ho']
  have hrun2:=(q9 (reads:=reads) (works:=works) hx hsb).symm.trans hrun
  refine rG ?_ fun K h=>by simp [go_sem,B5,g38,g39];exact h
  refine rF ?_ fun K h=>by simp [go_sem,B5,g38,hwk];exact h
  apply hK5
  apply A6
  apply hK3
  refine rF ?_ fun K h=>by simp [go_sem,hw1];exact h
  refine ⟨(i+1,stepT reads works i x s,j+7),?_,?_,?_⟩
  .exact ⟨by omega,hrun2,hF2,by dsimp only at hKk ⊢;omega,hO2,by dsimp only;omega⟩
  .dsimp only;omega
  refine Weaker.fw 1 0 ?_ ?_<;>simp [go_sem,stepT,ho,hmI,g38]
 have ho:¬ 0<s.out:=by simpa using h
 clear h
 have ho':s.out<=0:=by omega
 apply A1
 apply hK4
 apply A0
 refine rK fun K hK=>?_
 simp [go_sem,B5,g38]
 refine A2 (P0 x) ?_
 simp [go_sem,B5,g38]
 apply hK
 refine cK (fun h=>?_) fun h=>?_
 .have hmI:J8 x=true:=h
  have hmB:G4 x.op=true:=h
  clear h
  rw [if_pos hmI] at hD
  have g40:(s.k:Int)<(m:Nat)/\s.k<s.f.state.length/\(0:Int)<=(s.k:Nat):=by and_intros<;>omega
  have hwk:IntKind.i64.wrap ((s.k:Nat)+1)=(s.k:Nat)+1:=E4 (by omega) (by omega)
  have hsb:Z4 x s=true:=by simp [Z4,ho,hmI]
  have hrun2:=(q9 (reads:=reads) (works:=works) hx hsb).symm.trans hrun
  obtain ⟨r,hr,hr'⟩:=E0 (show s.k<reads.length by omega)
  obtain ⟨b,hb,hb'⟩:=E0 (show s.k<works.length by omega)
  have g41:(s.k:Int)<(reads.length:Nat)/\(s.k:Int)<(works.length:Nat):=by and_intros<;>omega
  refine dK 11 [[],[],[],[],[],[3,4],[3,4,5],[],[],[7,8],[7,8,9],[0,1,2,3,4,5,6,7,8,9,10]] fun K hK=>?_
  first|dsimp only [List.take,List.drop]|dsimp [List.take,List.drop]
  simp [go_sem,B5,g38,g40,g41,hr,hb,hr',hb']
  refine D7 (zfu w _ h12 (by omega) m L R Wh s.w s.f hfl x hok s.k (by omega) (by omega) r b) rfl (by simp [g38]) (by simp [go_sem,g38]) fun k9 hk9=>?_
  simp [go_sem,B5,g38]
  apply hK
  refine rF ?_ fun K h=>by simp [go_sem,hwk];exact h
  apply hK3
  refine rF ?_ fun K h=>by simp [go_sem,hw1];exact h
  refine ⟨(i+1,stepT reads works i x s,k9),?_,?_,?_⟩
  .exact ⟨by omega,hrun2,hF2,by dsimp only at hKk ⊢;omega,hO2,by dsimp only;omega⟩
  .dsimp only;omega
  refine Weaker.fw 1 0 ?_ ?_
  .simp [go_sem,stepT,ho,hmI,hr,hr',hb,hb',g38,hr,hb]
  simp [go_sem,stepT,ho,hmI,hr,hr',hb,hb',g38]
 have hmI:J8 x=false:=by simpa [J8] using h
 clear h
 refine D8 T_ok (by decide) ⟨88,[(0,.ptr w 0 0),(3,.ro 2 (vls reads)),(4,.ro 1 (bVs works)),(16,.ro 13 (Y1 l)),(17,iV (l.length:Nat)),(18,iV (i:Nat)),(11,iV s.out),(2,iV (s.k:Nat)),(13,.ptr j 0 0),(69,bV (VL_ x.op))],[(j,.rows 13 [B5 x]),(w,.rows 29 [.agg (wkC (.ptr 12 0 0) s.w)]),(12,.rows 9 [.agg [.sl 1 0 m,.sl 3 0 m,.sl 5 0 m,.sl 7 0 m,.sl 9 0 m,.sl 11 0 m,L,R,Wh]]),(1,.rows 1 (iVs s.f.state)),(3,.rows 2 (vls s.f.write)),(5,.rows 1 (iVs s.f.pair)),(7,.rows 1 (uVs s.f.place)),(9,.rows 1 (uVs s.f.value)),(11,.rows 1 (uVs s.f.path))],j+1⟩ ?_ ?_
 .by_cases c1:x.op=16
  .simp [go_sem,c1,B5,g38]
   refine Weaker.fw 1 0 ?_ ?_<;>simp [go_sem,c1,B5,g38,VL_,G8]
  simp [go_sem,c1,B5,g38]
  refine Weaker.fw 1 0 ?_ ?_<;>simp [go_sem,c1,B5,g38,VL_,G8]
 skip
 refine cJ (fun h=>?_) fun h=>?_
 .have hbr:VL_ x.op=false:=by simpa using h
  clear h
  have hsb:Z4 x s=true:=by simp [Z4,ho,hmI,hbr]
  have hrun2:=(q9 (reads:=reads) (works:=works) hx hsb).symm.trans hrun
  refine rE fun K hK=>?_
  simp [go_sem,B5,g38]
  refine D7 (zPp w _ (by omega) (.ptr 12 0 0) rfl s.w x hok) rfl (by simp) (by simp [go_sem,g38]) fun k9 hk9=>?_
  simp [go_sem,B5,g38]
  apply hK
  apply hK3
  refine rF ?_ fun K h=>by simp [go_sem,hw1];exact h
  refine ⟨(i+1,stepT reads works i x s,k9),?_,?_,?_⟩
  .exact ⟨by omega,hrun2,hF2,by dsimp only at hKk ⊢;omega,hO2,by dsimp only;omega⟩
  .dsimp only;omega
  refine Weaker.fw 1 0 ?_ ?_<;>simp [go_sem,stepT,ho,hmI,hbr,g38]
 have hbr:VL_ x.op=true:=by simpa using h
 clear h
 refine rK fun K hK=>?_
 simp [go_sem,B5,g38]
 refine D7 (zJ9 w _ (by omega) (.ptr 12 0 0) rfl s.w x hok) rfl (by simp) (by simp [go_sem,g38]) fun k9 hk9=>?_
 simp [go_sem,B5,g38]
 apply hK
 refine A3 fun K6 hK6=>?_
 refine rG ?_ fun K h=>by simp [go_sem,B5,g38];exact h
 refine cK (fun h=>?_) fun h=>?_
 .have hbK:brK s.w x=false:=by simpa using h
  clear h
  have hsb:Z4 x s=false:=by simp [Z4,ho',hmI,hbr,hbK]
  have hR:(runT reads works 0 l ⟨y,f,0,n⟩)=(stepT reads works i x s,false):=by rw [<-hrun];exact zJ7 hx hsb
  refine rG ?_
  refine A4 ?_
  rw [hR]
  simp [go_sem,stepT,ho,hmI,hbr,g38]
 have hbK:brK s.w x=true:=by simpa using h
 clear h
 have hsb:Z4 x s=true:=by simp [Z4,ho,hmI,hbr,hbK]
 have hrun2:=(q9 (reads:=reads) (works:=works) hx hsb).symm.trans hrun
 apply A1
 apply hK6
 refine rF ?_ fun K h=>by simp [go_sem,B5,g38];exact h
 apply hK3
 refine rF ?_ fun K h=>by simp [go_sem,hw1];exact h
 refine ⟨(i+1,stepT reads works i x s,k9),?_,?_,?_⟩
 .exact ⟨by omega,hrun2,hF2,by dsimp only at hKk ⊢;omega,hO2,by dsimp only;omega⟩
 .dsimp only;omega
 refine Weaker.fw 1 0 ?_ ?_<;>simp [go_sem,stepT,ho,hmI,hbr,g38]
theorem ZF_ (th:Nat):∀ (i:Nat) (l l':List Ins),Yr_ th i (l++l')=Yr_ th i l++Yr_ th (i+l.length) l'
 | i,[],l'=>by simp [Yr_]
 | i,x::l,l'=>by
  have:=ZF_ th (i+1) l l'
  have e:i+1+l.length=i+(l.length+1):=by omega
  simp only [cons_append,Yr_,this,length_cons,e]
  split<;>simp
theorem X3_:∀ (i:Nat) (l l':List (List Ins)),O0 i (l++l')=O0 i l++O0 (i+l.length) l'
 | i,[],l'=>by simp [O0]
 | i,x::l,l'=>by
  have:=X3_ (i+1) l l'
  have e:i+1+l.length=i+(l.length+1):=by omega
  simp only [cons_append,O0,this,length_cons,e,append_assoc]
def opO (t:List (List Ins)) (i:Nat):List (Nat × Nat):=O0 0 (t.take i)
def opP (t:List (List Ins)) (i:Nat) (l:List Ins) (b:Nat):List (Nat × Nat):=opO t i++Yr_ i 0 (l.take b)
theorem zDc (t:List (List Ins)):opO t 0=[]:=rfl
theorem zXk (t:List (List Ins)):opO t t.length=O0 0 t:=by unfold opO;rw [take_length]
theorem zPq (t:List (List Ins)) (i:Nat) (l:List Ins):opP t i l 0=opO t i:=by simp [opP,Yr_]
theorem zJb {t:List (List Ins)} {i:Nat} {l:List Ins} {b:Nat} {x:Ins} (h:l[b]?=some x) (hm:J8 x=true):opP t i l (b+1)=opP t i l b++[(i,b)]:=by
 have hb:(l.take b).length=b:=by rw [length_take];have:=(List.getElem?_eq_some_iff.1 h).1;omega
 unfold opP
 rw [N6 h,ZF_,hb]
 simp [Yr_,hm]
theorem zfv {t:List (List Ins)} {i:Nat} {l:List Ins} {b:Nat} {x:Ins} (h:l[b]?=some x) (hm:J8 x=false):opP t i l (b+1)=opP t i l b:=by
 unfold opP
 rw [N6 h,ZF_]
 simp [Yr_,hm]
theorem zXl {t:List (List Ins)} {i:Nat} {l:List Ins} (h:t[i]?=some l):opP t i l l.length=opO t (i+1):=by
 have hb:(t.take i).length=i:=by rw [length_take];have:=(List.getElem?_eq_some_iff.1 h).1;omega
 unfold opP opO
 rw [N6 h,X3_,hb,take_length]
 simp [O0]
theorem zAq (l:List Ins):M8 l<=l.length:=countP_le_length
theorem zAr {n:Nat}:∀ (i:Nat) (l:List (List Ins)),(∀ x∈l,x.length<=n)->(O0 i l).length<=n*l.length
 | _,[],_=>by simp [O0]
 | i,x::l,h=>by
  have:=zAr (i+1) l fun y hy=>h y (by simp [hy])
  have h1:=h x (by simp)
  have h2:=zAq x
  simp only [O0,length_append,j4,length_cons,Nat.mul_succ]
  omega
theorem zXm {t:List (List Ins)} {i:Nat} {l:List Ins} {b:Nat} (h:∀ x∈t,x.length<=1000) (ht:t.length<=1000) (hl:l.length<=1000):(opP t i l b).length<=1001000:=by
 have h1:=zAr 0 (t.take i) fun x hx=>h x (mem_of_mem_take hx)
 have h2:=zAq (l.take b)
 rw [length_take] at h1 h2
 unfold opP opO
 rw [length_append,j4]
 have:1000*min i t.length<=1000*1000:=Nat.mul_le_mul_left _ (by omega)
 omega
@[go_sem] theorem zjf (l:List (Nat × Nat)):(j3 l).length=l.length:=length_map ..
@[go_sem] theorem zfw (l:List (Nat × Nat)) (n:Nat):(j3 l).take n=j3 (l.take n):=(map_take ..).symm
@[go_sem] theorem P3 (l:List (Nat × Nat)) (i:Nat):(j3 l)[i]?=l[i]?.map fun p=>V.agg [iV (p.1:Nat),iV (p.2:Nat)]:=List.getElem?_map ..
theorem zAs (l:List (Nat × Nat)) (a b:Nat):j3 l++[V.agg [iV (a:Nat),iV (b:Nat)]]=j3 (l++[(a,b)]):=by simp [j3,opC]
theorem zPr:j3 []=[]:=rfl
theorem zXn (l:List (Nat × Nat)):NL (.ro 2 (j3 l)):=.ro fun v hv=>by obtain ⟨a,_,rfl⟩:=List.mem_map.1 hv;exact .cons (.val _) (.cons (.val _) .nil)
theorem zSt (t:Tst) (ht:t.ths.length<=1000) (hl:∀ x∈t.ths,x.length<=1000):Pf Tryz.prog 87 [.rp t.cs 0] (.ro 2 (j3 (O0 0 t.ths))):=by
 refine Pf.of_fz 1 (.cons (x5 t) .nil) (zXn _) ?_
 refine B7 T_ok func87 rfl rfl ntmps87 rfl (by simp) ?_
 refine rG ?_
 refine rG ?_
 refine A3 fun K1 hK1=>?_
 refine rG ?_ fun K h=>by simp [go_sem,Tst.cs];exact h
 apply A0
 refine Tr.weaken (Weaker.ghost 3 2 rfl) ?_
 refine A9 (α:=Nat × Nat × Nat) (fun a=>⟨36,[(11,.ro 1 (O3 t.ths)),(12,iV (t.ths.length:Nat)),(13,iV (a.1:Nat)),(3,.sl a.2.1 0 (opO t.ths a.1).length)],[(a.2.1,.rows 2 (j3 (opO t.ths a.1)))],a.2.1+a.2.2+1⟩) (fun a=>a.1<=t.ths.length) (fun a=>t.ths.length-a.1) (0,0,0) ?_ ?_ ?_
 .dsimp only;omega
 .refine Weaker.fw 1 0 ?_ ?_
  .simp [go_sem,zDc,Tst.cs]
  simp [go_sem,zDc,zPr]
 rintro ⟨i,r,c⟩ hi
 dsimp only at hi ⊢
 refine rG ?_
 refine A3 fun K2 hK2=>?_
 refine cJ (fun h=>?_) fun h=>?_
 .simp at h
  obtain rfl:i=t.ths.length:=by omega
  apply A6
  apply hK1
  refine rG ?_
  refine A4 ?_
  simp [go_sem,zXk]
 simp at h
 have hI:=h
 clear h
 have h':i<(t.ths).length:=by omega
 obtain ⟨l,hx,hx'⟩:=E0 h'
 have hi0:(0:Int)<=(i:Nat):=by omega
 have hll:=hl l (List.mem_of_getElem? hx)
 have hw:=wI i
 apply A1
 apply hK2
 refine A3 fun K3 hK3=>?_
 apply A0
 refine rG ?_ fun K h=>by simp [go_sem,hI,hx,hx',hi0,h'];exact h
 refine rG ?_
 apply A0
 refine A9 (α:=Nat × Nat × Nat) (fun b=>⟨36,[(11,.ro 1 (O3 t.ths)),(12,iV (t.ths.length:Nat)),(13,iV (i:Nat)),(4,iV (i:Nat)),(18,.ro 13 (Y1 l)),(19,iV (l.length:Nat)),(20,iV (b.1:Nat)),(3,.sl b.2.1 0 (opP t.ths i l b.1).length)],[(b.2.1,.rows 2 (j3 (opP t.ths i l b.1)))],b.2.1+b.2.2+1⟩) (fun b=>b.1<=l.length) (fun b=>l.length-b.1) (0,r,c) ?_ ?_ ?_
 .dsimp only;omega
 .refine Weaker.fw 1 0 ?_ ?_<;>simp [go_sem,zPq]
 rintro ⟨b,r,c⟩ hib
 dsimp only at hib ⊢
 refine rG ?_
 refine A3 fun K4 hK4=>?_
 refine cJ (fun h=>?_) fun h=>?_
 .simp at h
  obtain rfl:b=l.length:=by omega
  apply A6
  apply hK3
  refine rF ?_ fun K h=>by simp [go_sem,hw];exact h
  refine ⟨(i+1,r,c),?_,?_,?_⟩
  .dsimp only;omega
  .dsimp only;omega
  refine Weaker.fw 1 0 ?_ ?_<;>simp [go_sem,zXl hx]
 simp at h
 have hI2:=h
 clear h
 have h'2:b<(l).length:=by omega
 obtain ⟨x,hx2,hx'2⟩:=E0 h'2
 have hi02:(0:Int)<=(b:Nat):=by omega
 have hw2:=wI b
 apply A1
 apply hK4
 refine A3 fun K5 hK5=>?_
 apply A0
 refine rG ?_ fun K h=>by simp [go_sem,hI2,hx2,hx'2,hi02,h'2,B5];exact h
 refine rK fun K hK=>?_
 simp [go_sem,B5]
 refine A2 (P0 x) ?_
 simp [go_sem]
 apply hK
 refine cJ (fun h=>?_) fun h=>?_
 .have hm:J8 x=false:=by simpa [J8] using h
  clear h
  apply A1
  apply hK5
  refine rF ?_ fun K h=>by simp [go_sem,hw2];exact h
  refine ⟨(b+1,r,c+1),?_,?_,?_⟩
  .dsimp only;omega
  .dsimp only;omega
  refine Weaker.fw 1 0 ?_ ?_<;>simp [go_sem,zfv hx2 hm]
 have hm:J8 x=true:=h
 clear h
 have hpl:=zXm (i:=i) (l:=l) (b:=b) hl ht hll
 refine rE fun K hK=>?_
 simp [go_sem]
 refine ⟨by omega,?_⟩
 apply hK
 apply hK5
 refine rF ?_ fun K h=>by simp [go_sem,hw2];exact h
 refine ⟨(b+1,r+c+3,0),?_,?_,?_⟩
 .dsimp only;omega
 .dsimp only;omega
 refine Weaker.fw 1 0 ?_ ?_
 .simp [go_sem,zJb hx2 hm]
 simp [go_sem,zJb hx2 hm,zAs]
def wkI (b:Nat):Wk:={ regs:=fun r=>⟨decide (r<b),0⟩,hangs:=fun _=>0,path:=0,left:=0,lr:=0,lrLoc:=0 }
@[go_sem high] theorem zjg (f:V):V.agg [f,bV false,uV 0,bV false,uV 0,bV false,uV 0,bV false,uV 0,bV false,uV 0,bV false,uV 0,bV false,uV 0,bV false,uV 0,uV 0,uV 0,uV 0,uV 0,uV 0,uV 0,uV 0,uV 0,uV 0,uV 0,iV 0,iV 0]=.agg (wkC f (wkI 0)):=Eq.trans rfl rfl
theorem zPs (f:V) (b:Nat):wkC f { regs:=fun q=>if q=b then ⟨true,((wkI b).regs b).v⟩ else (wkI b).regs q,hangs:=(wkI b).hangs,path:=(wkI b).path,left:=(wkI b).left,lr:=(wkI b).lr,lrLoc:=(wkI b).lrLoc }=wkC f (wkI (b+1)):=by
 congr 1
 unfold wkI
 simp only [Wk.mk.injEq,and_true]
 funext q
 by_cases h:q=b
 .subst h;simp
 rw [if_neg h]
 simp only [Vl.mk.injEq,and_true]
 rw [Bool.eq_iff_iff,decide_eq_true_eq,decide_eq_true_eq];omega
theorem zfx {f:V} {x:Wk} (hf:f.one=true):∀ c∈wkC f x,c.one=true:=(C9.1 (zXd (x:=x) hf)).2
theorem zDd (g:Nat->Vl):∀ c∈q8 g,c.one=true:=(C9.1 (zFw (g:=g))).2
theorem zfy (f:V):wkC f (wkI 8)=wkC f w0:=rfl
def zfz (g:Nat->Vl) (b:Nat):Bool:=(List.range b).all fun r=>(g r).k
theorem zJc (g:Nat->Vl):zfz g 0=true:=rfl
theorem zJd (g:Nat->Vl) (b:Nat):zfz g (b+1)=(zfz g b&&(g b).k):=by unfold zfz;rw [range_succ,all_append];simp
def whP (s r:Bool) (g:Nat->Vl) (b:Nat):Bool:=s&&r&&zfz g b
theorem zPt (s r:Bool) (g:Nat->Vl):whP s r g 0=(s&&r):=by simp [whP,zJc]
theorem zDe (s r:Bool) (g:Nat->Vl) (b:Nat):whP s r g (b+1)=(whP s r g b&&(g b).k):=by simp [whP,zJd,Bool.and_assoc]
theorem zn9 (s r:Bool) (g:Nat->Vl):whP s r g 8=(s&&r&&zby g):=rfl
def kP (k:Nat) (l:List Ins) (b:Nat):Nat:=k+M8 (l.take b)
theorem zXo (k:Nat) (l:List Ins):kP k l 0=k:=by simp [kP,M8]
theorem r5 {l:List Ins} {b:Nat} {x:Ins} (h:l[b]?=some x):M8 (l.take (b+1))=M8 (l.take b)+if J8 x then 1 else 0:=by
 unfold M8
 rw [N6 h,countP_append,countP_cons]
 simp
theorem zg0 {k:Nat} {l:List Ins} {b:Nat} {x:Ins} (h:l[b]?=some x) (hm:J8 x=true):kP k l (b+1)=kP k l b+1:=by unfold kP;rw [r5 h,if_pos hm];omega
theorem zna {k:Nat} {l:List Ins} {b:Nat} {x:Ins} (h:l[b]?=some x) (hm:J8 x=false):kP k l (b+1)=kP k l b:=by unfold kP;rw [r5 h,hm];simp
theorem zg1 (k:Nat) (l:List Ins):kP k l l.length=k+M8 l:=by unfold kP;rw [take_length]
theorem znb (k:Nat) (l:List Ins) (b:Nat):kP k l b<=k+l.length:=by
 unfold kP
 have:=zAq (l.take b)
 rw [length_take] at this;omega
theorem zJe {m:Nat} {reads:List Vl} {works:List Bool}:∀ (i:Nat) (l:List Ins) (s:Ts),FlOk m s.f->FlOk m (runT reads works i l s).1.f
 | _,[],_,h=>h
 | i,x::l,s,h=>by
  unfold runT
  split
  .exact zJe (i+1) l _ (XB_ h)
  exact XB_ h
theorem XC_ {m:Nat} {reads:List Vl} {works:List Bool} {l:List Ins} {s:Os'} (h:FlOk m s.f):FlOk m (Zh_ reads works l s).f:=zJe _ _ _ h
theorem zAt (n:Nat):FlOk n (f0 n):=⟨by simp [f0],by simp [f0],by simp [f0],by simp [f0],by simp [f0],by simp [f0]⟩
def ZG_ (t:Tst) (i:Nat):Nat:=((t.ths.drop i).map M8).sum
theorem Qv_ {t:Tst} {i:Nat} {l:List Ins} (h:t.ths[i]?=some l):ZG_ t i=M8 l+ZG_ t (i+1):=by unfold ZG_;rw [N7 h];simp
theorem zJf {t:Tst} {reads:List Vl} {works:List Bool} {i:Nat} {l:List Ins} {s:Os'} (h:t.ths[i]?=some l):X2_ reads works (t.ths.drop i) s=X2_ reads works (t.ths.drop (i+1)) (Zh_ reads works l s):=by rw [N7 h,X2_]
@[go_sem] theorem zSu (l:List (Nat->Vl)):(F7 l).length=l.length:=length_map ..
@[go_sem] theorem zPu (l:List (Nat->Vl)) (n:Nat):(F7 l).take n=F7 (l.take n):=(map_take ..).symm
theorem X4_ (l:List (Nat->Vl)) (g:Nat->Vl):F7 l++[V.agg (q8 g)]=F7 (l++[g]):=by simp [F7]
theorem Qw_:F7 []=[]:=rfl
@[go_sem] theorem zjh (l:List Int) (n:Nat):(uVs l).take n=uVs (l.take n):=(map_take ..).symm
@[go_sem] theorem zji (l:List Int) (n:Nat):(iVs l).take n=iVs (l.take n):=(map_take ..).symm
@[go_sem] theorem zjj (l:List Vl) (n:Nat):(vls l).take n=vls (l.take n):=(map_take ..).symm
theorem zFx (l:List Int) (n:Int):uVs l++[uV n]=uVs (l++[n]):=by simp [uVs]
theorem zJg:uVs []=[]:=rfl
theorem zXp (l:List (Nat->Vl)):NL (.ro 16 (F7 l)):=.ro fun v hv=>by obtain ⟨g,_,rfl⟩:=List.mem_map.1 hv;exact zXe g
theorem UK_ (s:Os'):NL (.rp s.cs 0):=.rp (.cons (Qs_ _) (.cons (zJ6 _) (.cons (Qs_ _) (.cons (X1_ _) (.cons (X1_ _) (.cons (X1_ _) (.cons (X1_ _) (.cons (zXp _) (.cons (.val _) .nil)))))))))
theorem zXq (t:Tst) (ht:t.ths.length<=1000) (hl:∀ x∈t.ths,x.length<=1000) (hok:∀ l∈t.ths,∀ x∈l,InsOk x) (reads:List Vl) (works:List Bool) (hrl:Z3_ t<=reads.length) (hwl:Z3_ t<=works.length):Pf Tryz.prog 112 [.rp t.cs 0,.ro 2 (vls reads),.ro 1 (bVs works)] (.rp (D5 t reads works).cs 0):=by
 refine Pf.of_fz 2 (.cons (x5 t) (.cons (zJ6 _) (.cons (zSs _) .nil))) (UK_ _) ?_
 have hmle:Z3_ t<=1000*t.ths.length:=by unfold Z3_;rw [<-Zg_ 0];exact zAr 0 _ hl
 have hopl:(O0 0 t.ths).length=Z3_ t:=Zg_ 0 _
 have hleft0:ZG_ t 0=Z3_ t:=by unfold ZG_ Z3_;rw [drop_zero]
 have hflow:X2_ reads works (t.ths.drop 0) ⟨f0 (Z3_ t),[],[],true,0⟩=D5 t reads works:=rfl
 generalize Z3_ t=m at *
 have g42:m<=1000000/\(0:Int)<=(m:Nat)/\(8:Int)*(m:Nat)<=281474976710656/\(16:Int)*(m:Nat)<=281474976710656/\(m:Int)<=9223372036854775807:=by and_intros<;>omega
 refine B7 T_ok func112 rfl rfl ntmps112 rfl (by simp) ?_
 refine rG ?_
 refine rK fun K hK=>?_
 simp [go_sem]
 refine A2 (zSt t ht hl) ?_
 simp [go_sem,hopl]
 apply hK
 refine S8 T_ok (by kernel_rfl) 12 [[],[0],[],[2],[],[4],[],[6],[],[8],[],[10],[0,1,2,3,4,5,6,7,8,9,10,11],[0,1,2,3,4,5,6,7,8,9,10,11,12],[0,1,2,3,4,5,6,7,8,9,10,11,12,13]] [(1,2),(0,3),(1,3),(1,4),(3,4),(0,5),(1,5),(2,5),(3,5),(1,6),(3,6),(5,6),(0,7),(1,7),(2,7),(3,7),(4,7),(5,7),(1,8),(3,8),(5,8),(7,8),(0,9),(1,9),(2,9),(3,9),(4,9),(5,9),(6,9),(7,9),(1,10),(3,10),(5,10),(7,10),(9,10),(0,11),(1,11),(2,11),(3,11),(4,11),(5,11),(6,11),(7,11),(8,11),(9,11)] (by decide) (by decide) (by decide) fun K hK=>?_
 first|dsimp only [List.take,List.drop]|dsimp [List.take,List.drop]
 simp [go_sem,g42]
 apply hK
 refine rG ?_
 refine A3 fun K1 hK1=>?_
 refine rG ?_ fun K h=>by simp [go_sem,Tst.cs];exact h
 apply A0
 refine Tr.weaken (Weaker.ghostH (sz:=9) (es:=[.agg [.sl 1 0 m,.sl 3 0 m,.sl 5 0 m,.sl 7 0 m,.sl 9 0 m,.sl 11 0 m,.val (.slice none 0 0),.val (.slice none 0 0),bV true]]) 12 16 [.agg [.sl 1 0 m,.sl 3 0 m,.sl 5 0 m,.sl 7 0 m,.sl 9 0 m,.sl 11 0 m,.val (.slice none 0 0),.sl 13 0 0,bV true]] (by simp [Sl.look]) (by simp) (by simp) (by simp [V.fits,V.cells,V.one]) (by simp only [flatMap_cons,flatMap_nil,V.cells,append_nil];exact .same (.same (.same (.same (.same (.same (.same (.to (.same .nil)))))))))) ?_
 simp only [Sl.put,if_true,if_false,Nat.reduceEqDiff,reduceIte]
 refine Tr.weaken (Weaker.ghostH (sz:=9) (es:=[.agg [.sl 1 0 m,.sl 3 0 m,.sl 5 0 m,.sl 7 0 m,.sl 9 0 m,.sl 11 0 m,.val (.slice none 0 0),.sl 13 0 0,bV true]]) 12 1 [.agg [.sl 1 0 m,.sl 3 0 m,.sl 5 0 m,.sl 7 0 m,.sl 9 0 m,.sl 11 0 m,.sl 14 0 0,.sl 13 0 0,bV true]] (by simp [Sl.look]) (by simp) (by simp) (by simp [V.fits,V.cells,V.one]) (by simp only [flatMap_cons,flatMap_nil,V.cells,append_nil];exact .same (.same (.same (.same (.same (.same (.to (.same (.same .nil)))))))))) ?_
 simp only [Sl.put,if_true,if_false,Nat.reduceEqDiff,reduceIte]
 refine A9 (α:=Nat × Os' × Nat × Nat × Nat) (fun a=>⟨125,[(0,.rp t.cs 0),(1,.ro 2 (vls reads)),(2,.ro 1 (bVs works)),(8,.ptr 12 0 0),(38,.ro 1 (O3 t.ths)),(39,iV (t.ths.length:Nat)),(9,iV (a.2.1.k:Nat)),(40,iV (a.1:Nat))],[(12,.rows 9 [.agg [.sl 1 0 m,.sl 3 0 m,.sl 5 0 m,.sl 7 0 m,.sl 9 0 m,.sl 11 0 m,.sl a.2.2.2.1 0 a.2.1.left.length,.sl a.2.2.2.2 0 a.2.1.regs.length,bV a.2.1.whole]]),(1,.rows 1 (iVs a.2.1.f.state)),(3,.rows 2 (vls a.2.1.f.write)),(5,.rows 1 (iVs a.2.1.f.pair)),(7,.rows 1 (uVs a.2.1.f.place)),(9,.rows 1 (uVs a.2.1.f.value)),(11,.rows 1 (uVs a.2.1.f.path)),(a.2.2.2.1,.rows 1 (uVs a.2.1.left)),(a.2.2.2.2,.rows 16 (F7 a.2.1.regs))],a.2.2.1⟩) (fun a=>a.1<=t.ths.length/\X2_ reads works (t.ths.drop a.1) a.2.1=D5 t reads works/\FlOk m a.2.1.f/\a.2.1.k+ZG_ t a.1<=m/\a.2.1.left.length=a.1/\a.2.1.regs.length=a.1/\12<a.2.2.2.1/\12<a.2.2.2.2/\a.2.2.2.1≠a.2.2.2.2/\a.2.2.2.1<a.2.2.1/\a.2.2.2.2<a.2.2.1) (fun a=>t.ths.length-a.1) (0,⟨f0 m,[],[],true,0⟩,15,14,13) ?_ ?_ ?_
 .exact ⟨Nat.zero_le _,hflow,zAt m,by dsimp only;omega,rfl,rfl,by dsimp only;omega,by dsimp only;omega,by dsimp only;omega,by dsimp only;omega,by dsimp only;omega⟩
 .refine Weaker.fw 1 0 ?_ ?_
  .simp [go_sem,Tst.cs,f0]
  simp [go_sem,f0,zJ4,zJ5,X0_,zJg,Qw_]
 rintro ⟨i,s,j,rL,rR⟩ ⟨hi,hrun,hfl,hkm,hll,hrl2,hL12,hR12,hLR,hLj,hRj⟩
 dsimp only at hi hrun hfl hkm hll hrl2 hL12 hR12 hLR hLj hRj ⊢
 refine rG ?_
 refine A3 fun K2 hK2=>?_
 refine cJ (fun h=>?_) fun h=>?_
 .simp at h
  obtain rfl:i=t.ths.length:=by omega
  rw [drop_length] at hrun
  replace hrun:s=D5 t reads works:=hrun
  obtain ⟨l1,l2,l3,l4,l5,l6⟩:=id hfl
  have g51:¬ rL=0/\¬ 0=rL/\¬ rL=1/\¬ 1=rL/\¬ rL=2/\¬ 2=rL/\¬ rL=3/\¬ 3=rL/\¬ rL=4/\¬ 4=rL/\¬ rL=5/\¬ 5=rL/\¬ rL=6/\¬ 6=rL/\¬ rL=7/\¬ 7=rL/\¬ rL=8/\¬ 8=rL/\¬ rL=9/\¬ 9=rL/\¬ rL=10/\¬ 10=rL/\¬ rL=11/\¬ 11=rL/\¬ rL=12/\¬ 12=rL/\¬ rR=0/\¬ 0=rR/\¬ rR=1/\¬ 1=rR/\¬ rR=2/\¬ 2=rR/\¬ rR=3/\¬ 3=rR/\¬ rR=4/\¬ 4=rR/\¬ rR=5/\¬ 5=rR/\¬ rR=6/\¬ 6=rR/\¬ rR=7/\¬ 7=rR/\¬ rR=8/\¬ 8=rR/\¬ rR=9/\¬ 9=rR/\¬ rR=10/\¬ 10=rR/\¬ rR=11/\¬ 11=rR/\¬ rR=12/\¬ 12=rR/\¬ j=0/\¬ 0=j/\¬ j=1/\¬ 1=j/\¬ j=2/\¬ 2=j/\¬ j=3/\¬ 3=j/\¬ j=4/\¬ 4=j/\¬ j=5/\¬ 5=j/\¬ j=6/\¬ 6=j/\¬ j=7/\¬ 7=j/\¬ j=8/\¬ 8=j/\¬ j=9/\¬ 9=j/\¬ j=10/\¬ 10=j/\¬ j=11/\¬ 11=j/\¬ j=12/\¬ 12=j/\¬ rL=rR/\¬ rR=rL/\¬ rL=j/\¬ j=rL/\¬ rR=j/\¬ j=rR:=by and_intros<;>omega
  apply A6
  apply hK1
  refine rG ?_
  refine A4 ?_
  have t1:s.f.state.take m=s.f.state:=take_of_length_le (by omega)
  have t2:s.f.write.take m=s.f.write:=take_of_length_le (by omega)
  have t3:s.f.pair.take m=s.f.pair:=take_of_length_le (by omega)
  have t4:s.f.place.take m=s.f.place:=take_of_length_le (by omega)
  have t5:s.f.value.take m=s.f.value:=take_of_length_le (by omega)
  have t6:s.f.path.take m=s.f.path:=take_of_length_le (by omega)
  simp [go_sem,<-hrun,Os'.cs,t1,t2,t3,t4,t5,t6,l1,l2,l3,l4,l5,l6,g51]
 simp at h
 have hI:=h
 clear h
 have h':i<(t.ths).length:=by omega
 obtain ⟨l,hx,hx'⟩:=E0 h'
 have hi0:(0:Int)<=(i:Nat):=by omega
 have hlm:=List.mem_of_getElem? hx
 have hll3:=hl l hlm
 have hst:=Qv_ hx
 have htr:s.regs.take i=s.regs:=take_of_length_le (by omega)
 have htl:s.left.take i=s.left:=take_of_length_le (by omega)
 have hw:=wI i
 have g43:¬ rL=0/\¬ 0=rL/\¬ rL=1/\¬ 1=rL/\¬ rL=2/\¬ 2=rL/\¬ rL=3/\¬ 3=rL/\¬ rL=4/\¬ 4=rL/\¬ rL=5/\¬ 5=rL/\¬ rL=6/\¬ 6=rL/\¬ rL=7/\¬ 7=rL/\¬ rL=8/\¬ 8=rL/\¬ rL=9/\¬ 9=rL/\¬ rL=10/\¬ 10=rL/\¬ rL=11/\¬ 11=rL/\¬ rL=12/\¬ 12=rL/\¬ rR=0/\¬ 0=rR/\¬ rR=1/\¬ 1=rR/\¬ rR=2/\¬ 2=rR/\¬ rR=3/\¬ 3=rR/\¬ rR=4/\¬ 4=rR/\¬ rR=5/\¬ 5=rR/\¬ rR=6/\¬ 6=rR/\¬ rR=7/\¬ 7=rR/\¬ rR=8/\¬ 8=rR/\¬ rR=9/\¬ 9=rR/\¬ rR=10/\¬ 10=rR/\¬ rR=11/\¬ 11=rR/\¬ rR=12/\¬ 12=rR/\¬ j=0/\¬ 0=j/\¬ j=1/\¬ 1=j/\¬ j=2/\¬ 2=j/\¬ j=3/\¬ 3=j/\¬ j=4/\¬ 4=j/\¬ j=5/\¬ 5=j/\¬ j=6/\¬ 6=j/\¬ j=7/\¬ 7=j/\¬ j=8/\¬ 8=j/\¬ j=9/\¬ 9=j/\¬ j=10/\¬ 10=j/\¬ j=11/\¬ 11=j/\¬ j=12/\¬ 12=j/\¬ rL=rR/\¬ rR=rL/\¬ rL=j/\¬ j=rL/\¬ rR=j/\¬ j=rR:=by and_intros<;>omega
 apply A1
 apply hK2
 refine A3 fun K3 hK3=>?_
 apply A0
 refine rG ?_ fun K h=>by simp [go_sem,hI,hx,hx',hi0,h',g43];exact h
 refine rK fun K hK=>?_
 simp [go_sem,g43]
 refine ⟨zfx rfl,?_⟩
 apply hK
 refine A3 fun K4 hK4=>?_
 refine rG ?_
 apply A0
 refine A9 (α:=Nat) (fun b=>⟨125,[(0,.rp t.cs 0),(1,.ro 2 (vls reads)),(2,.ro 1 (bVs works)),(8,.ptr 12 0 0),(38,.ro 1 (O3 t.ths)),(39,iV (t.ths.length:Nat)),(9,iV (s.k:Nat)),(40,iV (i:Nat)),(11,.ro 13 (Y1 l)),(12,.ptr j 0 0),(47,iV (b:Nat))],[(j,.rows 29 [.agg (wkC (.ptr 12 0 0) (wkI b))]),(12,.rows 9 [.agg [.sl 1 0 m,.sl 3 0 m,.sl 5 0 m,.sl 7 0 m,.sl 9 0 m,.sl 11 0 m,.sl rL 0 s.left.length,.sl rR 0 s.regs.length,bV s.whole]]),(1,.rows 1 (iVs s.f.state)),(3,.rows 2 (vls s.f.write)),(5,.rows 1 (iVs s.f.pair)),(7,.rows 1 (uVs s.f.place)),(9,.rows 1 (uVs s.f.value)),(11,.rows 1 (uVs s.f.path)),(rL,.rows 1 (uVs s.left)),(rR,.rows 16 (F7 s.regs))],j+1⟩) (fun b=>b<=8) (fun b=>8-b) 0 ?_ ?_ ?_
 .omega
 .refine Weaker.fw 1 0 ?_ ?_<;>simp [go_sem,g43]
 rintro b hb
 skip
 refine rG ?_
 refine A3 fun K5 hK5=>?_
 refine cK (fun h=>?_) fun h=>?_
 .simp at h
  have hI2:(b:Int)<8:=h
  clear h
  have g44:b<8/\(0:Int)<=(b:Nat):=by and_intros<;>omega
  have hw2:=wI b
  have g45:b*2+2<=16/\1+b*2+1<=29:=by and_intros<;>omega
  apply A1
  apply hK5
  refine A3 fun K6 hK6=>?_
  apply A0
  refine rG ?_
  refine rF ?_ fun K h=>by simp [go_sem,g43,hI2,g44,g45];exact h
  apply hK6
  refine rF ?_ fun K h=>by simp [go_sem,hw2];exact h
  refine ⟨b+1,?_,?_,?_⟩
  .omega
  .omega
  refine Weaker.fw 1 0 ?_ ?_
  .simp [go_sem,g43]
  simp [go_sem,zPs,g43]
 simp at h
 obtain rfl:b=8:=by omega
 apply A6
 apply hK4
 refine zD6 (fun k9=>⟨125,[(0,.rp t.cs 0),(1,.ro 2 (vls reads)),(2,.ro 1 (bVs works)),(8,.ptr 12 0 0),(38,.ro 1 (O3 t.ths)),(39,iV (t.ths.length:Nat)),(9,iV (s.k:Nat)),(40,iV (i:Nat)),(11,.ro 13 (Y1 l)),(12,.ptr j 0 0)],[(j,.rows 29 [.agg (wkC (.ptr 12 0 0) (runT reads works 0 l ⟨w0,s.f,0,s.k⟩).1.w)]),(12,.rows 9 [.agg [.sl 1 0 m,.sl 3 0 m,.sl 5 0 m,.sl 7 0 m,.sl 9 0 m,.sl 11 0 m,.sl rL 0 s.left.length,.sl rR 0 s.regs.length,bV (s.whole&&(runT reads works 0 l ⟨w0,s.f,0,s.k⟩).2)]]),(1,.rows 1 (iVs (runT reads works 0 l ⟨w0,s.f,0,s.k⟩).1.f.state)),(3,.rows 2 (vls (runT reads works 0 l ⟨w0,s.f,0,s.k⟩).1.f.write)),(5,.rows 1 (iVs (runT reads works 0 l ⟨w0,s.f,0,s.k⟩).1.f.pair)),(7,.rows 1 (uVs (runT reads works 0 l ⟨w0,s.f,0,s.k⟩).1.f.place)),(9,.rows 1 (uVs (runT reads works 0 l ⟨w0,s.f,0,s.k⟩).1.f.value)),(11,.rows 1 (uVs (runT reads works 0 l ⟨w0,s.f,0,s.k⟩).1.f.path)),(rL,.rows 1 (uVs s.left)),(rR,.rows 16 (F7 s.regs))],k9⟩) (fun k9=>j+1<=k9) ?_ ?_
 .skip
  refine rK fun K hK=>?_
  simp [go_sem,g43,zfy]
  refine D7 (zJa j _ (by omega) (by omega) m (.sl rL 0 s.left.length) (.sl rR 0 s.regs.length) (bV s.whole) w0 s.f hfl l (hok l hlm) (by omega) s.k (by omega) (by omega) reads works hrl hwl) rfl (by simp [g43]) (by simp [go_sem,zfy,g43]) fun k9 hk9=>?_
  have g46:¬ k9=0/\¬ 0=k9/\¬ k9=1/\¬ 1=k9/\¬ k9=2/\¬ 2=k9/\¬ k9=3/\¬ 3=k9/\¬ k9=4/\¬ 4=k9/\¬ k9=5/\¬ 5=k9/\¬ k9=6/\¬ 6=k9/\¬ k9=7/\¬ 7=k9/\¬ k9=8/\¬ 8=k9/\¬ k9=9/\¬ 9=k9/\¬ k9=10/\¬ 10=k9/\¬ k9=11/\¬ 11=k9/\¬ k9=12/\¬ 12=k9/\¬ rL=k9+0/\¬ k9+0=rL/\¬ rL=k9+9/\¬ k9+9=rL/\¬ rL=k9+10/\¬ k9+10=rL/\¬ rL=k9+20/\¬ k9+20=rL/\¬ rL=k9+21/\¬ k9+21=rL/\¬ rR=k9+0/\¬ k9+0=rR/\¬ rR=k9+9/\¬ k9+9=rR/\¬ rR=k9+10/\¬ k9+10=rR/\¬ rR=k9+20/\¬ k9+20=rR/\¬ rR=k9+21/\¬ k9+21=rR/\¬ j=k9+0/\¬ k9+0=j/\¬ j=k9+9/\¬ k9+9=j/\¬ j=k9+10/\¬ k9+10=j/\¬ j=k9+20/\¬ k9+20=j/\¬ j=k9+21/\¬ k9+21=j:=by and_intros<;>omega
  simp [go_sem,g43]
  apply hK
  refine cK (fun h=>?_) fun h=>?_
  .have hR2:(runT reads works 0 l ⟨w0,s.f,0,s.k⟩).2=false:=by simpa using h
   clear h
   refine rF ?_ fun K h=>by simp [go_sem,g43,g46];exact h
   refine ⟨k9,by omega,?_⟩
   refine Weaker.fy 1 0 ?_ ?_<;>simp [go_sem,g43,g46,hR2]
  have hR2:(runT reads works 0 l ⟨w0,s.f,0,s.k⟩).2=true:=by simpa using h
  clear h
  apply A1
  refine ⟨k9,by omega,?_⟩
  refine Weaker.fy 1 0 ?_ ?_<;>simp [go_sem,g43,g46,hR2]
 intro k9 hk9
 have g47:¬ k9=0/\¬ 0=k9/\¬ k9=1/\¬ 1=k9/\¬ k9=2/\¬ 2=k9/\¬ k9=3/\¬ 3=k9/\¬ k9=4/\¬ 4=k9/\¬ k9=5/\¬ 5=k9/\¬ k9=6/\¬ 6=k9/\¬ k9=7/\¬ 7=k9/\¬ k9=8/\¬ 8=k9/\¬ k9=9/\¬ 9=k9/\¬ k9=10/\¬ 10=k9/\¬ k9=11/\¬ 11=k9/\¬ k9=12/\¬ 12=k9/\¬ rL=k9+0/\¬ k9+0=rL/\¬ rL=k9+9/\¬ k9+9=rL/\¬ rL=k9+10/\¬ k9+10=rL/\¬ rL=k9+20/\¬ k9+20=rL/\¬ rL=k9+21/\¬ k9+21=rL/\¬ rR=k9+0/\¬ k9+0=rR/\¬ rR=k9+9/\¬ k9+9=rR/\¬ rR=k9+10/\¬ k9+10=rR/\¬ rR=k9+20/\¬ k9+20=rR/\¬ rR=k9+21/\¬ k9+21=rR/\¬ j=k9+0/\¬ k9+0=j/\¬ j=k9+9/\¬ k9+9=j/\¬ j=k9+10/\¬ k9+10=j/\¬ j=k9+20/\¬ k9+20=j/\¬ j=k9+21/\¬ k9+21=j:=by and_intros<;>omega
 refine S8 T_ok (by kernel_rfl) 11 [[],[],[1],[1,2],[1,2,3],[],[5],[5,6],[5,6,7],[5,6,7,8],[1,2,3,4,5,6,7,8,9],[0,1,2,3,4,5,6,7,8,9,10],[0,1,2,3,4,5,6,7,8,9,10,11],[0,1,2,3,4,5,6,7,8,9,10,11,12]] [(0,9),(1,9),(2,9),(3,9),(4,9),(0,10)] (by decide) (by decide) (by decide) fun K hK=>?_
 first|dsimp only [List.take,List.drop]|dsimp [List.take,List.drop]
 simp [go_sem,g43,g47,hll,hrl2,htr]
 refine ⟨zDd _,by omega,?_⟩
 apply hK
 refine S8 T_ok (by kernel_rfl) 11 [[],[],[1],[1,2],[1,2,3],[],[5],[5,6],[5,6,7],[5,6,7,8],[1,2,3,4,5,6,7,8,9],[0,1,2,3,4,5,6,7,8,9,10],[0,1,2,3,4,5,6,7,8,9,10,11],[0,1,2,3,4,5,6,7,8,9,10,11,12]] [(0,9),(1,9),(2,9),(3,9),(4,9),(0,10)] (by decide) (by decide) (by decide) fun K hK=>?_
 first|dsimp only [List.take,List.drop]|dsimp [List.take,List.drop]
 simp [go_sem,g43,g47,hll,hrl2,htl]
 refine ⟨by omega,?_⟩
 apply hK
 refine A3 fun K7 hK7=>?_
 refine rG ?_ fun K h=>by simp [go_sem,g43,g47];exact h
 apply A0
 refine A9 (α:=Nat × Nat) (fun b=>⟨125,[(0,.rp t.cs 0),(1,.ro 2 (vls reads)),(2,.ro 1 (bVs works)),(8,.ptr 12 0 0),(38,.ro 1 (O3 t.ths)),(39,iV (t.ths.length:Nat)),(9,iV (s.k:Nat)),(40,iV (i:Nat)),(11,.ro 13 (Y1 l)),(96,.agg (q8 (runT reads works 0 l ⟨w0,s.f,0,s.k⟩).1.w.regs)),(97,iV (b.1:Nat))],[(12,.rows 9 [.agg [.sl 1 0 m,.sl 3 0 m,.sl 5 0 m,.sl 7 0 m,.sl 9 0 m,.sl 11 0 m,.sl (k9+21) 0 (s.left.length+1),.sl (k9+10) 0 (s.regs.length+1),bV (whP s.whole (runT reads works 0 l ⟨w0,s.f,0,s.k⟩).2 (runT reads works 0 l ⟨w0,s.f,0,s.k⟩).1.w.regs b.1)]]),(1,.rows 1 (iVs (runT reads works 0 l ⟨w0,s.f,0,s.k⟩).1.f.state)),(3,.rows 2 (vls (runT reads works 0 l ⟨w0,s.f,0,s.k⟩).1.f.write)),(5,.rows 1 (iVs (runT reads works 0 l ⟨w0,s.f,0,s.k⟩).1.f.pair)),(7,.rows 1 (uVs (runT reads works 0 l ⟨w0,s.f,0,s.k⟩).1.f.place)),(9,.rows 1 (uVs (runT reads works 0 l ⟨w0,s.f,0,s.k⟩).1.f.value)),(11,.rows 1 (uVs (runT reads works 0 l ⟨w0,s.f,0,s.k⟩).1.f.path)),((k9+21),.rows 1 (uVs (s.left++[(runT reads works 0 l ⟨w0,s.f,0,s.k⟩).1.w.left]))),((k9+10),.rows 16 (F7 (s.regs++[(runT reads works 0 l ⟨w0,s.f,0,s.k⟩).1.w.regs])))],b.2⟩) (fun b=>b.1<=8/\k9+22<=b.2) (fun b=>8-b.1) (0,k9+22) ?_ ?_ ?_
 .dsimp only;omega
 .refine Weaker.fw 1 0 ?_ ?_
  .simp [go_sem,g43,g47]
  intro p hp;simp only [mem_cons,not_mem_nil,or_false] at hp;rcases hp with rfl|rfl|rfl|rfl|rfl|rfl|rfl|rfl|rfl<;>simp [go_sem,zPt,X4_,zFx,hll,hrl2,g43,g47]
 rintro ⟨b,c⟩ ⟨hb,hc⟩
 dsimp only at hb hc ⊢
 refine rG ?_
 refine A3 fun K8 hK8=>?_
 refine cK (fun h=>?_) fun h=>?_
 .simp at h
  have hI4:(b:Int)<8:=h
  clear h
  have g48:b<8/\(0:Int)<=(b:Nat):=by and_intros<;>omega
  have hw4:=wI b
  have g49:b*2+2<=16/\1+b*2+1<=29/\¬ c=0/\¬ 0=c/\¬ c=1/\¬ 1=c/\¬ c=2/\¬ 2=c/\¬ c=3/\¬ 3=c/\¬ c=4/\¬ 4=c/\¬ c=5/\¬ 5=c/\¬ c=6/\¬ 6=c/\¬ c=7/\¬ 7=c/\¬ c=8/\¬ 8=c/\¬ c=9/\¬ 9=c/\¬ c=10/\¬ 10=c/\¬ c=11/\¬ 11=c/\¬ c=12/\¬ 12=c/\¬ c=j/\¬ j=c/\¬ c=k9+10/\¬ k9+10=c/\¬ c=k9+21/\¬ k9+21=c:=by and_intros<;>omega
  apply A1
  apply hK8
  refine A3 fun K9 hK9=>?_
  apply A0
  refine rG ?_ fun K h=>by simp [go_sem,hI4,g48,g49,g43,g47];exact h
  refine rE fun K hK=>?_
  cases hW:(whP s.whole (runT reads works 0 l ⟨w0,s.f,0,s.k⟩).2 (runT reads works 0 l ⟨w0,s.f,0,s.k⟩).1.w.regs b)
  .simp [go_sem,hW,g43,g47,g49]
   apply hK
   apply hK9
   refine rF ?_ fun K h=>by simp [go_sem,hw4];exact h
   refine ⟨(b+1,c+1),?_,?_,?_⟩
   .dsimp only;omega
   .dsimp only;omega
   refine Weaker.fw 1 0 ?_ ?_
   .simp [go_sem,g43,g47,g49]
   simp [go_sem,zDe,hW,g43,g47,g49]
  simp [go_sem,hW,g43,g47,g49]
  apply hK
  apply hK9
  refine rF ?_ fun K h=>by simp [go_sem,hw4];exact h
  refine ⟨(b+1,c+1),?_,?_,?_⟩
  .dsimp only;omega
  .dsimp only;omega
  refine Weaker.fw 1 0 ?_ ?_
  .simp [go_sem,g43,g47,g49]
  simp [go_sem,zDe,hW,g43,g47,g49]
 simp at h
 obtain rfl:b=8:=by omega
 apply A6
 apply hK7
 refine rG ?_
 apply A0
 refine A9 (α:=Nat × Nat) (fun b=>⟨125,[(0,.rp t.cs 0),(1,.ro 2 (vls reads)),(2,.ro 1 (bVs works)),(8,.ptr 12 0 0),(38,.ro 1 (O3 t.ths)),(39,iV (t.ths.length:Nat)),(112,.ro 13 (Y1 l)),(113,iV (l.length:Nat)),(114,iV (b.1:Nat)),(9,iV (kP s.k l b.1:Nat)),(40,iV (i:Nat))],[(12,.rows 9 [.agg [.sl 1 0 m,.sl 3 0 m,.sl 5 0 m,.sl 7 0 m,.sl 9 0 m,.sl 11 0 m,.sl (k9+21) 0 (s.left.length+1),.sl (k9+10) 0 (s.regs.length+1),bV (whP s.whole (runT reads works 0 l ⟨w0,s.f,0,s.k⟩).2 (runT reads works 0 l ⟨w0,s.f,0,s.k⟩).1.w.regs 8)]]),(1,.rows 1 (iVs (runT reads works 0 l ⟨w0,s.f,0,s.k⟩).1.f.state)),(3,.rows 2 (vls (runT reads works 0 l ⟨w0,s.f,0,s.k⟩).1.f.write)),(5,.rows 1 (iVs (runT reads works 0 l ⟨w0,s.f,0,s.k⟩).1.f.pair)),(7,.rows 1 (uVs (runT reads works 0 l ⟨w0,s.f,0,s.k⟩).1.f.place)),(9,.rows 1 (uVs (runT reads works 0 l ⟨w0,s.f,0,s.k⟩).1.f.value)),(11,.rows 1 (uVs (runT reads works 0 l ⟨w0,s.f,0,s.k⟩).1.f.path)),((k9+21),.rows 1 (uVs (s.left++[(runT reads works 0 l ⟨w0,s.f,0,s.k⟩).1.w.left]))),((k9+10),.rows 16 (F7 (s.regs++[(runT reads works 0 l ⟨w0,s.f,0,s.k⟩).1.w.regs])))],b.2⟩) (fun b=>b.1<=l.length/\k9+22<=b.2) (fun b=>l.length-b.1) (0,c) ?_ ?_ ?_
 .dsimp only;omega
 .refine Weaker.fw 1 0 ?_ ?_
  .simp [go_sem,zXo,g43,g47]
  simp [go_sem,g43,g47]
 rintro ⟨b,c6⟩ ⟨hb6,hc6⟩
 dsimp only at hb6 hc6 ⊢
 refine rG ?_
 refine A3 fun K10 hK10=>?_
 refine cJ (fun h=>?_) fun h=>?_
 .simp at h
  obtain rfl:b=l.length:=by omega
  apply A6
  apply hK3
  refine rF ?_ fun K h=>by simp [go_sem,hw];exact h
  refine ⟨(i+1,Zh_ reads works l s,c6,k9+21,k9+10),?_,?_,?_⟩
  .exact ⟨by omega,(zJf hx).symm.trans hrun,XC_ hfl,by show s.k+M8 l+ZG_ t (i+1)<=m;omega,by show (s.left++[_]).length=_;simp [hll],by show (s.regs++[_]).length=_;simp [hrl2],by dsimp only;omega,by dsimp only;omega,by dsimp only;omega,by dsimp only;omega,by dsimp only;omega⟩
  .dsimp only;omega
  refine Weaker.fw 1 0 ?_ ?_
  .simp [go_sem,Zh_,zg1,g43]
  simp [go_sem,Zh_,zn9,g43,g47]
 simp at h
 have hI6:=h
 clear h
 have h'6:b<(l).length:=by omega
 obtain ⟨x,hx6,hx'6⟩:=E0 h'6
 have hi06:(0:Int)<=(b:Nat):=by omega
 have hw6:=wI b
 have g50:¬ c6=0/\¬ 0=c6/\¬ c6=1/\¬ 1=c6/\¬ c6=2/\¬ 2=c6/\¬ c6=3/\¬ 3=c6/\¬ c6=4/\¬ 4=c6/\¬ c6=5/\¬ 5=c6/\¬ c6=6/\¬ 6=c6/\¬ c6=7/\¬ 7=c6/\¬ c6=8/\¬ 8=c6/\¬ c6=9/\¬ 9=c6/\¬ c6=10/\¬ 10=c6/\¬ c6=11/\¬ 11=c6/\¬ c6=12/\¬ 12=c6/\¬ c6=k9+10/\¬ k9+10=c6/\¬ c6=k9+21/\¬ k9+21=c6:=by and_intros<;>omega
 apply A1
 apply hK10
 refine A3 fun K11 hK11=>?_
 apply A0
 refine rG ?_ fun K h=>by simp [go_sem,hI6,hx6,hx'6,hi06,h'6,B5,g43,g47,g50];exact h
 refine rK fun K hK=>?_
 simp [go_sem,B5,g43,g47,g50]
 refine A2 (P0 x) ?_
 simp [go_sem]
 apply hK
 refine cJ (fun h=>?_) fun h=>?_
 .have hm:J8 x=false:=by simpa [J8] using h
  clear h
  apply A1
  apply hK11
  refine rF ?_ fun K h=>by simp [go_sem,hw6];exact h
  refine ⟨(b+1,c6+1),?_,?_,?_⟩
  .dsimp only;omega
  .dsimp only;omega
  refine Weaker.fw 1 0 ?_ ?_
  .simp [go_sem,zna hx6 hm,g43,g47,g50]
  simp [go_sem,g43,g47,g50]
 have hm:J8 x=true:=h
 clear h
 have hkl:=znb s.k l b
 have hwk:IntKind.i64.wrap ((kP s.k l b:Nat)+1)=(kP s.k l b:Nat)+1:=E4 (by omega) (by omega)
 refine rF ?_ fun K h=>by simp [go_sem,hwk];exact h
 apply hK11
 refine rF ?_ fun K h=>by simp [go_sem,hw6];exact h
 refine ⟨(b+1,c6+1),?_,?_,?_⟩
 .dsimp only;omega
 .dsimp only;omega
 refine Weaker.fw 1 0 ?_ ?_
 .simp [go_sem,zg0 hx6 hm,g43,g47,g50]
 simp [go_sem,g43,g47,g50]
def tab {α:Type} (n:Nat) (f:Nat->α):List α:=(List.range n).map f
section
variable {α:Type} {n:Nat} {f g:Nat->α}
@[go_sem] theorem U8:(tab n f).length=n:=by simp [tab]
theorem VR_ {i:Nat} (h:i<n):(tab n f)[i]?=some (f i):=by simp [tab,List.getElem?_map,List.getElem?_range h]
@[go_sem] theorem znc {i:Nat} (h:i<(tab n f).length):(tab n f)[i]=f i:=by simp [tab]
theorem zJh (k:Nat) (x:α):(tab n f).set k x=tab n fun q=>if q=k then x else f q:=by
 apply List.ext_getElem?
 intro i
 by_cases h:i<n
 .rw [VR_ h,List.getElem?_set]
  by_cases e:k=i
  .subst e
   rw [if_pos rfl,if_pos (by rw [U8];exact h),if_pos rfl]
  rw [if_neg e,VR_ h,if_neg (Ne.symm e)]
 rw [List.getElem?_eq_none (by rw [length_set,U8];omega),List.getElem?_eq_none (by rw [U8];omega)]
theorem zXr (h:∀ q,q<n->f q=g q):tab n f=tab n g:=map_congr_left fun q hq=>h q (List.mem_range.1 hq)
theorem L8 {i:Nat} {d:α} (h:i<n):(tab n f).getD i d=f i:=by simp [List.getD,VR_ h]
end
@[go_sem] theorem zjk (l:List Bool) (n:Nat):(bVs l).take n=bVs (l.take n):=(map_take ..).symm
def le (u v:Vl):Prop:=u.k=true->u=v
theorem le_refl (u:Vl):le u u:=fun _=>rfl
theorem zDf {u v:Vl} (h:le u v):le (q7 u) (q7 v):=fun hk=>by
 unfold q7 at hk ⊢
 by_cases hu:u.k=true
 .rw [h hu]
 rw [if_neg hu] at hk;cases hk
theorem zg2 {a b c d:Vl} (h:le a c) (h':le b d):le (zNk a b) (zNk c d):=fun hk=>by
 simp only [zNk,Bool.and_eq_true] at hk ⊢
 rw [h hk.1,h' hk.2]
theorem P4 {α:Type} (l:List α) (k i:Nat) (x d:α):(l.set k x).getD i d=if i=k/\k<l.length then x else l.getD i d:=by
 simp only [List.getD,List.getElem?_set]
 by_cases h:k=i
 .subst h
  by_cases h2:k<l.length
  .simp [h2]
  simp [h2,List.getElem?_eq_none (by omega:l.length<=k)]
 simp [h,Ne.symm h]
def r6 (x:Ins) (works:Bool):Int:=if x.op=14/\works=false then 2 else 1
theorem zXs (x:Ins) (works:Bool):r6 x works≠0:=by unfold r6;split<;>decide
def ZH_ (w:Wk) (x:Ins) (read:Vl) (works:Bool):Option Vl :=
 if x.op=10\/x.op=11 then some (T3 w x.aR x.aN) else if x.op=12 then some (q7 (zNk (T3 w x.aR x.aN) read)) else if x.op=14/\works=true then some (T3 w x.aR x.aN) else none
def znd (l:List Vl) (k:Nat):Option Vl->List Vl
 | some u=>l.set k u
 | none=>l
theorem zFy (w:Wk) (f:Fl) (x:Ins) (k:Nat) (read:Vl) (works:Bool):(m8 w f x k read works).state=f.state.set k (r6 x works):=by
 unfold m8 r6
 dsimp only
 by_cases h1:x.op=10\/x.op=11
 .rw [if_pos h1,if_neg (by omega)];rfl
 rw [if_neg h1]
 by_cases h2:x.op=12
 .rw [if_pos h2,if_neg (by omega)];rfl
 rw [if_neg h2]
 by_cases h3:x.op=14
 .rw [if_pos h3]
  unfold x6
  cases works
  .simp [P2,h3,set_set]
  simp [P2,h3]
 rw [if_neg h3,if_neg (by omega)];rfl
theorem zFz (w:Wk) (f:Fl) (x:Ins) (k:Nat) (read:Vl) (works:Bool):(m8 w f x k read works).write=znd f.write k (ZH_ w x read works):=by
 unfold m8 ZH_
 dsimp only
 by_cases h1:x.op=10\/x.op=11
 .rw [if_pos h1,if_pos h1];rfl
 rw [if_neg h1,if_neg h1]
 by_cases h2:x.op=12
 .rw [if_pos h2,if_pos h2];rfl
 rw [if_neg h2,if_neg h2]
 by_cases h3:x.op=14
 .rw [if_pos h3]
  unfold x6
  cases works
  .simp [P2,h3,znd]
  simp [P2,h3,znd]
 rw [if_neg h3,if_neg (by omega)];rfl
section
variable {reads reads':List Vl} {works:List Bool} {i:Nat} {x:Ins} {s t:Ts}
theorem zPv:(stepT reads works i x s).k=s.k+if J8 x then 1 else 0:=by
 unfold stepT
 by_cases ho:0<s.out
 .rw [if_pos ho];dsimp only;split<;>rfl
 rw [if_neg ho]
 by_cases h:J8 x=true
 .rw [if_pos h,if_pos h]
 rw [if_neg h,if_neg h];split<;>rfl
end
section
variable {w:Wk} {x:Ins}
end
section
variable {w v:Wk} {x:Ins}
end
section
variable {n i:Nat} {reads reads':List Vl} {works:List Bool} {x:Ins} {s t:Ts}
end
def zPw (x:Ins):Prop:=(0<=x.aN/\x.aN<18446744073709551616)/\0<=x.bN/\x.bN<18446744073709551616
def X5_ (t:Tst):Prop:=∀ l∈t.ths,∀ x∈l,zPw x
theorem zg3 {t:Tst} (h:X5_ t):X5_ (few t):=fun l hl x hx=>by
 obtain ⟨l',hl',rfl⟩:=List.mem_map.1 hl
 exact h l' (mem_of_mem_take hl') x (mem_of_mem_take hx)
theorem zDg {T:Tst} (h:I7 T=0):T.ths.length<=4/\∀ l∈T.ths,l.length<=8:=by
 have:=O6 (Q7.1 h).1
 exact ⟨this.2.1,this.2.2.2.2.1⟩
theorem zDh {T:Tst} (h:I7 T=0) {l:List Ins} (hl:l∈T.ths) {x:Ins} (hx:x∈l):∃ left:Int,left<=8/\P1 T.locs.length left x=0:=by
 have h3:=(Q7.1 h).2.2.1
 obtain ⟨i,hi⟩:=List.getElem?_of_mem hl
 have h4:=(Z7_ _ _).1 h3 i l hi
 obtain ⟨j,hj⟩:=List.getElem?_of_mem hx
 have h5:=(Z7_ _ _).1 h4 j x hj
 have:=(zDg h).2 l hl
 exact ⟨_,by omega,h5⟩
theorem zXt {T:Tst} (h:I7 T=0) (hw:X5_ T):T.ths.length<=1000/\(∀ l∈T.ths,l.length<=1000)/\∀ l∈T.ths,∀ x∈l,InsOk x:=by
 obtain ⟨g1,g2⟩:=zDg h
 refine ⟨by omega,fun l hl=>by have:=g2 l hl;omega,fun l hl x hx=>?_⟩
 obtain ⟨left,h8,he⟩:=zDh h hl hx
 obtain ⟨_,e2,_,_,_,_,e7⟩:=ZC_.1 he
 obtain ⟨⟨w1,_⟩,w2,_⟩:=hw l hl x hx
 simp only [zD0,Bool.or_eq_false_iff,decide_eq_false_iff_not] at e2
 simp only [zP5,Bool.or_eq_false_iff,decide_eq_false_iff_not] at e7
 obtain ⟨a1,a2,a3,a4,a5,a6⟩:=e2
 refine ⟨by omega,by omega,fun hr=>⟨w1,?_⟩,fun hr=>⟨w2,?_⟩,by omega,by omega⟩
 .simp only [Yq_,hr,Bool.not_true,Bool.false_or,Bool.not_eq_false',decide_eq_true_eq] at a3;exact a3
 simp only [Yq_,hr,Bool.not_true,Bool.false_or,Bool.not_eq_false',decide_eq_true_eq] at a4;exact a4
theorem zPx:ImpAs Tryz.prog 61 zPw Ins.cs :=
 ImpAs.to (fun p:Int × Int × Int × (Bool × Int) × (Bool × Int) × Bool × Bool × Int × Int × Int × Int=>⟨p.1,p.2.1,p.2.2.1,p.2.2.2.1.1,p.2.2.2.1.2,p.2.2.2.2.1.1,p.2.2.2.2.1.2,p.2.2.2.2.2.1,p.2.2.2.2.2.2.1,p.2.2.2.2.2.2.2.1,p.2.2.2.2.2.2.2.2.1,p.2.2.2.2.2.2.2.2.2.1,p.2.2.2.2.2.2.2.2.2.2⟩)
  (Y8 (tot:=13) Tryz.underlying61 (by kernel_rfl) (G7 rfl (o':=1) (by kernel_rfl) iI (G7 rfl (o':=2) (by kernel_rfl) iI (G7 rfl (o':=3) (by kernel_rfl) iI (G7 rfl (o':=5) (by kernel_rfl) zIp (G7 rfl (o':=7) (by kernel_rfl) zIp (G7 rfl (o':=8) (by kernel_rfl) iB (G7 rfl (o':=9) (by kernel_rfl) iB (G7 rfl (o':=10) (by kernel_rfl) iI (G7 rfl (o':=11) (by kernel_rfl) iI (G7 rfl (o':=12) (by kernel_rfl) iI (o7 rfl (by kernel_rfl) iI))))))))))))
  (fun p h=>by
   have h1:=bounds_u64 h.2.2.2.1.2
   have h2:=bounds_u64 h.2.2.2.2.1.2
   exact ⟨⟨h1.1,by have:=h1.2;dsimp only;omega⟩,h2.1,by have:=h2.2;dsimp only;omega⟩) (fun p _=>SeenAll.refl _) y5 (fun _=>rfl) (fun _=>by kernel_rfl)
theorem zJi:ImpAs Tryz.prog 53 (fun l:List Ins=>l.length<=maxLen/\∀ a∈l,zPw a) fun l=>[V.ro 13 (Y1 l)]:=XA_ B5 Tryz.underlying53 (by kernel_rfl) (by kernel_rfl) (by omega) (fun _=>rfl) y5 zPx
theorem zJj:ImpAs Tryz.prog 23 (fun l:List (List Ins)=>l.length<=maxLen/\∀ a∈l,a.length<=maxLen/\∀ b∈a,zPw b) fun l=>[V.ro 1 (O3 l)] :=
 XA_ (fun x=>.ro 13 (Y1 x)) Tryz.underlying23 (by kernel_rfl) (by kernel_rfl) (by omega) (fun _=>rfl) (fun x=>.cons (zIc x) .nil) zJi
theorem zPy:ImpAs Tryz.prog 26 (fun t=>zfj t/\X5_ t) Tst.cs :=
 ImpAs.to (fun p:List Ini × List (List Ins) × List Atm=>⟨p.1,p.2.1,p.2.2⟩)
  (Y8 (tot:=3) Tryz.underlying26 (by kernel_rfl) (G7 rfl (o':=1) (by kernel_rfl) zPe (G7 rfl (o':=2) (by kernel_rfl) zJj (o7 rfl (by kernel_rfl) zPf))))
  (fun p h=>⟨h.1.2,fun l hl x hx=>(h.2.1.2 l hl).2 x hx⟩) (fun p _=>SeenAll.refl _) Yb_ (fun _=>rfl) (fun _=>by kernel_rfl)
def stK:List Int->List V
 | []=>[]
 | n::r=>iV n::r.map uV
def zJk:List EK:=List.replicate 41 .int
theorem Y2 (k:List Int):(stK k).length=k.length:=by cases k<;>simp [stK]
theorem zg4:∀ (a b:List Int) (m:Nat),a.length=m->b.length=m->E7 (List.replicate m .int) (a.map uV) (b.map uV)=some (decide (a=b))
 | [],[],_,h,_=>by subst h;rfl
 | [],_::_,m,h,h'=>by subst h;cases h'
 | _::_,[],m,h,h'=>by subst h';cases h
 | x::a,y::b,0,h,_=>by cases h
 | x::a,y::b,m+1,h,h'=>by
  have:=zg4 a b m (by simpa using h) (by simpa using h')
  simp only [map_cons,replicate_succ,E7,this,if_true,Option.map_some,Option.some.injEq,List.cons.injEq]
  rw [Bool.eq_iff_iff];simp
theorem zDi {a b:List Int} (h:a.length=41) (h':b.length=41):E7 zJk (stK a) (stK b)=some (decide (a=b)):=by
 cases a with
 | nil=>cases h
 | cons x a =>
  cases b with
  | nil=>cases h'
  | cons y b =>
   have:=zg4 a b 40 (by simpa using h) (by simpa using h')
   show E7 (.int::List.replicate 40 .int) (iV x::a.map uV) (iV y::b.map uV)=_
   simp only [E7,this,if_true,Option.map_some,Option.some.injEq,List.cons.injEq]
   rw [Bool.eq_iff_iff];simp
def S0 (l:List (List Int)):List (V × V):=l.map fun k=>(.agg (stK k),bV true)
theorem Z5 (l:List (List Int)):(S0 l).length=l.length:=length_map ..
theorem zJl {k:List Int} (hk:k.length=41):∀ {l:List (List Int)},(∀ q∈l,q.length=41)->Yo_ zJk (stK k) (S0 l)=some (if k∈l then some (bV true) else none)
 | [],_=>rfl
 | q::l,h=>by
  have ih:=zJl hk (l:=l) fun r hr=>h r (by simp [hr])
  have e:=zDi hk (h q (by simp))
  unfold S0 at ih ⊢
  simp only [map_cons,Yo_]
  rw [e]
  by_cases hq:k=q
  .subst hq;simp
  simp [hq,ih]
theorem UL_ {k:List Int} (hk:k.length=41):∀ {l:List (List Int)},(∀ q∈l,q.length=41)->Js_ zJk (stK k) (bV true) (S0 l)=some (S0 (if k∈l then l else l++[k]))
 | [],_=>by simp [S0,Js_]
 | q::l,h=>by
  have ih:=UL_ hk (l:=l) fun r hr=>h r (by simp [hr])
  have e:=zDi hk (h q (by simp))
  unfold S0 at ih ⊢
  simp only [map_cons,Js_]
  rw [e]
  by_cases hq:k=q
  .subst hq;simp
  by_cases hm:k∈l
  .simp [hq,ih,hm]
  simp [hq,ih,hm]
def Zk_ (a b:Int):Int:=if a<b then -1 else if b<a then 1 else 0
def v6:List Int->List Int->Int
 | [],[]=>0
 | [],_::_=>-1
 | _::_,[]=>1
 | a::r,b::s=>if Zk_ a b=0 then v6 r s else Zk_ a b
def ltL (a b:List Int):Bool:=decide (v6 a b<0)
theorem zJm (a:Int):Zk_ a a=0:=by simp [Zk_]
theorem Z6 {a b:Int}:Zk_ a b=0↔a=b:=by unfold Zk_;(repeat' split)<;>omega
theorem UM_ {a b:Int}:Zk_ a b<0↔a<b:=by unfold Zk_;(repeat' split)<;>omega
theorem zJn (a b:Int):Zk_ b a=- Zk_ a b:=by unfold Zk_;(repeat' split)<;>omega
theorem X6_:∀ a:List Int,v6 a a=0
 | []=>rfl
 | a::r=>by simp [v6,zJm,X6_ r]
theorem X7_:∀ {a b:List Int},v6 a b=0->a=b
 | [],[],_=>rfl
 | [],_::_,h=>by simp [v6] at h
 | _::_,[],h=>by simp [v6] at h
 | a::r,b::s,h=>by
  unfold v6 at h
  split at h
  .rename_i h1;rw [Z6.1 h1,X7_ h]
  rename_i h1;exact absurd h h1
theorem Qx_:∀ a b:List Int,v6 b a=- v6 a b
 | [],[]=>rfl
 | [],_::_=>rfl
 | _::_,[]=>rfl
 | a::r,b::s=>by
  unfold v6
  rw [zJn a b,Qx_ r s]
  by_cases h:Zk_ a b=0
  .rw [if_pos h,if_pos (by omega)]
  rw [if_neg h,if_neg (by omega)]
theorem VS_:∀ {a b c:List Int},v6 a b<0->v6 b c<0->v6 a c<0
 | [],b,[],h,h'=>by cases b<;>simp [v6] at h h'
 | [],_,_::_,_,_=>by simp [v6]
 | _::_,[],c,h,h'=>by simp [v6] at h
 | _::_,_::_,[],h,h'=>by simp [v6] at h'
 | a::r,b::s,c::u,h,h'=>by
  unfold v6 at h h' ⊢
  by_cases e1:Zk_ a b=0
  .rw [if_pos e1] at h
   have:=Z6.1 e1;subst this
   by_cases e2:Zk_ a c=0
   .rw [if_pos e2] at h' ⊢;exact VS_ h h'
   rw [if_neg e2] at h' ⊢;exact h'
  rw [if_neg e1] at h
  by_cases e2:Zk_ b c=0
  .have:=Z6.1 e2;subst this
   rw [if_neg e1];exact h
  rw [if_neg e2] at h'
  have h1:=UM_.1 h
  have h2:=UM_.1 h'
  have h3:a<c:=by omega
  rw [if_neg (fun h=>by have:=Z6.1 h;omega)]
  exact UM_.2 h3
theorem Z7 {a b c:List Int} (h:ltL a b=true) (h':ltL b c=true):ltL a c=true:=by
 unfold ltL at *
 simp only [decide_eq_true_eq] at *
 exact VS_ h h'
theorem X8_ (a:List Int):ltL a a=false:=by simp [ltL,X6_]
theorem X9_ {a b:List Int} (h:ltL a b=false) (h':ltL b a=false):a=b:=by
 unfold ltL at *
 simp only [decide_eq_false_iff_not] at *
 have:=Qx_ a b
 exact X7_ (by omega)
def S9 (l:List (List Int)):Prop:=l.Pairwise fun a b=>ltL a b=true
theorem Qy_:∀ {l m:List (List Int)},S9 l->S9 m->(∀ x,x∈l↔x∈m)->l=m
 | [],[],_,_,_=>rfl
 | [],y::m,_,_,h=>by have:=(h y).2 (by simp);simp at this
 | x::l,[],_,_,h=>by have:=(h x).1 (by simp);simp at this
 | x::l,y::m,hl,hm,h=>by
  obtain ⟨h1,h2⟩:=List.pairwise_cons.1 hl
  obtain ⟨h3,h4⟩:=List.pairwise_cons.1 hm
  have hxy:x=y:=by
   rcases List.mem_cons.1 ((h x).1 (by simp)) with e|e
   .exact e
   rcases List.mem_cons.1 ((h y).2 (by simp)) with e'|e'
   .exact e'.symm
   have:=Z7 (h1 y e') (h3 x e)
   rw [X8_] at this;cases this
  subst hxy
  congr 1
  refine Qy_ h2 h4 fun z=>⟨fun hz=>?_,fun hz=>?_⟩
  .rcases List.mem_cons.1 ((h z).1 (by simp [hz])) with e|e
   .subst e;have:=h1 z hz;rw [X8_] at this;cases this
   exact e
  rcases List.mem_cons.1 ((h z).2 (by simp [hz])) with e|e
  .subst e;have:=h3 z hz;rw [X8_] at this;cases this
  exact e
def zGv (x:List Int):List (List Int)->List (List Int)
 | []=>[x]
 | y::l=>if ltL x y then x::y::l else if x=y then y::l else y::zGv x l
def L5 (l:List (List Int)):List (List Int):=l.foldr zGv []
theorem UN_ {x z:List Int}:∀ {l:List (List Int)},z∈zGv x l↔z=x\/z∈l
 | []=>by simp [zGv]
 | y::l=>by
  unfold zGv
  split
  .simp
  split
  .rename_i h;subst h;simp
  rw [mem_cons,UN_,mem_cons]
  constructor
  .rintro (h|h|h)<;>simp [h]
  rintro (h|h|h)<;>simp [h]
theorem WA_ {x:List Int}:∀ {l:List (List Int)},S9 l->S9 (zGv x l)
 | [],_=>by simp [zGv,S9]
 | y::l,h=>by
  obtain ⟨h1,h2⟩:=List.pairwise_cons.1 h
  unfold zGv
  split
  .rename_i hxy
   refine List.pairwise_cons.2 ⟨fun z hz=>?_,h⟩
   rcases List.mem_cons.1 hz with rfl|hz
   .exact hxy
   exact Z7 hxy (h1 z hz)
  rename_i hxy
  split
  .exact h
  rename_i hne
  refine List.pairwise_cons.2 ⟨fun z hz=>?_,WA_ h2⟩
  rcases UN_.1 hz with rfl|hz
  .cases hyx:ltL y z
   .exact absurd (X9_ (by simpa using hxy) hyx) hne
   rfl
  exact h1 z hz
theorem mem_setOf {x:List Int}:∀ {l:List (List Int)},x∈L5 l↔x∈l
 | []=>by simp [L5]
 | y::l=>by
  show x∈zGv y (L5 l)↔_
  rw [UN_,mem_setOf,mem_cons]
theorem J2:∀ l:List (List Int),S9 (L5 l)
 | []=>List.Pairwise.nil
 | y::l=>WA_ (J2 l)
theorem zDj {l m:List (List Int)} (hl:S9 l) (h:∀ x,x∈l↔x∈m):l=L5 m:=Qy_ hl (J2 m) fun x=>(h x).trans mem_setOf.symm
theorem zAu {l m:List (List Int)} (h:∀ x,x∈l↔x∈m):L5 l=L5 m:=zDj (J2 l) fun x=>mem_setOf.trans (h x)
theorem zXu (l:List Int):NLs (uVs l):=fun v hv=>by obtain ⟨a,_,rfl⟩:=List.mem_map.1 hv;exact .val _
theorem zg5 (l:List Int):(uVs l).all V.one=true:=by simp [uVs,V.one]
theorem zg6 (l:List Int) (S:List Nat) (H:A8) (d:Nat):(uVs l).map (frz S H d)=uVs l:=by
 unfold uVs;rw [map_map];exact map_congr_left fun x _=>UF_
@[go_sem] theorem zjl (l:List Int) (n:Nat):(uVs l).drop n=uVs (l.drop n):=(map_drop ..).symm
theorem VT_ (k:List Int):NLs (stK k):=by
 cases k with
 | nil=>exact .nil
 | cons n r=>exact .cons (.val _) (zXu r)
theorem UO_ (n:Int) (r:List Int):stK (n::r)=iV n::uVs r:=rfl
theorem Qz_ (a b:Int) (r s:List Int):v6 (a::r) (b::s)=if Zk_ a b=0 then v6 r s else Zk_ a b:=rfl
theorem zDk {a b:List Int} {i:Nat} {x y:Int} (hx:a[i]?=some x) (hy:b[i]?=some y):v6 (a.drop i) (b.drop i)=if Zk_ x y=0 then v6 (a.drop (i+1)) (b.drop (i+1)) else Zk_ x y:=by
 rw [N7 hx,N7 hy];rfl
theorem Zl_ (a:Int):Pf Tryz.prog 189 [iV a] (bV false):=by
 refine Pf.of_fn (.cons (.val _) .nil) (.val _) ?_
 refine B7 T_ok func189 rfl rfl ntmps189 rfl (by simp) ?_
 refine rG ?_
 refine rG ?_
 refine A4 ?_
 simp [go_sem]
theorem zJo (a b:Int):Pf Tryz.prog 150 [iV a,iV b] (iV (Zk_ a b)):=by
 refine Pf.of_fn (.cons (.val _) (.cons (.val _) .nil)) (.val _) ?_
 refine B7 T_ok func150 rfl rfl ntmps150 rfl (by simp) ?_
 refine rG ?_
 refine rK fun K hK=>?_
 simp [go_sem]
 refine A2 (Zl_ a) ?_
 simp [go_sem]
 apply hK
 refine rK fun K hK=>?_
 simp [go_sem]
 refine A2 (Zl_ b) ?_
 simp [go_sem]
 apply hK
 refine A3 fun K1 hK1=>?_
 refine rG ?_
 refine cK (fun h=>?_) fun h=>?_
 .simp at h
 clear h
 apply A1
 apply hK1
 refine A3 fun K2 hK2=>?_
 refine rG ?_
 refine cK (fun h=>?_) fun h=>?_
 .simp at h
 clear h
 apply A1
 apply hK2
 refine A3 fun K3 hK3=>?_
 refine rG ?_
 refine cK (fun h=>?_) fun h=>?_
 .have h1:a<b:=by simpa using h
  refine rG ?_
  refine A4 ?_
  simp [go_sem,Zk_,h1]
 have h1:¬ a<b:=by simpa using h
 apply A1
 apply hK3
 refine A3 fun K4 hK4=>?_
 refine rG ?_
 refine cK (fun h=>?_) fun h=>?_
 .have h2:b<a:=by simpa using h
  refine rG ?_
  refine A4 ?_
  simp [go_sem,Zk_,h1,h2]
 have h2:¬ b<a:=by simpa using h
 apply A1
 apply hK4
 refine rG ?_
 refine A4 ?_
 simp [go_sem,Zk_,h1,h2]
theorem Zm_ (a:Int):Pf Tryz.prog 211 [uV a] (bV false):=by
 refine Pf.of_fn (.cons (.val _) .nil) (.val _) ?_
 refine B7 T_ok func211 rfl rfl ntmps211 rfl (by simp) ?_
 refine rG ?_
 refine rG ?_
 refine A4 ?_
 simp [go_sem]
theorem zJp (a b:Int):Pf Tryz.prog 190 [uV a,uV b] (iV (Zk_ a b)):=by
 refine Pf.of_fn (.cons (.val _) (.cons (.val _) .nil)) (.val _) ?_
 refine B7 T_ok func190 rfl rfl ntmps190 rfl (by simp) ?_
 refine rG ?_
 refine rK fun K hK=>?_
 simp [go_sem]
 refine A2 (Zm_ a) ?_
 simp [go_sem]
 apply hK
 refine rK fun K hK=>?_
 simp [go_sem]
 refine A2 (Zm_ b) ?_
 simp [go_sem]
 apply hK
 refine A3 fun K1 hK1=>?_
 refine rG ?_
 refine cK (fun h=>?_) fun h=>?_
 .simp at h
 clear h
 apply A1
 apply hK1
 refine A3 fun K2 hK2=>?_
 refine rG ?_
 refine cK (fun h=>?_) fun h=>?_
 .simp at h
 clear h
 apply A1
 apply hK2
 refine A3 fun K3 hK3=>?_
 refine rG ?_
 refine cK (fun h=>?_) fun h=>?_
 .have h1:a<b:=by simpa using h
  refine rG ?_
  refine A4 ?_
  simp [go_sem,Zk_,h1]
 have h1:¬ a<b:=by simpa using h
 apply A1
 apply hK3
 refine A3 fun K4 hK4=>?_
 refine rG ?_
 refine cK (fun h=>?_) fun h=>?_
 .have h2:b<a:=by simpa using h
  refine rG ?_
  refine A4 ?_
  simp [go_sem,Zk_,h1,h2]
 have h2:¬ b<a:=by simpa using h
 apply A1
 apply hK4
 refine rG ?_
 refine A4 ?_
 simp [go_sem,Zk_,h1,h2]
theorem Q0_ (a b:List Int) (ha:a.length<=1000000) (hb:b.length<=1000000):Pf Tryz.prog 151 [.ro 1 (uVs a),.ro 1 (uVs b)] (iV (v6 a b)):=by
 refine Pf.of_fn (.cons (X1_ _) (.cons (X1_ _) .nil)) (.val _) ?_
 refine B7 T_ok func151 rfl rfl ntmps151 rfl (by simp) ?_
 refine rG ?_
 refine A3 fun K1 hK1=>?_
 refine rG ?_
 apply A0
 refine A9 (α:=Nat) (fun i=>⟨36,[(1,.ro 1 (uVs b)),(9,.ro 1 (uVs a)),(10,iV (a.length:Nat)),(0,.ro 1 (uVs a)),(11,iV (i:Nat))],[],0⟩) (fun i=>i<=a.length/\i<=b.length/\v6 (a.drop i) (b.drop i)=v6 a b) (fun i=>a.length-i) 0 ?_ ?_ ?_
 .exact ⟨Nat.zero_le _,Nat.zero_le _,rfl⟩
 .refine Weaker.fw 1 0 ?_ ?_<;>simp [go_sem]
 rintro i ⟨hi,hj,hc⟩
 skip
 refine rG ?_
 refine A3 fun K2 hK2=>?_
 refine cJ (fun h=>?_) fun h=>?_
 .simp at h
  obtain rfl:i=a.length:=by omega
  apply A6
  apply hK1
  refine A3 fun K5 hK5=>?_
  refine rG ?_
  refine cK (fun h=>?_) fun h=>?_
  .have hl:a.length<b.length:=by simpa using h
   refine rG ?_
   refine A4 ?_
   rw [<-hc,drop_length]
   obtain ⟨y,hy,_⟩:=E0 hl
   rw [N7 hy]
   simp [go_sem,v6]
  have hl:¬ a.length<b.length:=by simpa using h
  have hab:a.length=b.length:=by omega
  apply A1
  apply hK5
  refine rG ?_
  refine A4 ?_
  rw [<-hc,drop_length,hab,drop_length]
  simp [go_sem,v6]
 simp at h
 have hI:(i:Int)<(a.length:Nat):=by omega
 have h':i<a.length:=by omega
 clear h
 obtain ⟨x,hx,hx'⟩:=E0 h'
 have hi0:(0:Int)<=(i:Nat):=by omega
 have hw:=wI i
 apply A1
 apply hK2
 refine A3 fun K3 hK3=>?_
 apply A0
 refine rG ?_ fun K h=>by simp [go_sem,hI,hi0,h',hx,hx'];exact h
 refine A3 fun K4 hK4=>?_
 refine rG ?_
 refine cK (fun h=>?_) fun h=>?_
 .simp at h
  obtain rfl:i=b.length:=by omega
  refine rG ?_
  refine A4 ?_
  rw [<-hc,N7 hx,drop_length]
  simp [go_sem,v6]
 simp at h
 have hJ:(i:Int)<(b.length:Nat):=by omega
 have j':i<b.length:=by omega
 clear h
 obtain ⟨y,hy,hy'⟩:=E0 j'
 apply A1
 apply hK4
 refine rG ?_ fun K h=>by simp [go_sem,hJ,hi0,j',hy,hy'];exact h
 refine rK fun K hK=>?_
 simp [go_sem]
 refine A2 (zJp x y) ?_
 simp [go_sem]
 apply hK
 refine rG ?_
 refine cK (fun h=>?_) fun h=>?_
 .have h0:¬ Zk_ x y=0:=by simpa using h
  refine rG ?_
  refine A4 ?_
  rw [<-hc,zDk hx hy,if_neg h0]
  simp [go_sem]
 have h0:Zk_ x y=0:=by simpa using h
 apply A1
 apply hK3
 refine rF ?_ fun K h=>by simp [go_sem,hw];exact h
 refine ⟨i+1,?_,?_,?_⟩
 .exact ⟨by omega,by omega,by rw [<-hc,zDk hx hy,if_pos h0]⟩
 .omega
 refine Weaker.fw 1 0 ?_ ?_<;>simp [go_sem]
theorem YA_ (a b:List Int) (ha:a.length=41) (hb:b.length=41):Pf Tryz.prog 108 [.agg (stK a),.agg (stK b)] (iV (v6 a b)):=by
 obtain ⟨m,r,rfl⟩:∃ m r,a=m::r:=by cases a with|nil=>cases ha|cons m r=>exact ⟨m,r,rfl⟩
 obtain ⟨n,s,rfl⟩:∃ n s,b=n::s:=by cases b with|nil=>cases hb|cons n s=>exact ⟨n,s,rfl⟩
 have hr:r.length=40:=by simpa using ha
 have hs:s.length=40:=by simpa using hb
 rw [UO_,UO_]
 refine Pf.of_fn (.cons (.agg (.cons (.val _) (zXu r))) (.cons (.agg (.cons (.val _) (zXu s))) .nil)) (.val _) ?_
 refine B7 T_ok func108 rfl rfl ntmps108 rfl (by simp) ?_
 refine rG ?_ fun K h=>by simp [go_sem,hr,hs,zg5];exact h
 refine A3 fun K1 hK1=>?_
 refine rG ?_
 refine cK (fun h=>?_) fun h=>?_
 .have h0:¬ m=n:=by simpa using h
  refine rK fun K hK=>?_
  simp [go_sem]
  refine A2 (zJo m n) ?_
  simp [go_sem]
  apply hK
  refine A4 ?_
  simp [go_sem,Qz_,Z6,h0]
 have h0:m=n:=by simpa using h
 apply A1
 apply hK1
 refine dK 4 [[],[0],[],[2],[0,1,2,3],[0,1,2,3,4]] fun K hK=>?_
 first|dsimp only [List.take,List.drop]|dsimp [List.take,List.drop]
 simp [go_sem,hr,hs]
 refine zIw [] [.ro 1 (uVs r),.ro 1 (uVs s)] 1 0 (Q0_ r s (by omega) (by omega)) (by simp [go_sem,hr,hs,take_of_length_le,zg6]) (by simp) (by simp) ?_
 simp [go_sem]
 apply hK
 refine A4 ?_
 simp [go_sem,Qz_,Z6,h0]
@[go_sem] theorem zjm (l:List Nat) (i:Nat) (h:i<(R5 l).length):(R5 l)[i]=iV (l[i]'(by simpa [R5] using h):Nat):=by simp [R5]
theorem zg7 (l:List Nat):NL (.ro 1 (R5 l)):=.ro fun v hv=>by obtain ⟨a,_,rfl⟩:=List.mem_map.1 hv;exact .cons (.val _) .nil
theorem zDl (n:Nat) (h:n<18446744073709551616):IntKind.u64.wrap ((n:Nat):Int)=n:=w64 n h
theorem zXv {a b:Nat} (ha:a<18446744073709551616) (hb:b<18446744073709551616):n64 (a:Int) b=((a &&& b:Nat):Int):=by
 unfold n64
 rw [ze9 ha hb,zDl _ (Nat.lt_of_le_of_lt Nat.and_le_left ha)]
theorem zXw {a b:Nat} (ha:a<18446744073709551616) (hb:b<18446744073709551616):o64 (a:Int) b=((a ||| b:Nat):Int):=by
 unfold o64
 rw [zo2 ha hb,zDl _ (Nat.or_lt_two_pow (n:=64) ha hb)]
theorem zPz {a n:Nat} (hn:n<64):y7 (a:Int) n=(((a <<< n) % 18446744073709551616:Nat):Int):=by
 unfold y7
 rw [show min ((n:Int)).toNat 64=n by simp;omega,Nat.shiftLeft_eq]
 have e:(a:Int)*2 ^ n=((a*2 ^ n:Nat):Int):=by simp
 rw [e]
 simp only [IntKind.wrap,IntKind.bits,IntKind.signed,Bool.false_eq_true,if_false]
 show ((a*2 ^ n:Nat):Int) % ((2 ^ 64:Nat):Int)=_
 rw [<-Int.natCast_emod]
theorem zQ0 {a n:Nat} (hn:n<64):zPi (a:Int) n=((a >>> n:Nat):Int):=by
 unfold zPi
 rw [show min ((n:Int)).toNat 64=n by simp;omega,Nat.shiftRight_eq_div_pow,show ((2:Int) ^ n)=((2 ^ n:Nat):Int) by simp,Int.fdiv_eq_ediv_of_nonneg _ (Int.natCast_nonneg _)]
 simp
def c4 (op:Int) (s:Nat):Nat:=if op=4 then s % 2 else s
def c5 (op:Int) (s:Nat):Nat:=if op=5 then s / 2 else s
def c6 (op:Int) (s:Nat):Nat:=if op=6 then (if 1<s then 1 else s) else s
abbrev Slo:=Int × Int
def zne (p:Slo):V:=.agg [iV p.1,iV p.2]
def UP_ (l:List Slo):List V:=l.map zne
def slI (i:Nat) (l:List Ins):List Slo:=(Xt_ (Wq_ l) 8).map fun r:Nat=>((i:Int),(r:Int))
def slT:Nat->List (List Ins)->List Slo
 | _,[]=>[]
 | i,l::r=>slI i l++slT (i+1) r
def slL (n:Nat):List Slo:=(List.range n).map fun i:Nat=>(-1,(i:Int))
def Q1 (t:Tst):List Slo:=slT 0 t.ths++slL t.locs.length
theorem VU_:∀ (i:Nat) (l l':List (List Ins)),slT i (l++l')=slT i l++slT (i+l.length) l'
 | i,[],l'=>by simp [slT]
 | i,x::l,l'=>by
  have:=VU_ (i+1) l l'
  have e:i+1+l.length=i+(l.length+1):=by omega
  simp only [cons_append,slT,this,length_cons,e,append_assoc]
def slO (t:List (List Ins)) (i:Nat):List Slo:=slT 0 (t.take i)
def slP (t:List (List Ins)) (i:Nat) (l:List Ins) (b:Nat):List Slo:=slO t i++((Xt_ (Wq_ l) 8).take b).map fun r:Nat=>((i:Int),(r:Int))
def slQ (t:Tst) (b:Nat):List Slo:=slT 0 t.ths++slL b
theorem zDm (t:List (List Ins)):slO t 0=[]:=rfl
theorem zJq (t:Tst):slO t.ths t.ths.length=slQ t 0:=by unfold slO slQ;rw [take_length];simp [slL]
theorem zQ1 (t:List (List Ins)) (i:Nat) (l:List Ins):slP t i l 0=slO t i:=by simp [slP]
theorem zDn {t:List (List Ins)} {i:Nat} {l:List Ins} {b r:Nat} (h:(Xt_ (Wq_ l) 8)[b]?=some r):slP t i l (b+1)=slP t i l b++[((i:Int),(r:Int))]:=by
 unfold slP;rw [N6 h];simp
theorem zXx {t:List (List Ins)} {i:Nat} {l:List Ins} (h:t[i]?=some l):slP t i l (Xt_ (Wq_ l) 8).length=slO t (i+1):=by
 have hb:(t.take i).length=i:=by rw [length_take];have:=(List.getElem?_eq_some_iff.1 h).1;omega
 unfold slP slO
 rw [N6 h,VU_,hb,take_length]
 simp [slT,slI]
theorem zDo (t:Tst) (b:Nat):slQ t (b+1)=slQ t b++[(-1,(b:Int))]:=by simp [slQ,slL,range_succ]
theorem zXy (t:Tst):slQ t t.locs.length=Q1 t:=rfl
theorem zXz (i:Nat) (l:List Ins):(slI i l).length<=8:=by unfold slI;rw [length_map];exact Y7_ _ _
theorem UQ_:∀ (i:Nat) (l:List (List Ins)),(slT i l).length<=8*l.length
 | _,[]=>by simp [slT]
 | i,x::l=>by
  have:=UQ_ (i+1) l
  have:=zXz i x
  simp only [slT,length_append,length_cons];omega
theorem VV_ {t:Tst} (h:t.ths.length<=4) (h':t.locs.length<=8):(Q1 t).length<=40:=by
 have:=UQ_ 0 t.ths
 unfold Q1 slL
 simp;omega
theorem zY0 (t:List (List Ins)) (i:Nat):(slO t i).length<=8*t.length:=by
 have:=UQ_ 0 (t.take i)
 rw [length_take] at this
 unfold slO;omega
theorem zY1 (t:List (List Ins)) (i:Nat) (l:List Ins) (b:Nat):(slP t i l b).length<=8*t.length+8:=by
 have:=zY0 t i
 have h2:=Y7_ (Wq_ l) 8
 unfold slP
 rw [length_append,length_map,length_take];omega
theorem zY2 (t:Tst) (b:Nat):(slQ t b).length<=8*t.ths.length+b:=by
 have:=UQ_ 0 t.ths
 unfold slQ slL
 simp;omega
@[go_sem] theorem zjn (l:List Slo):(UP_ l).length=l.length:=length_map ..
@[go_sem] theorem zg8 (l:List Slo) (n:Nat):(UP_ l).take n=UP_ (l.take n):=(map_take ..).symm
@[go_sem] theorem zjo (l:List Slo) (i:Nat) (h:i<(UP_ l).length):(UP_ l)[i]=.agg [iV (l[i]'(by simpa [UP_] using h)).1,iV (l[i]'(by simpa [UP_] using h)).2]:=by simp [UP_,zne]
theorem WB_ (l:List Slo) (a b:Int):UP_ l++[V.agg [iV a,iV b]]=UP_ (l++[(a,b)]):=by simp [UP_,zne]
theorem zQ2:UP_ []=[]:=rfl
theorem zg9 (l:List Slo):NL (.ro 2 (UP_ l)):=.ro fun v hv=>by obtain ⟨a,_,rfl⟩:=List.mem_map.1 hv;exact .cons (.val _) (.cons (.val _) .nil)
theorem zJr:∀ {i:Nat} {l:List (List Ins)} {p:Slo},p∈slT i l->∃ a r:Nat,p=((a:Int),(r:Int))/\i<=a/\a<i+l.length/\r<8
 | i,x::l,p,h=>by
  unfold slT at h
  rcases List.mem_append.1 h with h|h
  .obtain ⟨r,hr,rfl⟩:=List.mem_map.1 h
   have:r<8:=by unfold Xt_ at hr;have:=(List.mem_filter.1 hr).1;exact List.mem_range.1 this
   exact ⟨i,r,rfl,Nat.le_refl _,by simp,this⟩
  obtain ⟨a,r,e,h1,h2,h3⟩:=zJr h
  exact ⟨a,r,e,by omega,by simp only [length_cons];omega,h3⟩
theorem zJs {t:Tst} {p:Slo} (h:p∈Q1 t):(∃ n:Nat,p=(-1,(n:Int))/\n<t.locs.length)\/∃ a r:Nat,p=((a:Int),(r:Int))/\a<t.ths.length/\r<8:=by
 rcases List.mem_append.1 h with h|h
 .obtain ⟨a,r,e,_,h2,h3⟩:=zJr h
  exact .inr ⟨a,r,e,by omega,h3⟩
 obtain ⟨n,hn,rfl⟩:=List.mem_map.1 h
 exact .inl ⟨n,rfl,List.mem_range.1 hn⟩
def Q1_ (g:List (Nat->Int)) (f:Nat->Int) (p:Slo):Int:=if p.1<0 then f p.2.toNat else (g.getD p.1.toNat fun _=>0) p.2.toNat
def YB_ (t:Tst) (g:List (Nat->Int)) (f:Nat->Int):List Int:=(Q1 t).map (Q1_ g f)
def zJt (l:List Int):List Int:=l++List.replicate (40-l.length) 0
def T4 (t:Tst) (g:List (Nat->Int)) (f:Nat->Int):List Int:=(YB_ t g f).length::zJt (YB_ t g f)
theorem UR_ {l:List Int} (h:l.length<=40):(zJt l).length=40:=by unfold zJt;simp;omega
theorem Q2_ (t:Tst) (g:List (Nat->Int)) (f:Nat->Int):(YB_ t g f).length=(Q1 t).length:=length_map ..
theorem Zn_ {t:Tst} (h:t.ths.length<=4) (h':t.locs.length<=8) (g:List (Nat->Int)) (f:Nat->Int):(T4 t g f).length=41:=by
 have:=VV_ h h'
 unfold T4
 simp only [length_cons]
 rw [UR_ (by rw [Q2_];omega)]
theorem zJu {l:List Int} {i:Nat} {x:Int} (h:l[i]?=some x) (h40:l.length<=40):(zJt (l.take i)).set i x=zJt (l.take (i+1)):=by
 have hi:=(List.getElem?_eq_some_iff.1 h).1
 have hl:(l.take i).length=i:=by rw [length_take];omega
 unfold zJt
 rw [N6 h]
 simp only [hl,length_append,length_singleton]
 rw [set_append_right _ _ (by omega),hl,Nat.sub_self,show 40-i=(40-(i+1))+1 by omega,replicate_succ]
 simp
def E1 (g:List (Nat->Int)):List V:=g.map fun f=>.agg (J0 f)
@[go_sem] theorem YC_ (l:List (Nat->Int)):(E1 l).length=l.length:=length_map ..
@[go_sem] theorem zJv (l:List (Nat->Int)) (i:Nat):(E1 l)[i]?=l[i]?.map fun f=>V.agg (J0 f):=List.getElem?_map ..
@[go_sem] theorem zbz (l:List (Nat->Int)) (i:Nat) (h:i<(E1 l).length):(E1 l)[i]=.agg (J0 (l[i]'(by simpa [E1] using h))):=by simp [E1]
@[go_sem high] theorem zJw (f:Nat->Int):(J0 f).length=8:=Eq.trans rfl rfl
@[go_sem high] theorem zc0 (f:Nat->Int):(V.agg (J0 f)).fits 8=true:=Eq.trans rfl rfl
theorem VW_ (f:Nat->Int) {r:Nat} (h:r<8):F5 false 1 (J0 f) r=uV (f r):=by rcases lt8 h with rfl|rfl|rfl|rfl|rfl|rfl|rfl|rfl<;>rfl
theorem zJx (f:Nat->Int):NLs (J0 f):=fun v hv=>by obtain ⟨a,_,rfl⟩:=List.mem_map.1 hv;exact .val _
theorem zJy (l:List (Nat->Int)):NL (.ro 8 (E1 l)):=.ro fun v hv=>by obtain ⟨a,_,rfl⟩:=List.mem_map.1 hv;exact zJx a
theorem zJz {n:Int} {r:List Int} {i:Nat} {x:Int} (h:i<r.length):B2 (.agg (iV n::uVs r)) (1+i) (uV x)=.agg (iV n::uVs (r.set i x)):=by
 simp only [B2,V.cells,splice]
 congr 1
 rw [Nat.add_comm 1 i,take_succ_cons]
 simp only [length_singleton,cons_append,drop_succ_cons,List.cons.injEq,true_and]
 unfold uVs
 rw [map_set,set_eq_take_append_cons_drop,if_pos (by simpa using h)]
 simp
theorem zY3 {n m:Int} {r:List Int}:B2 (.agg (iV n::uVs r)) 0 (iV m)=.agg (iV m::uVs r):=by simp [B2,V.cells,splice]
theorem WC_:uVs (List.replicate 40 0)=List.replicate 40 (uV 0):=by simp [uVs]
theorem zY4 (l:List Int):(∀ x,x∈uVs l->x.one=true)=True:=eq_true fun x hx=>by obtain ⟨a,_,rfl⟩:=List.mem_map.1 hx;rfl
def tkd (p:Nat):Bool:=decide (p<104)&&(decide (p % 26<2)||(decide (10<=p % 26)&&decide (p % 2=0)))
def zK0 (p:Nat):IntKind:=if tkd p then .i8 else .u64
def mVf:Nat->List Int->List V
 | _,[]=>[]
 | p,n::r=>.val (.int (zK0 p) n)::mVf (p+1) r
def mV (k:List Int):List V:=mVf 0 k
def gt (k:List Int) (p:Nat):Int:=k.getD p 0
def kN (p:Nat) (n:Int):V:=.val (.int (zK0 p) n)
theorem zK1:∀ (p:Nat) (k:List Int),(mVf p k).length=k.length
 | _,[]=>rfl
 | p,_::k=>by simp [mVf,zK1]
theorem Q3_ (k:List Int):(mV k).length=k.length:=zK1 0 k
theorem zK2:∀ (p:Nat) (k:List Int) (i:Nat),(mVf p k)[i]?=k[i]?.map fun n=>kN (p+i) n
 | _,[],_=>by simp [mVf]
 | p,n::k,0=>by simp [mVf,kN]
 | p,n::k,i+1=>by
  have:=zK2 (p+1) k i
  simp only [mVf,List.getElem?_cons_succ,this]
  rw [show p+1+i=p+(i+1) by omega]
theorem X1 (k:List Int) (i:Nat):(mV k)[i]?=k[i]?.map fun n=>kN i n:=by rw [mV,zK2];simp
theorem zK3 (k:List Int):∀ x∈mV k,x.one=true:=by
 intro x hx
 obtain ⟨i,hi⟩:=List.mem_iff_getElem?.1 hx
 rw [X1] at hi
 cases h:k[i]? with
 | none=>rw [h] at hi;cases hi
 | some n=>rw [h] at hi;cases hi;rfl
theorem zY5 (k:List Int):NLs (mV k):=by
 intro x hx
 obtain ⟨i,hi⟩:=List.mem_iff_getElem?.1 hx
 rw [X1] at hi
 cases h:k[i]? with
 | none=>rw [h] at hi;cases hi
 | some n=>rw [h] at hi;cases hi;exact .val _
theorem m4 (k:List Int) (S:List Nat) (H:A8) (d:Nat):(mV k).map (frz S H d)=mV k:=by
 apply List.ext_getElem?
 intro i
 rw [List.getElem?_map,X1]
 cases k[i]? with
 | none=>rfl
 | some n=>cases d<;>rfl
theorem zDp {k:List Int} {p:Nat} {n:Int} (h:p<k.length):B2 (.agg (mV k)) p (kN p n)=.agg (mV (k.set p n)):=by
 simp only [B2,V.cells,splice]
 congr 1
 apply List.ext_getElem?
 intro i
 have hl:(mV k).length=k.length:=Q3_ k
 rw [X1,List.getElem?_set]
 show (List.take p (mV k)++([kN p n]++List.drop (p+1) (mV k)))[i]?=_
 have ht:(List.take p (mV k)).length=p:=by rw [length_take];omega
 by_cases h1:i<p
 .rw [List.getElem?_append_left (by omega),List.getElem?_take_of_lt h1,X1,if_neg (by omega)]
 by_cases h2:p=i
 .subst h2
  rw [List.getElem?_append_right (by omega),ht,Nat.sub_self,if_pos rfl,if_pos h];rfl
 rw [List.getElem?_append_right (by omega),ht,if_neg h2,List.getElem?_append_right (by simp;omega),List.getElem?_drop,X1]
 have:p+1+(i-p-[kN p n].length)=i:=by simp;omega
 rw [this]
def zY6:List EK:=List.replicate 112 .int
theorem zSv:∀ (p:Nat) (a b:List Int) (m:Nat),a.length=m->b.length=m->E7 (List.replicate m .int) (mVf p a) (mVf p b)=some (decide (a=b))
 | _,[],[],_,h,_=>by subst h;rfl
 | _,[],_::_,m,h,h'=>by subst h;cases h'
 | _,_::_,[],m,h,h'=>by subst h';cases h
 | _,x::a,y::b,0,h,_=>by cases h
 | p,x::a,y::b,m+1,h,h'=>by
  have:=zSv (p+1) a b m (by simpa using h) (by simpa using h')
  simp only [mVf,replicate_succ,E7,this,if_true,Option.map_some,Option.some.injEq,List.cons.injEq]
  rw [Bool.eq_iff_iff];simp
theorem zY7 {a b:List Int} (h:a.length=112) (h':b.length=112):E7 zY6 (mV a) (mV b)=some (decide (a=b)):=zSv 0 a b 112 h h'
def YD_ (l:List (List Int)):List (V × V):=l.map fun k=>(.agg (mV k),bV true)
theorem VX_ {k:List Int} (hk:k.length=112):∀ {l:List (List Int)},(∀ q∈l,q.length=112)->Yo_ zY6 (mV k) (YD_ l)=some (if k∈l then some (bV true) else none)
 | [],_=>rfl
 | q::l,h=>by
  have ih:=VX_ hk (l:=l) fun r hr=>h r (by simp [hr])
  have e:=zY7 hk (h q (by simp))
  unfold YD_ at ih ⊢
  simp only [map_cons,Yo_]
  rw [e]
  by_cases hq:k=q
  .subst hq;simp
  simp [hq,ih]
theorem Q4_ {k:List Int} (hk:k.length=112):∀ {l:List (List Int)},(∀ q∈l,q.length=112)->Js_ zY6 (mV k) (bV true) (YD_ l)=some (YD_ (if k∈l then l else l++[k]))
 | [],_=>by simp [YD_,Js_]
 | q::l,h=>by
  have ih:=Q4_ hk (l:=l) fun r hr=>h r (by simp [hr])
  have e:=zY7 hk (h q (by simp))
  unfold YD_ at ih ⊢
  simp only [map_cons,Js_]
  rw [e]
  by_cases hq:k=q
  .subst hq;simp
  by_cases hm:k∈l
  .simp [hq,ih,hm]
  simp [hq,ih,hm]
theorem zG0 {p:Nat} (h:tkd p=true) (n:Int):kN p n=.val (.int .i8 n):=by simp [kN,zK0,h]
theorem WD_ {p:Nat} (h:tkd p=false) (n:Int):kN p n=.val (.int .u64 n):=by simp [kN,zK0,h]
theorem lt4 {i:Nat} (h:i<4):i=0\/i=1\/i=2\/i=3:=by omega
theorem zSw {i:Nat} (hi:i<4):tkd (i*26)=true:=by rcases lt4 hi with rfl|rfl|rfl|rfl<;>rfl
theorem zDq {i:Nat} (hi:i<4):tkd (i*26+1)=true:=by rcases lt4 hi with rfl|rfl|rfl|rfl<;>rfl
theorem zAv {i r:Nat} (hi:i<4) (hr:r<8):tkd (i*26+2+r)=false:=by
 rcases lt4 hi with rfl|rfl|rfl|rfl<;>rcases lt8 hr with rfl|rfl|rfl|rfl|rfl|rfl|rfl|rfl<;>rfl
theorem zK4 {i s:Nat} (hi:i<4) (hs:s<8):tkd (i*26+10+s*2)=true:=by
 rcases lt4 hi with rfl|rfl|rfl|rfl<;>rcases lt8 hs with rfl|rfl|rfl|rfl|rfl|rfl|rfl|rfl<;>rfl
theorem zK5 {i s:Nat} (hi:i<4) (hs:s<8):tkd (i*26+10+s*2+1)=false:=by
 rcases lt4 hi with rfl|rfl|rfl|rfl<;>rcases lt8 hs with rfl|rfl|rfl|rfl|rfl|rfl|rfl|rfl<;>rfl
theorem zAw {x:Nat} (hx:x<8):tkd (104+x)=false:=by rcases lt8 hx with rfl|rfl|rfl|rfl|rfl|rfl|rfl|rfl<;>rfl
abbrev i8V (n:Int):V:=.val (.int .i8 n)
theorem zAx {k:List Int} {p:Nat} (h:p<k.length):(mV k)[p]?=some (kN p (gt k p)):=by
 rw [X1,List.getElem?_eq_getElem h,gt,List.getD,List.getElem?_eq_getElem h];rfl
section
variable {k:List Int} (hk:k.length=112) {i r s x:Nat} (hi:i<4) (hr:r<8) (hs:s<8)
include hk
theorem D0:(mV k).length=112:=(Q3_ k).trans hk
include hi
theorem J4:(mV k)[i*26]?=some (i8V (gt k (i*26))):=by rw [zAx (by omega),zG0 (zSw hi)]
theorem D2:(mV k)[i*26+1]?=some (i8V (gt k (i*26+1))):=by rw [zAx (by omega),zG0 (zDq hi)]
theorem US_ (n:Int):B2 (.agg (mV k)) (i*26) (i8V n)=.agg (mV (k.set (i*26) n)):=by
 show B2 _ _ (.val (.int .i8 n))=_
 rw [<-zG0 (zSw hi),zDp (by omega)]
theorem WE_ (n:Int):B2 (.agg (mV k)) (i*26+1) (i8V n)=.agg (mV (k.set (i*26+1) n)):=by
 show B2 _ _ (.val (.int .i8 n))=_
 rw [<-zG0 (zDq hi),zDp (by omega)]
include hr
theorem zga:(mV k)[i*26+2+r]?=some (uV (gt k (i*26+2+r))):=by rw [zAx (by omega),WD_ (zAv hi hr)]
theorem j5 (n:Int):B2 (.agg (mV k)) (i*26+2+r) (uV n)=.agg (mV (k.set (i*26+2+r) n)):=by
 show B2 _ _ (.val (.int .u64 n))=_
 rw [<-WD_ (zAv hi hr),zDp (by omega)]
omit hr
include hs
theorem zSx:(mV k)[i*26+10+s*2]?=some (i8V (gt k (i*26+10+s*2))):=by rw [zAx (by omega),zG0 (zK4 hi hs)]
theorem zSy:(mV k)[i*26+10+s*2+1]?=some (uV (gt k (i*26+10+s*2+1))):=by rw [zAx (by omega),WD_ (zK5 hi hs)]
omit hi hs
variable (hx:x<8)
include hx
theorem Zo_:(mV k)[104+x]?=some (uV (gt k (104+x))):=by rw [zAx (by omega),WD_ (zAw hx)]
theorem XD_ (n:Int):B2 (.agg (mV k)) (104+x) (uV n)=.agg (mV (k.set (104+x) n)):=by
 show B2 _ _ (.val (.int .u64 n))=_
 rw [<-WD_ (zAw hx),zDp (by omega)]
end
def UT_ (k:List Int) (i:Nat) (r:Bool) (n:Int):Int:=if r then gt k (i*26+2+n.toNat) else n
def drB (x:Ins):Bool:=decide (x.op=15)&&(decide (2<=x.pred)&&decide (x.succ≠2))
theorem zgb {k:List Int} {p q:Nat} {n:Int} (hq:q<k.length):gt (k.set p n) q=if p=q then n else gt k q:=by
 unfold gt
 rw [List.getD,List.getElem?_set]
 by_cases h:p=q
 .subst h;simp [hq]
 simp [h]
theorem L6 {k:List Int} {p:Nat} {n:Int} (hp:p<k.length):gt (k.set p n) p=n:=by rw [zgb hp,if_pos rfl]
theorem D1 {k:List Int} {p q:Nat} {n:Int} (h:p≠q):gt (k.set p n) q=gt k q:=by
 unfold gt;rw [List.getD,List.getD,List.getElem?_set_ne h]
def Z8 (k:List Int) (i:Nat):List Int:=k.take (i*26+10)++((k.drop (i*26+12)).take 14++k.drop (i*26+24))
theorem v7 {k:List Int} (hk:k.length=112) {i:Nat} (hi:i<4):(Z8 k i).length=112:=by
 unfold Z8;simp [hk];omega
theorem VY_ {k:List Int} (hk:k.length=112) {i:Nat} (hi:i<4) (q:Nat):(Z8 k i)[q]?=if i*26+10<=q/\q<i*26+24 then k[q+2]? else k[q]?:=by
 unfold Z8
 have h1:(k.take (i*26+10)).length=i*26+10:=by rw [length_take];omega
 have h2:((k.drop (i*26+12)).take 14).length=14:=by rw [length_take,length_drop];omega
 by_cases ha:q<i*26+10
 .rw [List.getElem?_append_left (by omega),List.getElem?_take_of_lt ha,if_neg (by omega)]
 rw [List.getElem?_append_right (by omega),h1]
 by_cases hb:q<i*26+24
 .rw [List.getElem?_append_left (by omega),List.getElem?_take_of_lt (by omega),List.getElem?_drop,if_pos ⟨by omega,hb⟩]
  congr 1;omega
 rw [List.getElem?_append_right (by omega),h2,List.getElem?_drop,if_neg (by omega)]
 congr 1;omega
theorem v8 {k:List Int} (hk:k.length=112) {i:Nat} (hi:i<4) (q:Nat):gt (Z8 k i) q=if i*26+10<=q/\q<i*26+24 then gt k (q+2) else gt k q:=by
 unfold gt;simp only [List.getD,VY_ hk hi];split<;>rfl
theorem zK6 {i q:Nat} (hi:i<4) (h:i*26+10<=q) (h':q<i*26+24):tkd (q+2)=tkd q:=by
 have h1:∀ i,i<4->∀ j,j<14->tkd (i*26+10+j+2)=tkd (i*26+10+j):=by decide
 have:=h1 i hi (q-(i*26+10)) (by omega)
 rwa [show i*26+10+(q-(i*26+10))=q by omega] at this
theorem zG1 {k:List Int} (hk:k.length=112) {i:Nat} (hi:i<4):B2 (.agg (mV k)) (i*26+10) (.agg (((mV k).drop (i*26+12)).take 14))=.agg (mV (Z8 k i)):=by
 have hm:=Q3_ k
 simp only [B2,V.cells,splice]
 congr 1
 apply List.ext_getElem?
 intro q
 rw [X1,VY_ hk hi]
 have h1:((mV k).take (i*26+10)).length=i*26+10:=by rw [length_take];omega
 have h2:(((mV k).drop (i*26+12)).take 14).length=14:=by rw [length_take,length_drop];omega
 by_cases ha:q<i*26+10
 .rw [List.getElem?_append_left (by omega),List.getElem?_take_of_lt ha,if_neg (by omega),X1]
 rw [List.getElem?_append_right (by omega),h1]
 by_cases hb:q<i*26+24
 .rw [List.getElem?_append_left (by omega),List.getElem?_take_of_lt (by omega),List.getElem?_drop,if_pos ⟨by omega,hb⟩,X1,show i*26+12+(q-(i*26+10))=q+2 by omega]
  congr 1;funext n
  simp only [kN,zK0,zK6 hi (by omega) hb]
 rw [List.getElem?_append_right (by omega),h2,List.getElem?_drop,if_neg (by omega),X1]
 rw [show i*26+10+14+(q-(i*26+10)-14)=q by omega]
theorem zDr {k:List Int} (hk:k.length=112) {i s:Nat} (hi:i<4) (hs:s<8) (a b:Int):B2 (.agg (mV k)) (i*26+10+s*2) (.agg [i8V a,uV b])=.agg (mV ((k.set (i*26+10+s*2) a).set (i*26+10+s*2+1) b)):=by
 generalize hp:i*26+10+s*2=p
 have ea:i8V a=kN p a:=by rw [zG0 (by rw [<-hp];exact zK4 hi hs)]
 have eb:uV b=kN (p+1) b:=by rw [WD_ (by rw [<-hp];exact zK5 hi hs)]
 rw [ea,eb]
 have hm:=Q3_ k
 have hp2:p+2<=k.length:=by omega
 simp only [B2,V.cells,splice]
 congr 1
 apply List.ext_getElem?
 intro q
 have h1:((mV k).take p).length=p:=by rw [length_take];omega
 rw [X1,List.getElem?_set,List.getElem?_set]
 show ((mV k).take p++([kN p a,kN (p+1) b]++(mV k).drop (p+2)))[q]?=_
 by_cases ha:q<p
 .rw [List.getElem?_append_left (by omega),List.getElem?_take_of_lt ha,X1,if_neg (by omega),if_neg (by omega)]
 rw [List.getElem?_append_right (by omega),h1]
 by_cases hb:q=p
 .subst hb
  rw [if_neg (by omega),if_pos rfl,if_pos (by omega),Nat.sub_self];rfl
 by_cases hc:q=p+1
 .subst hc
  rw [if_pos rfl,if_pos (by rw [length_set];omega),show p+1-p=1 by omega];rfl
 rw [if_neg (by omega),if_neg (by omega),List.getElem?_append_right (by simp;omega),List.getElem?_drop,X1]
 rw [show p+2+(q-p-[kN p a,kN (p+1) b].length)=q by simp;omega]
theorem zY8 {k:List Int} (hk:k.length=112) {i:Nat} (hi:i<4):(mV k)[i*26+10]?=some (i8V (gt k (i*26+10))):=zSx (s:=0) hk hi (by omega)
theorem zY9 {k:List Int} (hk:k.length=112) {i:Nat} (hi:i<4):(mV k)[i*26+10+1]?=some (uV (gt k (i*26+10+1))):=zSy (s:=0) hk hi (by omega)
def I8 (k:List Int) (i:Nat):List Int:=k.set (104+(gt k (i*26+10)).toNat) (gt k (i*26+10+1))
def U9 (k:List Int) (i:Nat) (w:Nat):List Int:=(Z8 (I8 k i) i).set (i*26+1) (w:Nat)
def I4 (k:List Int) (i:Nat) (w:Nat):List Int:=((U9 k i w).set (i*26+10+w*2) 0).set (i*26+10+w*2+1) 0
structure TOk (len p:Nat) (x:Ins):Prop where
 op1:1<=x.op
 op17:x.op<=17
 rd0:0<=x.rd
 rd8:x.rd<8
 a:x.aR=true->0<=x.aN/\x.aN<8
 b:x.bR=true->0<=x.bN/\x.bN<8
 fence:x.op=15->(1<=x.pred/\x.pred<=3)/\(1<=x.succ/\x.succ<=3)
 loc:G4 x.op=true->0<=x.loc/\x.loc<8
 skip0:0<=x.skip
 skip:(p:Int)+x.skip+1<=len
def zK7 (l:List Ins):Prop:=l.length<=8/\∀ p x,l[p]?=some x->TOk l.length p x
def brT (k:List Int) (i:Nat) (x:Ins):Bool:=decide (15<x.op)&&(decide (UT_ k i x.aR x.aN=UT_ k i x.bR x.bN)==decide (x.op=16))
def Y3 (x:Ins) (i:Nat) (k:List Int):List Int :=
 if x.op=1 then k.set (i*26+2+x.rd.toNat) x.aN
 else if x.op<9 then k.set (i*26+2+x.rd.toNat) (QA_ x.op (UT_ k i x.aR x.aN) (UT_ k i x.bR x.bN))
 else if brT k i x=true then k.set (i*26) (gt k (i*26)+x.skip)
 else k
def W6 (k:List Int) (i:Nat):List Int:=k.set (i*26) (gt k (i*26)+1)
def Zp_ (x:Ins) (i:Nat) (k:List Int):Bool:=G4 x.op||(drB x&&decide (0<gt k (i*26+1)))
def locT (l:List Ins) (i:Nat):Nat->List Int->List Int
 | 0,k=>k
 | n+1,k=>match l[(gt k (i*26)).toNat]? with
  | none=>k
  | some x=>if Zp_ x i k=true then k else locT l i n (W6 (Y3 x i k) i)
theorem Zq_ (x:Ins) (i:Nat) (k:List Int):(Y3 x i k).length=k.length:=by
 unfold Y3
 split
 .exact length_set
 split
 .exact length_set
 split
 .exact length_set
 rfl
theorem w3 (k:List Int) (i:Nat):(W6 k i).length=k.length:=length_set
theorem zDs (l:List Ins) (i:Nat):∀ (n:Nat) (k:List Int),(locT l i n k).length=k.length
 | 0,k=>rfl
 | n+1,k=>by
  unfold locT
  split
  .rfl
  split
  .rfl
  rw [zDs l i n,w3,Zq_]
def zGw (i q:Nat):Prop:=q=i*26\/(i*26+2<=q/\q<i*26+10)
theorem YE_ {x:Ins} {i:Nat} {k:List Int} {q:Nat} (hr0:0<=x.rd) (hr:x.rd<8) (hq:¬ zGw i q):gt (Y3 x i k) q=gt k q:=by
 unfold zGw at hq
 unfold Y3
 split
 .exact D1 (by omega)
 split
 .exact D1 (by omega)
 split
 .exact D1 (by omega)
 rfl
theorem I9 {i:Nat} {k:List Int} {q:Nat} (hq:q≠i*26):gt (W6 k i) q=gt k q:=D1 (Ne.symm hq)
theorem zYa {x:Ins} {i:Nat} {k:List Int} (hk:k.length=112) (hi:i<4) (hr0:0<=x.rd):gt (Y3 x i k) (i*26)=if 9<=x.op/\brT k i x=true then gt k (i*26)+x.skip else gt k (i*26):=by
 unfold Y3
 by_cases h1:x.op=1
 .rw [if_pos h1,if_neg (by omega),D1 (by omega)]
 rw [if_neg h1]
 by_cases h2:x.op<9
 .rw [if_pos h2,if_neg (by omega),D1 (by omega)]
 rw [if_neg h2]
 by_cases h3:brT k i x=true
 .rw [if_pos h3,if_pos ⟨by omega,h3⟩,L6 (by omega)]
 rw [if_neg h3,if_neg fun h=>h3 h.2]
theorem zAy {l : List Ins} {x : Ins} {i : Nat} {k : List Int} (hk : k.length = 112) (hi : i < 4) {p : Nat} (hp : gt k (i * 26) = (p : Nat)) (hx : TOk l.length p x) :
    ∃ p':Nat,gt (Y3 x i k) (i*26)=(p':Nat)/\p<=p'/\p'+1<=l.length/\gt (W6 (Y3 x i k) i) (i*26)=((p'+1:Nat):Int):=by
  have h:=zYa (x:=x) hk hi hx.rd0
  have hs:=hx.skip
  have hs0:=hx.skip0
  have hl:=Zq_ x i k
  rw [hp] at h
  obtain ⟨p',hp'⟩:∃ p':Nat,gt (Y3 x i k) (i*26)=(p':Nat):=by
    refine ⟨(gt (Y3 x i k) (i*26)).toNat,?_⟩
    rw [h];split<;>omega
  refine ⟨p',hp',?_,?_,?_⟩
  . rw [hp'] at h;split at h<;>omega
  . rw [hp'] at h;split at h<;>omega
  unfold W6;rw [L6 (by omega),hp'];rfl
def i0:Ins:={ op:=0,rd:=0,loc:=0,aR:=false,aN:=0,bR:=false,bN:=0,acq:=false,rel:=false,dep:=0,pred:=0,succ:=0,skip:=0 }
def ZI_ (t:Tst) (p:Nat × Nat):Ins:=(t.ths.getD p.1 []).getD p.2 i0
structure Cs where
 t:Tst
 f:Os'
 fr:List Int
def Cs.ops (c:Cs):List (Nat × Nat):=O0 0 c.t.ths
def Cs.n (c:Cs):Nat:=c.ops.length
def Cs.cs (c:Cs):List V:=[.rp c.t.cs 0,.ro 2 (j3 c.ops),.rp c.f.cs 0,.ro 1 (iVs c.fr)]
def Cs.op (c:Cs) (k:Nat):Nat × Nat:=c.ops.getD k (0,0)
def Cs.x (c:Cs) (k:Nat):Ins:=ZI_ c.t (c.op k)
def Cs.run (c:Cs) (k:Nat):Bool:=decide (c.f.f.state.getD k 0=1)
def Cs.th (c:Cs) (a b:Nat):Bool:=decide ((c.op a).1=(c.op b).1)
def Cs.at_ (c:Cs) (q:Ins->Bool) (k:Nat):Bool:=c.run k&&q (c.x k)
def Cs.rd (c:Cs):Nat->Bool:=c.at_ fun x=>rdB x.op
def Cs.wr (c:Cs):Nat->Bool:=c.at_ fun x=>wrB x.op
theorem zSz (l:List (Nat × Nat)):NL (.ro 2 (j3 l)):=.ro fun v hv=>by obtain ⟨a,_,rfl⟩:=List.mem_map.1 hv;exact .cons (.val _) (.cons (.val _) .nil)
theorem YF_ (c:Cs):NL (.rp c.cs 0):=.rp (.cons (x5 _) (.cons (zSz _) (.cons (UK_ _) (.cons (Qs_ _) .nil))))
structure CsOk (c:Cs):Prop where
 ths:c.t.ths.length<=4
 len:∀ l∈c.t.ths,l.length<=8
 n8:c.n<=8
 fl:FlOk c.n c.f.f
 left:c.f.left.length=c.t.ths.length
 frl:c.fr.length=c.n
 fr1:∀ (k:Nat) (x:Int),c.fr[k]?=some x->-1<=x/\x<c.n
 pr1:∀ (k:Nat) (x:Int),c.f.f.pair[k]?=some x->0<=x/\x<=c.n
 leU:∀ (k:Nat) (x:Int),c.f.left[k]?=some x->0<=x/\x<18446744073709551616
 plU:∀ (k:Nat) (x:Int),c.f.f.place[k]?=some x->0<=x/\x<18446744073709551616
 vaU:∀ (k:Nat) (x:Int),c.f.f.value[k]?=some x->0<=x/\x<18446744073709551616
 phU:∀ (k:Nat) (x:Int),c.f.f.path[k]?=some x->0<=x/\x<18446744073709551616
 fen:∀ l∈c.t.ths,∀ x∈l,x.op=15->(x.pred=1\/x.pred=2\/x.pred=3)/\(x.succ=1\/x.succ=2\/x.succ=3)
theorem UU_ {th:Nat}:∀ {i:Nat} {l:List Ins} {p:Nat × Nat},p∈Yr_ th i l->p.1=th/\i<=p.2/\p.2<i+l.length/\∃ x,l[p.2-i]?=some x/\J8 x=true
 | i,[],p,h=>by simp [Yr_] at h
 | i,x::l,p,h=>by
  have key:p∈Yr_ th (i+1) l->p.1=th/\i<=p.2/\p.2<i+(x::l).length/\∃ y,(x::l)[p.2-i]?=some y/\J8 y=true:=fun h=>by
   obtain ⟨h1,h2,h3,y,h4,h5⟩:=UU_ h
   refine ⟨h1,by omega,by simp only [length_cons];omega,y,?_,h5⟩
   obtain ⟨m,hm⟩:∃ m,p.2-i=m+1:=⟨p.2-i-1,by omega⟩
   rw [hm,List.getElem?_cons_succ,show m=p.2-(i+1) by omega];exact h4
  unfold Yr_ at h
  split at h
  .rename_i hm
   rcases List.mem_cons.1 h with rfl|h
   .refine ⟨rfl,Nat.le_refl _,by simp only [length_cons];omega,x,by simp,hm⟩
   exact key h
  exact key h
theorem UV_:∀ {i:Nat} {l:List (List Ins)} {p:Nat × Nat},p∈O0 i l->i<=p.1/\p.1<i+l.length/\∃ y x,l[p.1-i]?=some y/\y[p.2]?=some x/\J8 x=true
 | i,[],p,h=>by simp [O0] at h
 | i,y::l,p,h=>by
  rcases List.mem_append.1 h with h|h
  .obtain ⟨h1,h2,h3,x,h4,h5⟩:=UU_ h
   refine ⟨by omega,by simp only [length_cons];omega,y,x,by rw [h1];simp,by simpa using h4,h5⟩
  obtain ⟨h1,h2,z,x,h4,h5⟩:=UV_ h
  refine ⟨by omega,by simp only [length_cons];omega,z,x,?_,h5⟩
  obtain ⟨m,hm⟩:∃ m,p.1-i=m+1:=⟨p.1-i-1,by omega⟩
  rw [hm,List.getElem?_cons_succ,show m=p.1-(i+1) by omega];exact h4
theorem Cs.opAt {c:Cs} {k:Nat} (hk:k<c.n):∃ l,c.ops[k]?=some (c.op k)/\c.t.ths[(c.op k).1]?=some l/\l[(c.op k).2]?=some (c.x k)/\J8 (c.x k)=true:=by
 have h1:c.ops[k]?=some (c.op k):=by unfold Cs.op;rw [List.getD,List.getElem?_eq_getElem hk];rfl
 obtain ⟨h2,h3,l,x,h4,h5,h6⟩:=UV_ (List.mem_of_getElem? h1)
 have e:c.x k=x:=by
  unfold Cs.x ZI_
  rw [List.getD,List.getD,show c.t.ths[(c.op k).1]?=some l by simpa using h4]
  simp [h5]
 exact ⟨l,h1,by simpa using h4,by rw [e];exact h5,by rw [e];exact h6⟩
theorem Cs.run_lt {c:Cs} (hc:CsOk c) {k:Nat} (h:c.run k=true):k<c.n:=Classical.byContradiction fun hk=>by
 have:=hc.fl.l1
 unfold Cs.run at h
 rw [List.getD,List.getElem?_eq_none (by omega)] at h
 simp at h
theorem Cs.run_out {c:Cs} (hc:CsOk c) {k:Nat} (h:c.n<=k):c.run k=false:=by
 rw [Bool.eq_false_iff];intro e;have:=Cs.run_lt hc e;omega
def upR (q:Nat->Nat->Bool) (a b x y:Nat):Bool:=q x y&&(decide (x<a)||(decide (x=a)&&decide (y<b)))
def upC (q:Nat->Nat->Bool) (b a x y:Nat):Bool:=q x y&&(decide (y<b)||(decide (y=b)&&decide (x<a)))
theorem C3 {p q:Nat->Nat->Bool} (h:∀ a b,p a b=q a b):B6 p=B6 q:=F6 fun a _ b _=>h a b
section
variable {q:Nat->Nat->Bool} {a b m:Nat}
theorem zDt:B6 (upR q 0 0)=B6 fun _ _=>false:=C3 fun x y=>by simp [upR]
theorem zAz (h:q a b=true):B6 (fun x y=>upR q a b x y||(decide ((x:Int)=(a:Nat))&&decide ((y:Int)=(b:Nat))))=B6 (upR q a (b+1)):=C3 fun x y=>by
 unfold upR
 rw [Bool.eq_iff_iff]
 simp only [Bool.or_eq_true,Bool.and_eq_true,decide_eq_true_eq]
 constructor
 .rintro (⟨h1,h2⟩|⟨h1,h2⟩)
  .exact ⟨h1,by omega⟩
  obtain rfl:x=a:=by omega
  obtain rfl:y=b:=by omega
  exact ⟨h,by omega⟩
 rintro ⟨h1,h2⟩
 by_cases e:x=a/\y=b
 .exact .inr ⟨by omega,by omega⟩
 exact .inl ⟨h1,by omega⟩
theorem zDu (h:q a b=false):B6 (upR q a b)=B6 (upR q a (b+1)):=C3 fun x y=>by
 unfold upR
 rw [Bool.eq_iff_iff]
 simp only [Bool.or_eq_true,Bool.and_eq_true,decide_eq_true_eq]
 constructor
 .rintro ⟨h1,h2⟩;exact ⟨h1,by omega⟩
 rintro ⟨h1,h2⟩
 refine ⟨h1,?_⟩
 by_cases e:x=a/\y=b
 .obtain ⟨rfl,rfl⟩:=e;rw [h] at h1;cases h1
 omega
theorem UW_ {s:Nat} (h:∀ y,b<=y->q a y=false) (h':∀ y,y<s->q (a+1) y=false):B6 (upR q a b)=B6 (upR q (a+1) s):=C3 fun x y=>by
 unfold upR
 rw [Bool.eq_iff_iff]
 simp only [Bool.or_eq_true,Bool.and_eq_true,decide_eq_true_eq]
 constructor
 .rintro ⟨h1,h2⟩;exact ⟨h1,by omega⟩
 rintro ⟨h1,h2⟩
 refine ⟨h1,?_⟩
 rcases h2 with h2|⟨h2,h3⟩
 .by_cases e:x=a
  .subst e
   by_cases e2:y<b
   .omega
   rw [h y (by omega)] at h1;cases h1
  omega
 subst h2;rw [h' y h3] at h1;cases h1
theorem UX_:B6 (upC q 0 0)=B6 fun _ _=>false:=C3 fun x y=>by simp [upC]
theorem zYb (h:q a b=true):B6 (fun x y=>upC q b a x y||(decide ((x:Int)=(a:Nat))&&decide ((y:Int)=(b:Nat))))=B6 (upC q b (a+1)):=C3 fun x y=>by
 unfold upC
 rw [Bool.eq_iff_iff]
 simp only [Bool.or_eq_true,Bool.and_eq_true,decide_eq_true_eq]
 constructor
 .rintro (⟨h1,h2⟩|⟨h1,h2⟩)
  .exact ⟨h1,by omega⟩
  obtain rfl:x=a:=by omega
  obtain rfl:y=b:=by omega
  exact ⟨h,by omega⟩
 rintro ⟨h1,h2⟩
 by_cases e:x=a/\y=b
 .exact .inr ⟨by omega,by omega⟩
 exact .inl ⟨h1,by omega⟩
theorem zgc (h:q a b=false):B6 (upC q b a)=B6 (upC q b (a+1)):=C3 fun x y=>by
 unfold upC
 rw [Bool.eq_iff_iff]
 simp only [Bool.or_eq_true,Bool.and_eq_true,decide_eq_true_eq]
 constructor
 .rintro ⟨h1,h2⟩;exact ⟨h1,by omega⟩
 rintro ⟨h1,h2⟩
 refine ⟨h1,?_⟩
 by_cases e:x=a/\y=b
 .obtain ⟨rfl,rfl⟩:=e;rw [h] at h1;cases h1
 omega
theorem zK8 (h:∀ x,q x b=decide (x=m)):B6 (fun x y=>upC q b 0 x y||(decide ((x:Int)=(m:Nat))&&decide ((y:Int)=(b:Nat))))=B6 (upC q (b+1) 0):=C3 fun x y=>by
 unfold upC
 rw [Bool.eq_iff_iff]
 simp only [Bool.or_eq_true,Bool.and_eq_true,decide_eq_true_eq]
 constructor
 .rintro (⟨h1,h2⟩|⟨h1,h2⟩)
  .exact ⟨h1,by omega⟩
  obtain rfl:x=m:=by omega
  obtain rfl:y=b:=by omega
  exact ⟨by rw [h];simp,by omega⟩
 rintro ⟨h1,h2⟩
 by_cases e:y=b
 .subst e;rw [h] at h1
  have:x=m:=by simpa using h1
  exact .inr ⟨by omega,by omega⟩
 exact .inl ⟨h1,by omega⟩
theorem XE_ (h:∀ x,q x b=false):B6 (upC q b 0)=B6 (upC q (b+1) 0):=C3 fun x y=>by
 unfold upC
 rw [Bool.eq_iff_iff]
 simp only [Bool.or_eq_true,Bool.and_eq_true,decide_eq_true_eq]
 constructor
 .rintro ⟨h1,h2⟩;exact ⟨h1,by omega⟩
 rintro ⟨h1,h2⟩
 refine ⟨h1,?_⟩
 by_cases e:y=b
 .subst e;rw [h] at h1;cases h1
 omega
theorem zYc (h:∀ x,a<=x->x<16->q x b=false):B6 (upC q b a)=B6 (upC q (b+1) 0):=F6 fun x hx y _=>by
 unfold upC
 rw [Bool.eq_iff_iff]
 simp only [Bool.or_eq_true,Bool.and_eq_true,decide_eq_true_eq]
 constructor
 .rintro ⟨h1,h2⟩;exact ⟨h1,by omega⟩
 rintro ⟨h1,h2⟩
 refine ⟨h1,?_⟩
 by_cases e:y=b
 .subst e
  by_cases e2:x<a
  .omega
  rw [h x (by omega) hx] at h1;cases h1
 omega
end
def po0 (c:Cs) (a b:Nat):Bool:=decide (a<b)&&decide (b<c.n)&&c.th a b
def poP (c:Cs) (a b:Nat):Bool:=po0 c a b&&(c.run a&&c.run b)
def lcP (c:Cs) (a b:Nat):Bool:=decide (a<c.n)&&decide (b<c.n)&&decide ((c.x a).loc=(c.x b).loc)
def zGx (c:Cs) (a b:Nat):Bool:=decide (b<c.n)&&(decide (c.fr.getD b (-1)=(a:Int))&&c.th a b)
def zgd (c:Cs) (a b:Nat):Bool:=zGx c a b&&(c.run a&&c.run b)
def P8 (m:Int) (a:Nat):Bool:=m.toNat.testBit a
def QB_ (l:List Int) (a b:Nat):Bool:=decide (b<l.length)&&P8 (l.getD b 0) a
def Ys_ (c:Cs) (m:Int) (k:Nat):Bool:=(decide (m=1\/m=3)&&c.rd k)||(decide (m=2\/m=3)&&c.wr k)
def W1_ (c:Cs) (i s:Nat):Bool:=decide ((ZI_ c.t (i,s)).op=15)&&!P8 (c.f.left.getD i 0) s
def zDv (c:Cs) (i s k:Nat):Bool:=decide (k<c.n)&&(decide ((c.op k).1=i)&&decide ((c.op k).2<s))
def UY_ (c:Cs) (i s k:Nat):Bool:=decide (k<c.n)&&(decide ((c.op k).1=i)&&!decide ((c.op k).2<s))
def zc1 (c:Cs) (i s:Nat) (a b:Nat):Bool:=W1_ c i s&&((zDv c i s a&&Ys_ c (ZI_ c.t (i,s)).pred a)&&(UY_ c i s b&&Ys_ c (ZI_ c.t (i,s)).succ b))
def zB0 (c:Cs) (i m:Nat) (a b:Nat):Bool:=(List.range m).any fun s=>zc1 c i s a b
def Q5_ (c:Cs) (i:Nat) (a b:Nat):Bool:=(List.range i).any fun j=>zB0 c j (c.t.ths.getD j []).length a b
def zT0 (c:Cs) (a b:Nat):Bool:=Q5_ c c.t.ths.length a b
def zjp (c:Cs) (a b:Nat):Bool:=poP c a b&&lcP c a b
def Q6_ (c:Cs) (a b:Nat):Bool:=(zjp c a b&&(c.rd a&&c.rd b))&&!th (fun a b=>zjp c a b&&(c.rd a&&c.wr b)) (fun a b=>zjp c a b&&(c.wr a&&c.rd b)) a b
def zK9 (c:Cs) (a b:Nat):Bool:=decide (c.fr.getD a (-1)=c.fr.getD b (-1))
def zge (c:Cs) (a b:Nat):Bool:=Q6_ c a b&&!zK9 c a b
def zKa (c:Cs) (a b:Nat):Bool:=c.run b&&decide (c.f.f.pair.getD b 0=(a:Int)+1)
def zjq (c:Cs):Nat->Bool:=c.at_ fun x=>decide (x.op=11)||(decide (x.op=12)||decide (x.op=14))
def zjr (c:Cs):Nat->Bool:=c.at_ fun x=>x.acq
def zgf (c:Cs):Nat->Bool:=c.at_ fun x=>x.rel
def zc2 (c:Cs) (a b:Nat):Bool:=QB_ c.f.f.place a b&&(c.run a&&c.run b)
def zQ3 (c:Cs) (a b:Nat):Bool:=QB_ c.f.f.value a b&&(c.run a&&c.run b)
def zjs (c:Cs) (a b:Nat):Bool:=QB_ c.f.f.path a b&&(c.run a&&c.run b)
def ip (c:Cs) (a b:Nat):Bool:=zgd c a b&&poP c a b
def rul (c:Cs):List (Nat->Nat->Bool) :=
  [fun a b=>(poP c a b&&lcP c a b)&&(c.run a&&c.wr b),
   zge c,
   fun a b=>ip c a b&&(zjq c a&&c.rd b),
   zT0 c,
   fun a b=>poP c a b&&(zjr c a&&c.run b),
   fun a b=>poP c a b&&(c.run a&&zgf c b),
   fun a b=>poP c a b&&((zjr c a||zgf c a)&&(zjr c b||zgf c b)),
   zKa c,
   zc2 c,
   zQ3 c,
   fun a b=>zjs c a b&&(c.run a&&c.wr b),
   th (fun a b=>(zc2 c a b||zQ3 c a b)&&(c.run a&&c.wr b)) (ip c),
   fun a b=>th (zc2 c) (poP c) a b&&(c.run a&&c.wr b)]
def orU (l:List (Nat->Nat->Bool)) (i:Nat) (a b:Nat):Bool:=(l.take i).any fun r=>r a b
def WF_ (c:Cs) (a b:Nat):Bool:=orU (rul c) 13 a b&&poP c a b
theorem zQ4 {l:List (Nat->Nat->Bool)} {i:Nat} {r:Nat->Nat->Bool} (h:l[i]?=some r) (a b:Nat):orU l (i+1) a b=(orU l i a b||r a b):=by simp [orU,N6 h]
def opX (t:Tst) (k:Nat):Ins:=ZI_ t ((O0 0 t.ths).getD k (0,0))
def E5 (t:Tst) (k:Nat):Nat:=((O0 0 t.ths).getD k (0,0)).1
def nO (t:Tst):Nat:=(O0 0 t.ths).length
def zGy (t:Tst) (k i:Nat):Bool:=!decide (i=k)&&(wrB (opX t i).op&&(decide ((opX t i).loc=(opX t k).loc)&&(!decide (E5 t i=E5 t k)||decide (i<k))))
def Jv_ (t:Tst) (k m:Nat):List Int:=-1::((List.range m).filter (zGy t k)).map fun i:Nat=>(i:Int)
def Yt_ (t:Tst) (k:Nat):List Int:=if rdB (opX t k).op then Jv_ t k (nO t) else [-1]
def zB1 (t:Tst):Nat->Nat->List Bool->List (List Bool)
 | 0,_,w=>[w]
 | f+1,k,w=>zB1 t f (k+1) w++if (opX t k).op=14 then zB1 t f (k+1) (w.set k true) else []
def W2_ (t:Tst):Nat->Nat->List Int->List (List Int)
 | 0,_,p=>[p]
 | f+1,k,p=>(Yt_ t k).flatMap fun i=>W2_ t f (k+1) (p++[i])
def knV (t:Tst) (f:Fl) (fr:List Int) (k:Nat):Vl :=
 if rdB (opX t k).op then (if fr.getD k 0<0 then ⟨true,(t.locs.getD (opX t k).loc.toNat ⟨ByteArray.empty,0⟩).v⟩ else if f.state.getD (fr.getD k 0).toNat 0=1 then f.write.getD (fr.getD k 0).toNat zV else zV) else zV
def knT (t:Tst) (f:Fl) (fr:List Int):List Vl:=tab (nO t) (knV t f fr)
def ZM_ (t:Tst) (w:List Bool) (fr:List Int):Nat->Os'
 | 0=>D5 t (List.replicate (nO t) zV) w
 | i+1=>D5 t (knT t (ZM_ t w fr i).f fr) w
def zT1 (f:Fl) (w:List Bool) (fr:List Int) (k:Nat):Bool :=
 let r:=decide (f.state.getD k 0=1)
 let i:=fr.getD k 0
 (!r&&(decide (0<=i)||w.getD k false))||(r&&(decide (0<=i)&&!decide (f.state.getD i.toNat 0=1)))||(r&&(w.getD k false&&decide (f.pair.getD k 0=0)))
def Z9 (t:Tst) (w:List Bool) (fr:List Int):Option Os' :=
 let f:=ZM_ t w fr (nO t)
 if f.whole then (if (List.range (nO t)).any (zT1 f.f w fr) then none else some f) else none
def zKb:Nat->List Nat->List Nat->List (List Nat)
 | 0,a,_=>[a]
 | f+1,a,l=>(List.range l.length).flatMap fun i=>zKb f (a++[l.getD i 0]) (l.eraseIdx i)
def j6 (c:Cs) (loc m:Nat):List Nat:=(List.range m).filter fun k=>c.wr k&&decide ((c.x k).loc=(loc:Nat))
def UZ_:List Nat->Nat->Nat->Bool
 | [],_,_=>false
 | x::l,a,b=>(decide (x=a)&&decide (b∈l))||UZ_ l a b
abbrev Rl:=Nat->Nat->Bool
def zB2 (l:List Int) (loc:Nat) (p:List Nat):List Int:=match p.getLast? with|none=>l|some k=>l.set loc ((k:Int)+1)
def zNl (c:Cs):Nat->Nat->List Int->Rl->List (List Int × Rl)
 | 0,_,l,co=>[(l,co)]
 | f+1,loc,l,co=>(zKb (j6 c loc c.n).length [] (j6 c loc c.n)).flatMap fun p=>zNl c f (loc+1) (zB2 l loc p) fun a b=>co a b||UZ_ p a b
def S4 (c:Cs) (co:Rl) (a b:Nat):Bool:=decide (a<c.n)&&(decide (b<c.n)&&(c.rd a&&(!decide (b=a)&&(c.wr b&&(decide ((c.x b).loc=(c.x a).loc)&&(decide (c.fr.getD a 0<0)||co (c.fr.getD a 0).toNat b))))))
def zNm (c:Cs) (co:Rl) (k:Nat):Bool :=
 if c.f.f.pair.getD k 0=0\/c.wr k=false then true
 else
  let i:=c.fr.getD (c.f.f.pair.getD k 0-1).toNat 0
  !(decide (0<=i)&&!co i.toNat k)&&!((List.range c.n).any fun w=>c.wr w&&(!c.th w k&&(co w k&&(decide (i<0)||co i.toNat w))))
def zDw (c:Cs) (co:Rl):Bool:=(List.range c.n).all (zNm c co)
def zYd (c:Cs) (a b:Nat):Bool:=decide (b<c.n)&&(decide (c.fr.getD b 0=(a:Int))&&!c.th a b)
def zDx (ord:Cs->Rl) (c:Cs):Rl:=fun a b=>ord c a b||zYd c a b
def Ua_ (kept co fr:Rl):Rl:=fun a b=>(kept a b||co a b)||fr a b
def Ws_ (c:Cs):List (Nat->Int):=c.f.regs.map fun g r=>(g r).v
def zKc (c:Cs) (las:List Int) (i:Nat):Int:=if 0<las.getD i 0 then (c.f.f.write.getD (las.getD i 0-1).toNat zV).v else (c.t.locs.getD i ⟨ByteArray.empty,0⟩).v
def Yu_ (c:Cs) (las:List Int):List Int:=(List.range 8).map fun i=>if i<c.t.locs.length then zKc c las i else 0
structure Rn where
 c:Cs
 co:Rl
 ah:Rl
 st:List Int
def zGz (p:Rl):Bool:=m3 fun a=>m3 fun b=>p a b
def Jw_ (kept:Rl) (c:Cs) (las:List Int) (co:Rl):List Rn :=
 if zGz (fun a b=>S4 c co a b&&poP c b a)||(Zc_ (Ua_ kept co (S4 c co))||!zDw c co) then []
 else [⟨c,co,Ua_ kept co (S4 c co),T4 c.t (Ws_ c) fun i=>(Yu_ c las).getD i 0⟩]
def WG_ (ord:Cs->Rl) (t:Tst) (w:List Bool) (fr:List Int):List Rn :=
 match Z9 t w fr with
 | none=>[]
 | some f=>(zNl ⟨t,f,fr⟩ t.locs.length 0 (List.replicate 8 0) fun _ _=>false).flatMap fun p=>Jw_ (zDx ord ⟨t,f,fr⟩) ⟨t,f,fr⟩ p.1 p.2
def j7 (ord:Cs->Rl) (t:Tst):List Rn :=
 (zB1 t (nO t) 0 (List.replicate (nO t) false)).flatMap fun w=>(W2_ t (nO t) 0 []).flatMap fun fr=>WG_ ord t w fr
def zYe (l:List Rn):List (List Int):=l.foldl (fun s r=>if r.st∈s then s else s++[r.st]) []
def O7 (ord:Cs->Rl) (t:Tst):List (List Int):=zYe (j7 ord t)
def zB3 (k:List Int) (i:Nat) (loc:Int):Nat->Int
 | 0=>gt k (104+loc.toNat)
 | n+1=>if gt k (i*26+10+n*2)=loc then gt k (i*26+10+n*2+1) else zB3 k i loc n
def ZN_ (x:Ins) (i:Nat) (k:List Int):Option (List Int) :=
 if x.op=9 then some (k.set (i*26+2+x.rd.toNat) (zB3 k i x.loc (gt k (i*26+1)).toNat))
 else if x.op=10 then some (((k.set (i*26+10+(gt k (i*26+1)).toNat*2) x.loc).set (i*26+10+(gt k (i*26+1)).toNat*2+1) (UT_ k i x.aR x.aN)).set (i*26+1) (gt k (i*26+1)+1))
 else if x.op=11\/x.op=12 then
  if 0<gt k (i*26+1) then none
  else some ((k.set (104+x.loc.toNat) (if x.op=12 then IntKind.u64.wrap (UT_ k i x.aR x.aN+gt k (104+x.loc.toNat)) else UT_ k i x.aR x.aN)).set (i*26+2+x.rd.toNat) (gt k (104+x.loc.toNat)))
 else none
def H9 (l:List Ins) (i:Nat) (k:List Int):Option (List Int) :=
 match l[(gt k (i*26)).toNat]? with
 | none=>none
 | some x=>(ZN_ x i k).map fun q=>locT l i (l.length+1) (W6 q i)
theorem Ub_ {x:Ins} {i:Nat} {k q:List Int} (h:ZN_ x i k=some q):q.length=k.length:=by
 unfold ZN_ at h
 split at h
 .cases h;exact length_set
 split at h
 .cases h;simp
 split at h
 .split at h
  .cases h
  cases h;simp
 cases h
theorem zB4 {x:Ins} {i:Nat} {k q:List Int} (hi:i<4) (hr0:0<=x.rd) (hl:G4 x.op=true->x.loc<8) (h:ZN_ x i k=some q):gt q (i*26)=gt k (i*26):=by
 unfold ZN_ at h
 split at h
 .cases h;exact D1 (by omega)
 split at h
 .cases h;rw [D1 (by omega),D1 (by omega),D1 (by omega)]
 split at h
 .rename_i h4
  have:=hl (by rcases h4 with h4|h4<;>simp [G4,rdB,wrB,h4])
  split at h
  .cases h
  cases h;rw [D1 (by omega),D1 (by omega)]
 cases h
def gM (k:List Int) (i:Nat):Nat->Int:=fun r=>gt k (i*26+2+r)
def fM (k:List Int):Nat->Int:=fun x=>gt k (104+x)
def gI (k:List Int) (n i:Nat):List (Nat->Int):=(List.range n).map fun q=>if q<i then gM k q else fun _=>0
def gA (k:List Int) (n:Nat):List (Nat->Int):=(List.range n).map (gM k)
theorem zT2 (k:List Int) (n i:Nat):(gI k n i).length=n:=by simp [gI]
theorem zT3 (k:List Int) (n:Nat):(gA k n).length=n:=by simp [gA]
theorem zgg (k:List Int) (n:Nat):gI k n n=gA k n:=map_congr_left fun q hq=>if_pos (List.mem_range.1 hq)
theorem zKd (k:List Int) (n:Nat):E1 (gI k n 0)=List.replicate n (.agg (List.replicate 8 (uV 0))):=by
 apply List.ext_getElem?
 intro q
 simp only [E1,gI,map_map,List.getElem?_map,List.getElem?_range,List.getElem?_replicate]
 by_cases h:q<n
 .simp [h]
  rfl
 simp [h]
theorem zgh {k:List Int} {n i:Nat} (hi:i<n):(E1 (gI k n i)).set i (.agg (J0 (gM k i)))=E1 (gI k n (i+1)):=by
 apply List.ext_getElem?
 intro q
 rw [List.getElem?_set,YC_,zT2]
 by_cases h:i=q
 .subst h
  rw [if_pos rfl,if_pos hi]
  simp [E1,gI,hi]
 rw [if_neg h]
 simp only [E1,gI,map_map,List.getElem?_map,List.getElem?_range]
 by_cases hq:q<n
 .simp [hq]
  by_cases h1:q<i
  .rw [if_pos h1,if_pos (by omega)]
  rw [if_neg h1,if_neg (by omega)]
 simp [hq]
theorem Q7_ {k:List Int} {p:Nat} (hp:p+8<=k.length) (hd:∀ r,r<8->tkd (p+r)=false):((mV k).drop p).take 8=J0 fun r=>gt k (p+r):=by
 have hm:=Q3_ k
 apply List.ext_getElem?
 intro q
 by_cases h:q<8
 .rw [List.getElem?_take_of_lt h,List.getElem?_drop,zAx (by omega),WD_ (hd q h)]
  rcases lt8 h with rfl|rfl|rfl|rfl|rfl|rfl|rfl|rfl<;>rfl
 rw [List.getElem?_eq_none (by rw [length_take,length_drop];omega),List.getElem?_eq_none (by rw [zJw];omega)]
theorem zYf {k:List Int} (hk:k.length=112) {i:Nat} (hi:i<4):((mV k).drop (i*26+2)).take 8=J0 (gM k i):=Q7_ (by omega) fun r hr=>zAv hi hr
theorem zYg {k:List Int} (hk:k.length=112):((mV k).drop 104).take 8=J0 (fM k):=Q7_ (by omega) fun r hr=>zAw hr
def WH_ (t:Tst) (k:List Int):List Int:=T4 t (gA k t.ths.length) (fM k)
def zNn (x:List Int) (l:List (List Int)):List (List Int):=if x∈l then l else l++[x]
theorem zG2 {x:List Int} {l:List (List Int)} (h:l.Nodup):(zNn x l).Nodup:=by
 unfold zNn;split
 .exact h
 rename_i hx
 exact List.nodup_append.2 ⟨h,by simp,by intro a ha b hb;simp at hb;subst hb;exact fun e=>hx (e▸ha)⟩
theorem XF_ {x y:List Int} {l:List (List Int)}:y∈zNn x l↔y=x\/y∈l:=by
 unfold zNn;split
 .rename_i h;exact ⟨.inr,fun h'=>h'.elim (fun e=>e▸h) id⟩
 simp [or_comm]
theorem X2 (k:List Int):∀ v∈stK k,∃ x,v=.val x:=by
 intro v hv
 cases k with
 | nil=>cases hv
 | cons n r =>
  rw [stK] at hv
  cases hv with
  | head=>exact ⟨_,rfl⟩
  | tail _ h=>obtain ⟨m,_,rfl⟩:=List.mem_map.1 h;exact ⟨_,rfl⟩
def lth (t:Tst) (i:Nat):List Ins:=t.ths.getD i []
structure TTOk (t:Tst):Prop where
 ths:t.ths.length<=4
 locs:t.locs.length<=8
 thr:∀ (i:Nat) (l:List Ins),t.ths[i]?=some l->zK7 l
structure MOk (t:Tst) (k:List Int):Prop where
 len:k.length=112
 th:∀ i,i<4->∃ p w:Nat,gt k (i*26)=(p:Nat)/\gt k (i*26+1)=(w:Nat)/\w<=p/\p<=(lth t i).length
 loc:∀ i,i<4->∀ s,s<8->0<=gt k (i*26+10+s*2)/\gt k (i*26+10+s*2)<8
theorem VZ_ {t:Tst} {i:Nat} {l:List Ins} (h:t.ths[i]?=some l):lth t i=l:=by simp [lth,List.getD,h]
theorem MOk.of {t : Tst} {k k' : List Int} (h : MOk t k) (i : Nat) (hl : k'.length = 112) (ho : ∀ j, j < 4 → j ≠ i → ∀ c, c < 26 → gt k' (j * 26 + c) = gt k (j * 26 + c))
    (ht:∃ p w:Nat,gt k' (i*26)=(p:Nat)/\gt k' (i*26+1)=(w:Nat)/\w<=p/\p<=(lth t i).length) (hs:∀ s,s<8->0<=gt k' (i*26+10+s*2)/\gt k' (i*26+10+s*2)<8):MOk t k':=by
  refine ⟨hl,fun j hj=>?_,fun j hj s hs'=>?_⟩
  . by_cases hji:j=i
    . subst hji;exact ht
    have h0:=ho j hj hji 0 (by omega)
    have h1:=ho j hj hji 1 (by omega)
    rw [Nat.add_zero] at h0
    rw [h0,h1];exact h.th j hj
  by_cases hji:j=i
  . subst hji;exact hs s hs'
  have h0:=ho j hj hji (10+s*2) (by omega)
  rw [<-Nat.add_assoc] at h0
  rw [h0];exact h.loc j hj s hs'
theorem a8 {l : List Ins} (hl : zK7 l) {i : Nat} (hi : i < 4) : ∀ (n : Nat) {k : List Int} {p : Nat}, k.length = 112 → gt k (i * 26) = (p : Nat) → p ≤ l.length →
    ∃ p':Nat,gt (locT l i n k) (i*26)=(p':Nat)/\p<=p'/\p'<=l.length/\∀ q,¬ zGw i q->gt (locT l i n k) q=gt k q
  | 0,k,p,_,hp,hpl=>⟨p,hp,Nat.le_refl _,hpl,fun _ _=>rfl⟩
  | n+1,k,p,hk,hp,hpl=>by
    unfold locT
    rw [hp,Int.toNat_natCast]
    cases hx:l[p]? with
    | none=>exact ⟨p,hp,Nat.le_refl _,hpl,fun _ _=>rfl⟩
    | some x =>
      dsimp only
      have hok:=hl.2 p x hx
      by_cases hs:Zp_ x i k=true
      . rw [if_pos hs];exact ⟨p,hp,Nat.le_refl _,hpl,fun _ _=>rfl⟩
      rw [if_neg hs]
      obtain ⟨p1,_,h2,h3,h4⟩:=zAy hk hi hp hok
      obtain ⟨p',e1,e2,e3,e4⟩:=a8 hl hi n (k:=W6 (Y3 x i k) i) (p:=p1+1) (by rw [w3,Zq_,hk]) h4 (by omega)
      refine ⟨p',e1,by omega,e3,fun q hq=>?_⟩
      rw [e4 q hq,I9 (fun e=>hq (.inl e)),YE_ hok.rd0 hok.rd8 hq]
theorem XG_ {i j c:Nat} (hj:j≠i) (hc:c<26):¬ zGw i (j*26+c):=by unfold zGw;omega
theorem MOk.locT {t:Tst} {k:List Int} (h:MOk t k) {i:Nat} (hi:i<4) {l:List Ins} (hx:t.ths[i]?=some l) (hl:zK7 l) (n:Nat):MOk t (locT l i n k):=by
 obtain ⟨p,w,h1,h2,h3,h4⟩:=h.th i hi
 rw [VZ_ hx] at h4
 obtain ⟨p',e1,e2,e3,e4⟩:=a8 hl hi n h.len h1 h4
 refine h.of i ((zDs l i n k).trans h.len) (fun j hj hji c hc=>e4 _ (XG_ hji hc)) ⟨p',w,e1,?_,by omega,by rw [VZ_ hx];exact e3⟩ fun s hs=>?_
 .rw [e4 _ (by unfold zGw;omega),h2]
 rw [e4 _ (by unfold zGw;omega)];exact h.loc i hi s hs
def j8 (l:List Ins) (p:Nat):Nat:=((l.drop p).filter fun x=>G4 x.op).length
theorem YG_ (l:List Ins) {p q:Nat} (h:p<=q):j8 l q<=j8 l p:=by
 obtain ⟨d,rfl⟩:∃ d,q=p+d:=⟨q-p,by omega⟩
 unfold j8
 rw [<-drop_drop]
 exact ((drop_sublist d (l.drop p)).filter _).length_le
theorem zG3 {l:List Ins} {p:Nat} {x:Ins} (h:l[p]?=some x) (hm:G4 x.op=true):j8 l (p+1)+1=j8 l p:=by
 unfold j8
 rw [N7 h,filter_cons,if_pos hm,length_cons]
def muI (t:Tst) (k:List Int) (i:Nat):Nat:=2*j8 (lth t i) (gt k (i*26)).toNat+(gt k (i*26+1)).toNat
def muT (t:Tst) (k:List Int):Nat:=muI t k 0+muI t k 1+muI t k 2+muI t k 3
theorem zT4 {t:Tst} {k k':List Int} {i:Nat} (hi:i<4) (ho:∀ j,j<4->j≠i->∀ c,c<26->gt k' (j*26+c)=gt k (j*26+c)) (h:muI t k' i<muI t k i):muT t k'<muT t k:=by
 have e:∀ j,j<4->j≠i->muI t k' j=muI t k j:=fun j hj hji=>by
  have h0:=ho j hj hji 0 (by omega)
  have h1:=ho j hj hji 1 (by omega)
  rw [Nat.add_zero] at h0
  simp only [muI,h0,h1]
 unfold muT
 rcases lt4 hi with rfl|rfl|rfl|rfl
 .rw [e 1 (by omega) (by omega),e 2 (by omega) (by omega),e 3 (by omega) (by omega)];omega
 .rw [e 0 (by omega) (by omega),e 2 (by omega) (by omega),e 3 (by omega) (by omega)];omega
 .rw [e 0 (by omega) (by omega),e 1 (by omega) (by omega),e 3 (by omega) (by omega)];omega
 rw [e 0 (by omega) (by omega),e 1 (by omega) (by omega),e 2 (by omega) (by omega)];omega
theorem XH_ {x:Ins} {i:Nat} {k q:List Int} (h:ZN_ x i k=some q):G4 x.op=true:=by
 unfold ZN_ at h
 split at h
 .rename_i e;simp [G4,rdB,wrB,e]
 split at h
 .rename_i e;simp [G4,rdB,wrB,e]
 split at h
 .rename_i e;rcases e with e|e<;>simp [G4,rdB,wrB,e]
 cases h
theorem Q8_ {x : Ins} {i : Nat} {k q : List Int} {w : Nat} (hk : k.length = 112) (hi : i < 4) (hr0 : 0 ≤ x.rd) (hr8 : x.rd < 8) (hlo : 0 ≤ x.loc ∧ x.loc < 8) (hw : gt k (i * 26 + 1) = (w : Nat)) (hw8 : w < 8) (h : ZN_ x i k = some q) :
    (∀ j,j<4->j≠i->∀ c,c<26->gt q (j*26+c)=gt k (j*26+c))/\(∃ w':Nat,gt q (i*26+1)=(w':Nat)/\w'<=w+1)/\∀ s,s<8->gt q (i*26+10+s*2)=gt k (i*26+10+s*2)\/gt q (i*26+10+s*2)=x.loc:=by
  unfold ZN_ at h
  split at h
  . cases h
    exact ⟨fun j hj hji c hc=>D1 (by omega),⟨w,by rw [D1 (by omega),hw],by omega⟩,fun s hs=>.inl (D1 (by omega))⟩
  split at h
  . cases h
    rw [hw,Int.toNat_natCast]
    refine ⟨fun j hj hji c hc=>by rw [D1 (by omega),D1 (by omega),D1 (by omega)],⟨w+1,by rw [L6 (by simp;omega)];rfl,by omega⟩,fun s hs=>?_⟩
    rw [D1 (by omega),D1 (by omega)]
    by_cases e:w=s
    . subst e;rw [L6 (by omega)];exact .inr rfl
    rw [D1 (by omega)];exact .inl rfl
  split at h
  . split at h
    . cases h
    cases h
    exact ⟨fun j hj hji c hc=>by rw [D1 (by omega),D1 (by omega)],⟨w,by rw [D1 (by omega),D1 (by omega),hw],by omega⟩,fun s hs=>.inl (by rw [D1 (by omega),D1 (by omega)])⟩
  cases h
theorem V0 {t:Tst} (ht:TTOk t) {k q:List Int} (h:MOk t k) {i:Nat} {l:List Ins} (hx:t.ths[i]?=some l) (hq:H9 l i k=some q):MOk t q/\muT t q<muT t k:=by
 have hi:i<4:=by have:=(List.getElem?_eq_some_iff.1 hx).1;have:=ht.ths;omega
 have hl:=ht.thr i l hx
 obtain ⟨p,w,h1,h2,h3,h4⟩:=h.th i hi
 rw [VZ_ hx] at h4
 unfold H9 at hq
 rw [h1,Int.toNat_natCast] at hq
 cases hg:l[p]? with
 | none=>rw [hg] at hq;cases hq
 | some x =>
  rw [hg] at hq
  dsimp only at hq
  cases ho:ZN_ x i k with
  | none=>rw [ho] at hq;cases hq
  | some q1 =>
   rw [ho] at hq
   cases hq
   have hok:=hl.2 p x hg
   have hpl:=(List.getElem?_eq_some_iff.1 hg).1
   have hm:=XH_ ho
   have hlo:=hok.loc hm
   have hl8:=hl.1
   obtain ⟨a1,⟨w',a2,a3⟩,a4⟩:=Q8_ h.len hi hok.rd0 hok.rd8 hlo h2 (by omega) ho
   have hq1:q1.length=112:=(Ub_ ho).trans h.len
   have hp1:gt q1 (i*26)=(p:Nat):=(zB4 hi hok.rd0 (fun hh=>(hok.loc hh).2) ho).trans h1
   have hip:gt (W6 q1 i) (i*26)=((p+1:Nat):Int):=by unfold W6;rw [L6 (by omega),hp1];rfl
   have h2k:(W6 q1 i).length=112:=(w3 q1 i).trans hq1
   have hM:MOk t (W6 q1 i):=by
    refine h.of i h2k (fun j hj hji c hc=>?_) ⟨p+1,w',hip,?_,by omega,by rw [VZ_ hx];omega⟩ fun s hs=>?_
    .rw [I9 (by omega)];exact a1 j hj hji c hc
    .rw [I9 (by omega)];exact a2
    rw [I9 (by omega)]
    rcases a4 s hs with e|e
    .rw [e];exact h.loc i hi s hs
    rw [e];exact hlo
   refine ⟨hM.locT hi hx hl _,zT4 hi (fun j hj hji c hc=>?_) ?_⟩
   .obtain ⟨_,_,_,_,e4⟩:=a8 hl hi (l.length+1) h2k hip hpl
    rw [e4 _ (XG_ hji hc),I9 (by omega)];exact a1 j hj hji c hc
   obtain ⟨p',e1,e2,e3,e4⟩:=a8 hl hi (l.length+1) h2k hip hpl
   have hwl:gt (locT l i (l.length+1) (W6 q1 i)) (i*26+1)=(w':Nat):=by rw [e4 _ (by unfold zGw;omega),I9 (by omega),a2]
   have m1:=zG3 hg hm
   have m2:=YG_ l e2
   simp only [muI,VZ_ hx,e1,hwl,h1,h2,Int.toNat_natCast]
   omega
def T0 (t:Tst) (k:List Int) (i:Nat):List Int:=locT (lth t i) i ((lth t i).length+1) (I4 k i ((gt k (i*26+1)).toNat-1))
theorem Va_ {k:List Int} (hk:k.length=112) {i:Nat} (hi:i<4) (w:Nat):(I4 k i w).length=112:=by
 unfold I4 U9
 rw [length_set,length_set,length_set,v7 (by unfold I8;rw [length_set,hk]) hi]
theorem V3 {k : List Int} (hk : k.length = 112) {i : Nat} (hi : i < 4) {w : Nat} (hw8 : w < 8) (hlo : ∀ s, s < 8 → 0 ≤ gt k (i * 26 + 10 + s * 2) ∧ gt k (i * 26 + 10 + s * 2) < 8) :
    (∀ j,j<4->j≠i->∀ c,c<26->gt (I4 k i w) (j*26+c)=gt k (j*26+c))/\gt (I4 k i w) (i*26)=gt k (i*26)/\gt (I4 k i w) (i*26+1)=(w:Nat) ∧
    ∀ s,s<8->0<=gt (I4 k i w) (i*26+10+s*2)/\gt (I4 k i w) (i*26+10+s*2)<8:=by
  have h1:(I8 k i).length=112:=by unfold I8;rw [length_set,hk]
  have h2:(Z8 (I8 k i) i).length=112:=v7 h1 hi
  have hd:∀ q,q<104->gt (I8 k i) q=gt k q:=fun q hq=>by unfold I8;exact D1 (by omega)
  refine ⟨fun j hj hji c hc=>?_,?_,?_,fun s hs=>?_⟩
  . unfold I4 U9
    rw [D1 (by omega),D1 (by omega),D1 (by omega),v8 h1 hi,if_neg (by omega),hd _ (by omega)]
  . unfold I4 U9
    rw [D1 (by omega),D1 (by omega),D1 (by omega),v8 h1 hi,if_neg (by omega),hd _ (by omega)]
  . unfold I4 U9
    rw [D1 (by omega),D1 (by omega),L6 (by omega)]
  unfold I4
  rw [D1 (by omega)]
  by_cases e:w=s
  . subst e
    rw [L6 (by unfold U9;rw [length_set];omega)];omega
  rw [D1 (by omega)]
  unfold U9
  rw [D1 (by omega),v8 h1 hi]
  by_cases h7:s<7
  . rw [if_pos (by omega),hd _ (by omega),show i*26+10+s*2+2=i*26+10+(s+1)*2 by omega]
    exact hlo (s+1) (by omega)
  rw [if_neg (by omega),hd _ (by omega)]
  exact hlo s hs
theorem Zr_ {t:Tst} {k:List Int} (h:MOk t k) {i:Nat} (hi:i<4) (hw:0<gt k (i*26+1)) (hl8:(lth t i).length<=8):MOk t (I4 k i ((gt k (i*26+1)).toNat-1)):=by
 obtain ⟨p,w,h1,h2,h3,h4⟩:=h.th i hi
 rw [h2,Int.toNat_natCast]
 obtain ⟨a1,a2,a3,a4⟩:=V3 (w:=w-1) h.len hi (by omega) (h.loc i hi)
 exact h.of i (Va_ h.len hi _) a1 ⟨p,w-1,a2.trans h1,a3,by omega,h4⟩ a4
theorem V4 {t:Tst} (ht:TTOk t) {k:List Int} (h:MOk t k) {i:Nat} {l:List Ins} (hx:t.ths[i]?=some l) (hw:0<gt k (i*26+1)):MOk t (T0 t k i)/\muT t (T0 t k i)<muT t k:=by
 have hi:i<4:=by have:=(List.getElem?_eq_some_iff.1 hx).1;have:=ht.ths;omega
 have hl:=ht.thr i l hx
 have hlt:=VZ_ hx
 have hM:=Zr_ h hi hw (by rw [hlt];exact hl.1)
 obtain ⟨p,w,h1,h2,h3,h4⟩:=h.th i hi
 unfold T0
 rw [hlt]
 rw [hlt] at h4
 refine ⟨hM.locT hi hx hl _,?_⟩
 rw [h2,Int.toNat_natCast] at hM ⊢
 have hl8:=hl.1
 obtain ⟨a1,a2,a3,a4⟩:=V3 (w:=w-1) h.len hi (by omega) (h.loc i hi)
 obtain ⟨p',e1,e2,e3,e4⟩:=a8 hl hi (l.length+1) hM.len (a2.trans h1) h4
 refine zT4 hi (fun j hj hji c hc=>?_) ?_
 .rw [e4 _ (XG_ hji hc)];exact a1 j hj hji c hc
 have hwl:gt (locT l i (l.length+1) (I4 k i (w-1))) (i*26+1)=((w-1:Nat):Int):=by rw [e4 _ (by unfold zGw;omega),a3]
 have m2:=YG_ l e2
 simp only [muI,hlt,e1,hwl,h1,h2,Int.toNat_natCast]
 omega
abbrev Ex:=List (List Int) × List (List Int)
def WI_ (t:Tst) (k:List Int) (n:Nat):Bool:=(List.range n).all fun i=>(H9 (lth t i) i k).isNone&&decide (gt k (i*26+1)<=0)
def Yv_ (f:List Int->Ex->Ex) (t:Tst) (k:List Int) (i:Nat) (s:Ex):Ex:=match H9 (lth t i) i k with|some q=>f q s|none=>s
def zKe (f:List Int->Ex->Ex) (t:Tst) (k:List Int) (i:Nat) (s:Ex):Ex:=if 0<gt k (i*26+1) then f (T0 t k i) (Yv_ f t k i s) else Yv_ f t k i s
def W5 (f:List Int->Ex->Ex) (t:Tst) (k:List Int):Nat->Ex->Ex
 | 0,s=>s
 | n+1,s=>zKe f t k n (W5 f t k n s)
def F0 (t:Tst):Nat->List Int->Ex->Ex
 | 0,_,s=>s
 | n+1,k,s =>
  if k∈s.1 then s
  else
   let s2:=W5 (F0 t n) t k t.ths.length (s.1++[k],s.2)
   if WI_ t k t.ths.length=true then (s2.1,zNn (WH_ t k) s2.2) else s2
structure ExOk (s:Ex):Prop where
 seen:∀ q∈s.1,q.length=112
 ends:∀ q∈s.2,q.length=41
theorem zB5 {f:List Int->Ex->Ex} {t:Tst} (ht:TTOk t) {k:List Int} (hM:MOk t k) {i:Nat} (hi:i<t.ths.length) (hf:∀ q s,MOk t q->ExOk s->ExOk (f q s)) {s:Ex} (h:ExOk s):ExOk (Yv_ f t k i s):=by
 have hx:t.ths[i]?=some (lth t i):=by rw [lth,List.getD,List.getElem?_eq_getElem hi];rfl
 unfold Yv_
 split
 .rename_i q hq;exact hf _ _ (V0 ht hM hx hq).1 h
 exact h
theorem zYh {f:List Int->Ex->Ex} {t:Tst} (ht:TTOk t) {k:List Int} (hM:MOk t k) {i:Nat} (hi:i<t.ths.length) (hf:∀ q s,MOk t q->ExOk s->ExOk (f q s)) {s:Ex} (h:ExOk s):ExOk (zKe f t k i s):=by
 have hx:t.ths[i]?=some (lth t i):=by rw [lth,List.getD,List.getElem?_eq_getElem hi];rfl
 unfold zKe
 split
 .rename_i hw;exact hf _ _ (V4 ht hM hx hw).1 (zB5 ht hM hi hf h)
 exact zB5 ht hM hi hf h
theorem zB6 {f:List Int->Ex->Ex} {t:Tst} (ht:TTOk t) {k:List Int} (hM:MOk t k) (hf:∀ q s,MOk t q->ExOk s->ExOk (f q s)):∀ (n:Nat),n<=t.ths.length->∀ {s:Ex},ExOk s->ExOk (W5 f t k n s)
 | 0,_,_,h=>h
 | n+1,hn,_,h=>zYh ht hM (by omega) hf (zB6 ht hM hf n (by omega) h)
theorem zQ5 {t:Tst} (ht:TTOk t) (k:List Int):(WH_ t k).length=41:=Zn_ ht.ths ht.locs _ _
theorem w4 {t:Tst} (ht:TTOk t):∀ (n:Nat) (k:List Int) (s:Ex),MOk t k->ExOk s->ExOk (F0 t n k s)
 | 0,_,_,_,h=>h
 | n+1,k,s,hM,h=>by
  unfold F0
  split
  .exact h
  dsimp only
  have h1:ExOk (s.1++[k],s.2):=⟨fun q hq=>by rcases List.mem_append.1 hq with hq|hq;exact h.seen q hq;simp at hq;subst hq;exact hM.len,h.ends⟩
  have h2:=zB6 ht hM (fun q s hq hs=>w4 ht n q s hq hs) t.ths.length (Nat.le_refl _) h1
  split
  .exact ⟨h2.seen,fun q hq=>by rcases XF_.1 hq with rfl|hq;exact zQ5 ht k;exact h2.ends q hq⟩
  exact h2
theorem YH_ (t:Tst) (k:List Int) (n:Nat):WI_ t k (n+1)=(WI_ t k n&&((H9 (lth t n) n k).isNone&&decide (gt k (n*26+1)<=0))):=by
 unfold WI_;rw [range_succ,all_append];simp
def zYi:List Int:=List.replicate 112 0
def Zs_ (t:Tst):Nat->List Int
 | 0=>zYi
 | i+1=>(Zs_ t i).set (104+i) ((t.locs.getD i ⟨.empty,0⟩).v)
def N5 (t:Tst):Nat->List Int
 | 0=>Zs_ t t.locs.length
 | i+1=>locT (lth t i) i ((lth t i).length+1) (N5 t i)
def Yw_ (t:Tst):List Int:=N5 t t.ths.length
def I3 (t:Tst):List (List Int):=(F0 t (muT t (Yw_ t)+1) (Yw_ t) ([],[])).2
theorem r7 (t:Tst):∀ i,(Zs_ t i).length=112
 | 0=>length_replicate
 | i+1=>by rw [Zs_,length_set,r7 t i]
theorem P5 (t:Tst):∀ (i q:Nat),q<104->gt (Zs_ t i) q=0
 | 0,q,h=>by
  unfold Zs_ zYi gt
  rw [List.getD,List.getElem?_replicate]
  split<;>rfl
 | i+1,q,h=>by rw [Zs_,D1 (by omega),P5 t i q h]
theorem r8 {t:Tst} (ht:TTOk t):∀ i,i<=t.ths.length->MOk t (N5 t i)/\(∀ j,j<4->gt (N5 t i) (j*26+1)=0)/\∀ j,i<=j->j<4->gt (N5 t i) (j*26)=0
 | 0,_=>⟨⟨r7 t _,fun j hj=>⟨0,0,P5 t _ _ (by omega),P5 t _ _ (by omega),Nat.le_refl _,Nat.zero_le _⟩,fun j hj s hs=>by rw [N5,P5 t _ _ (by omega)];omega⟩,fun j hj=>P5 t _ _ (by omega),fun j _ hj=>P5 t _ _ (by omega)⟩
 | i+1,h=>by
  obtain ⟨h1,h2,h3⟩:=r8 ht i (by omega)
  have hi:i<4:=by have:=ht.ths;omega
  have hx:t.ths[i]?=some (lth t i):=by rw [lth,List.getD,List.getElem?_eq_getElem (by omega)];rfl
  have hl:=ht.thr i _ hx
  obtain ⟨p,w,e1,e2,e3,e4⟩:=h1.th i hi
  obtain ⟨p',a1,a2,a3,a4⟩:=a8 hl hi ((lth t i).length+1) h1.len e1 e4
  refine ⟨h1.locT hi hx hl _,fun j hj=>?_,fun j hj hj4=>?_⟩
  .rw [N5,a4 _ (by unfold zGw;omega)];exact h2 j hj
  rw [N5,a4 _ (by unfold zGw;omega)];exact h3 j (by omega) hj4
theorem r9 {t:Tst} (ht:TTOk t):MOk t (Yw_ t):=(r8 ht _ (Nat.le_refl _)).1
theorem zQ6 (x:List Int) (l:List (List Int)):(zNn x l).length<=l.length+1:=by unfold zNn;split<;>simp
section
variable {f:List Int->Ex->Ex} {t:Tst} {k:List Int}
theorem zDy {R:Ex->Ex->Prop} (ht:TTOk t) (hM:MOk t k) (hr:∀ s,R s s) (htr:∀ a b c,R a b->R b c->R a c) (hf:∀ q s,MOk t q->muT t q<muT t k->R s (f q s)):∀ (n:Nat),n<=t.ths.length->∀ s,R s (W5 f t k n s)
 | 0,_,s=>hr s
 | n+1,hn,s=>by
  have hx:t.ths[n]?=some (lth t n):=by rw [lth,List.getD,List.getElem?_eq_getElem (by omega)];rfl
  have h1:=zDy ht hM hr htr hf n (by omega) s
  have h2:R (W5 f t k n s) (Yv_ f t k n (W5 f t k n s)):=by
   unfold Yv_
   split
   .rename_i q hq;exact hf _ _ (V0 ht hM hx hq).1 (V0 ht hM hx hq).2
   exact hr _
  rw [W5,zKe]
  split
  .rename_i hw;exact htr _ _ _ (htr _ _ _ h1 h2) (hf _ _ (V4 ht hM hx hw).1 (V4 ht hM hx hw).2)
  exact htr _ _ _ h1 h2
theorem Vb_ {C:Nat} (ht:TTOk t) (hM:MOk t k) (hf:∀ q s,MOk t q->muT t q<muT t k->(f q s).2.length<=s.2.length+C):∀ (n:Nat),n<=t.ths.length->∀ s:Ex,(W5 f t k n s).2.length<=s.2.length+n*(2*C)
 | 0,_,s=>by simp [W5]
 | n+1,hn,s=>by
  have hx:t.ths[n]?=some (lth t n):=by rw [lth,List.getD,List.getElem?_eq_getElem (by omega)];rfl
  have h1:=Vb_ ht hM hf n (by omega) s
  have h2:(Yv_ f t k n (W5 f t k n s)).2.length<=(W5 f t k n s).2.length+C:=by
   unfold Yv_
   split
   .rename_i q hq;exact hf _ _ (V0 ht hM hx hq).1 (V0 ht hM hx hq).2
   omega
  rw [Nat.add_mul,Nat.one_mul,W5,zKe]
  split
  .rename_i hw
   have:=hf (T0 t k n) (Yv_ f t k n (W5 f t k n s)) (V4 ht hM hx hw).1 (V4 ht hM hx hw).2
   omega
  omega
end
theorem WJ_ {t:Tst} (ht:TTOk t):∀ (n:Nat) (k:List Int) (s:Ex),MOk t k->(F0 t n k s).2.length<=s.2.length+(2*t.ths.length+1) ^ muT t k
 | 0,k,s,hM=>by simp [F0]
 | n+1,k,s,hM=>by
  have hC:∀ q s,MOk t q->muT t q<muT t k->(F0 t n q s).2.length<=s.2.length+(if muT t k=0 then 0 else (2*t.ths.length+1) ^ (muT t k-1)):=fun q s hq hlt=>by
   rw [if_neg (by omega)]
   have:=WJ_ ht n q s hq
   have h2:(2*t.ths.length+1) ^ muT t q<=(2*t.ths.length+1) ^ (muT t k-1):=Nat.pow_le_pow_right (by omega) (by omega)
   omega
  have h:=Vb_ ht hM hC t.ths.length (Nat.le_refl _) (s.1++[k],s.2)
  have hp:t.ths.length*(2*(if muT t k=0 then 0 else (2*t.ths.length+1) ^ (muT t k-1)))+1<=(2*t.ths.length+1) ^ muT t k:=by
   by_cases h0:muT t k=0
   .rw [if_pos h0,h0];simp
   rw [if_neg h0]
   obtain ⟨m,hm⟩:∃ m,muT t k=m+1:=⟨muT t k-1,by omega⟩
   rw [hm,Nat.add_sub_cancel,Nat.pow_succ]
   generalize hb:(2*t.ths.length+1) ^ m=b
   have:0<b:=by rw [<-hb];exact Nat.pow_pos (by omega)
   have e:b*(2*t.ths.length+1)=t.ths.length*(2*b)+b:=by
    rw [Nat.mul_comm b,Nat.add_mul,Nat.one_mul,<-Nat.mul_assoc,Nat.mul_comm t.ths.length 2]
   omega
  unfold F0
  split
  .omega
  dsimp only at h ⊢
  split
  .have:=zQ6 (WH_ t k) (W5 (F0 t n) t k t.ths.length (s.1++[k],s.2)).2
   dsimp only
   omega
  omega
theorem j9 {t:Tst} (ht:TTOk t):∀ (n:Nat) (k:List Int) (s:Ex),MOk t k->s.2.Nodup->(F0 t n k s).2.Nodup
 | 0,k,s,hM,h=>h
 | n+1,k,s,hM,h=>by
  have h1:=zDy (f:=F0 t n) (R:=fun a b=>a.2.Nodup->b.2.Nodup) ht hM (fun _ h=>h) (fun _ _ _ h h' x=>h' (h x)) (fun q s hq _ hs=>j9 ht n q s hq hs) t.ths.length (Nat.le_refl _) (s.1++[k],s.2) h
  unfold F0
  split
  .exact h
  dsimp only
  split
  .exact zG2 h1
  exact h1
def Q9_ (loc:Int):Ins:={ op:=10,rd:=0,loc:=loc,aR:=false,aN:=1,bR:=false,bN:=0,acq:=false,rel:=false,dep:=0,pred:=0,succ:=0,skip:=0 }
def JA_ (loc:Int):Ins:={ op:=9,rd:=0,loc:=loc,aR:=false,aN:=0,bR:=false,bN:=0,acq:=false,rel:=false,dep:=0,pred:=0,succ:=0,skip:=0 }
def zgi:Ins:={ op:=15,rd:=0,loc:=0,aR:=false,aN:=0,bR:=false,bN:=0,acq:=false,rel:=false,dep:=0,pred:=2,succ:=1,skip:=0 }
def zT5 (f:Bool) (i:Int):List Ins:=if f then [Q9_ i,zgi,JA_ (1-i)] else [Q9_ i,JA_ (1-i)]
def nmX:ByteArray:=⟨#[120]⟩
def nmY:ByteArray:=⟨#[121]⟩
def zNo:List Ini:=[⟨nmX,0⟩,⟨nmY,0⟩]
def W3_ (f:Bool):Tst:={ locs:=zNo,ths:=[zT5 f 0,zT5 f 1],asks:=[] }
def zQ7 (f:Bool) (i:Nat):List (List Ins):=(W3_ f).ths.take i
theorem Uc_ {f:Bool} {i:Nat} (h:i<=2):(zQ7 f i).length=i:=by unfold zQ7 W3_;simp;omega
theorem JB_ {f:Bool} {i:Nat} (h:i<2):zQ7 f (i+1)=zQ7 f i++[zT5 f (i:Nat)]:=by
 have:i=0\/i=1:=by omega
 rcases this with rfl|rfl<;>rfl
theorem zQ8 (f:Bool):zQ7 f 2=(W3_ f).ths:=rfl
theorem zKf (f:Bool):(W3_ f).cs=[.ro 2 (Z1 zNo),.ro 1 (O3 (W3_ f).ths),.ro 3 []]:=rfl
theorem YI_ (f:Bool):TTOk (W3_ f):=by
 refine ⟨by cases f<;>decide,by cases f<;>decide,fun i l h=>?_⟩
 have hi:i<2:=(List.getElem?_eq_some_iff.1 h).1
 have hc:i=0\/i=1:=by omega
 have ok:∀ (len p:Nat) (x:Ins),x=Q9_ 0\/x=Q9_ 1\/x=zgi\/x=JA_ 0\/x=JA_ 1->p+1<=len->TOk len p x:=by
  intro len p x hx hp
  rcases hx with rfl|rfl|rfl|rfl|rfl<;>exact ⟨by decide,by decide,by decide,by decide,by decide,by decide,by decide,by decide,by decide,by simp [Q9_,JA_,zgi];omega⟩
 have hl:l=zT5 f (i:Nat):=by rcases hc with rfl|rfl<;>exact (Option.some.inj h).symm
 subst hl
 refine ⟨by cases f<;>simp [zT5],fun p x hx=>?_⟩
 have hp:=(List.getElem?_eq_some_iff.1 hx).1
 refine ok _ p x ?_ hp
 have hm:=List.mem_of_getElem? hx
 rcases hc with rfl|rfl<;>cases f<;>simp only [zT5,Bool.false_eq_true,if_false,if_true,mem_cons,not_mem_nil,or_false] at hm
 .rcases hm with h|h<;>subst h<;>simp
 .rcases hm with h|h|h<;>subst h<;>simp
 .rcases hm with h|h<;>subst h<;>simp
 rcases hm with h|h|h<;>subst h<;>simp
theorem zYj:I3 (W3_ false)=[4::([0,1,1,1]++List.replicate 36 0),4::([0,0,1,1]++List.replicate 36 0),4::([1,1,1,1]++List.replicate 36 0),4::([1,0,1,1]++List.replicate 36 0)]:=by kernel_rfl
theorem zYk:I3 (W3_ true)=[4::([0,1,1,1]++List.replicate 36 0),4::([1,1,1,1]++List.replicate 36 0),4::([1,0,1,1]++List.replicate 36 0)]:=by kernel_rfl
def st4:List Int:=4::([0,0,1,1]++List.replicate 36 0)
def Wt_ (l:List Ins) (b:Nat):Nat:=((l.take b).filter fun x=>G4 x.op).length
def m9:List (List Ins)->Nat->Nat
 | _,0=>0
 | ths,i+1=>m9 ths i+Wt_ (ths.getD i []) (ths.getD i []).length
def c9 (t:Tst):Nat:=m9 t.ths t.ths.length
theorem JC_ {l:List Ins} {b:Nat} {x:Ins} (h:l[b]?=some x):Wt_ l (b+1)=Wt_ l b+if G4 x.op=true then 1 else 0:=by
 unfold Wt_
 rw [N6 h,filter_append,length_append,filter_cons]
 split<;>simp
theorem zKg (l:List Ins) (b:Nat):Wt_ l b<=b:=by
 unfold Wt_
 have:=length_filter_le (fun x:Ins=>G4 x.op) (l.take b)
 rw [length_take] at this;omega
theorem zQ9 (l:List Ins):Wt_ l l.length=j8 l 0:=by unfold Wt_ j8;rw [take_length,drop_zero]
theorem zDz {t:Tst} (h:∀ x∈t.ths,x.length<=8):∀ i,i<=t.ths.length->m9 t.ths i<=8*i
 | 0,_=>by simp [m9]
 | i+1,hi=>by
  have h1:=zDz h i (by omega)
  have h2:=zKg (t.ths.getD i []) (t.ths.getD i []).length
  have h3:(t.ths.getD i []).length<=8:=by
   rw [List.getD,List.getElem?_eq_getElem (by omega)]
   exact h _ (List.getElem_mem _)
  simp only [m9];omega
def Yf_ (t:Tst) (n:Int):Int:=if I7 t≠0 then 0 else if n<(c9 t:Int) then 0 else 1
theorem WK_ {t:Tst} (h:I7 t=0) (hw:X5_ t):TTOk t:=by
 have hz:=Q7.1 h
 have hs:=O6 hz.1
 refine ⟨hs.2.1,hs.2.2.1,fun i l hl=>⟨hs.2.2.2.2.1 l (List.mem_of_getElem? hl),fun p x hx=>?_⟩⟩
 have h4:=(Z7_ _ _).1 hz.2.2.1 i l hl
 have h5:=(Z7_ _ _).1 h4 p x hx
 obtain ⟨e1,e2,e3,_,e5,_,e7⟩:=ZC_.1 h5
 obtain ⟨⟨w1,_⟩,w2,_⟩:=hw l (List.mem_of_getElem? hl) x (List.mem_of_getElem? hx)
 simp only [zP3,Bool.or_eq_false_iff,decide_eq_false_iff_not] at e1
 simp only [zD0,Bool.or_eq_false_iff,decide_eq_false_iff_not] at e2
 simp only [zP5,Bool.or_eq_false_iff,decide_eq_false_iff_not] at e7
 obtain ⟨a1,a2,a3,a4,a5,a6⟩:=e2
 refine ⟨by omega,by omega,by omega,by omega,fun hr=>⟨w1,?_⟩,fun hr=>⟨w2,?_⟩,fun ho=>?_,fun hm=>?_,by omega,by omega⟩
 .simp only [Yq_,hr,Bool.not_true,Bool.false_or,Bool.not_eq_false',decide_eq_true_eq] at a3;exact a3
 .simp only [Yq_,hr,Bool.not_true,Bool.false_or,Bool.not_eq_false',decide_eq_true_eq] at a4;exact a4
 .simp only [zFq,ho,decide_true,Bool.true_and,Bool.or_eq_false_iff,decide_eq_false_iff_not] at e5
  omega
 simp only [zAi,hm,Bool.true_and,Bool.or_eq_false_iff,decide_eq_false_iff_not] at e3
 have:=hs.2.2.1
 omega
theorem Zt_ {t:Tst} (ht:TTOk t) (i:Nat) (hi:i<4):muI t (Yw_ t) i<=2*Wt_ (lth t i) (lth t i).length:=by
 obtain ⟨h1,h2,_⟩:=r8 ht _ (Nat.le_refl _)
 unfold muI Yw_
 rw [h2 i hi,zQ9]
 have:=YG_ (lth t i) (Nat.zero_le (gt (N5 t t.ths.length) (i*26)).toNat)
 simp only [Int.toNat_zero,Nat.add_zero]
 omega
theorem zKh {t:Tst} {i:Nat} (h:t.ths.length<=i):lth t i=[]:=by unfold lth;rw [List.getD,List.getElem?_eq_none h];rfl
theorem zKi {t:Tst} (ht:TTOk t):muT t (Yw_ t)<=2*c9 t:=by
 have h0:=Zt_ ht 0 (by omega)
 have h1:=Zt_ ht 1 (by omega)
 have h2:=Zt_ ht 2 (by omega)
 have h3:=Zt_ ht 3 (by omega)
 have hz:∀ i,t.ths.length<=i->Wt_ (lth t i) (lth t i).length=0:=fun i h=>by rw [zKh h];rfl
 have ht4:=ht.ths
 unfold muT c9
 have e:∀ n,m9 t.ths (n+1)=m9 t.ths n+Wt_ (lth t n) (lth t n).length:=fun _=>rfl
 have e0:m9 t.ths 0=0:=rfl
 have hc:t.ths.length=0\/t.ths.length=1\/t.ths.length=2\/t.ths.length=3\/t.ths.length=4:=by omega
 rcases hc with h|h|h|h|h<;>rw [h]<;>simp only [e,e0]<;>(try have z0:=hz 0 (by omega))<;>(try have z1:=hz 1 (by omega))<;>(try have z2:=hz 2 (by omega))<;>(try have z3:=hz 3 (by omega))<;>omega
theorem zQa {t:Tst} (ht:TTOk t) (hm:c9 t<=6):(I3 t).length<=400000000000:=by
 have h:=WJ_ ht (muT t (Yw_ t)+1) (Yw_ t) ([],[]) (r9 ht)
 have h1:=zKi ht
 have h2:(2*t.ths.length+1) ^ muT t (Yw_ t)<=9 ^ 12:=Nat.le_trans (Nat.pow_le_pow_right (by omega) (show muT t (Yw_ t)<=12 by omega)) (Nat.pow_le_pow_left (by have:=ht.ths;omega) 12)
 have h3:(9:Nat) ^ 12<=400000000000:=by decide
 unfold I3
 simp only [length_nil,Nat.zero_add] at h
 omega
def StepT (t:Tst) (k q:List Int):Prop:=(∃ i,i<t.ths.length/\H9 (lth t i) i k=some q)\/∃ i,i<t.ths.length/\0<gt k (i*26+1)/\q=T0 t k i
inductive ReachT (t:Tst):List Int->List Int->Prop
 | refl (k:List Int):ReachT t k k
 | step {k q r:List Int}:StepT t k q->ReachT t q r->ReachT t k r
abbrev Yx_ (t:Tst) (k:List Int):Prop:=WI_ t k t.ths.length=true
theorem V5 {t:Tst} {i:Nat} (h:i<t.ths.length):t.ths[i]?=some (lth t i):=by rw [lth,List.getD,List.getElem?_eq_getElem h];rfl
theorem StepT.ok {t:Tst} (ht:TTOk t) {k q:List Int} (hM:MOk t k) (h:StepT t k q):MOk t q/\muT t q<muT t k:=by
 rcases h with ⟨i,hi,hq⟩|⟨i,hi,hw,rfl⟩
 .exact V0 ht hM (V5 hi) hq
 exact V4 ht hM (V5 hi) hw
theorem ReachT.ok {t:Tst} (ht:TTOk t) {k q:List Int} (h:ReachT t k q) (hM:MOk t k):MOk t q:=by
 induction h with
 | refl=>exact hM
 | step h1 _ ih=>exact ih (h1.ok ht hM).1
section
variable {f:List Int->Ex->Ex} {t:Tst} {k:List Int}
theorem Ud_ {J : Ex → Prop} {G : List Int → Ex → Prop} (hG : ∀ q s s', s.2 ⊆ s'.2 → G q s → G q s') (hf : ∀ q s, StepT t k q → J s → J (f q s) ∧ s.2 ⊆ (f q s).2 ∧ G q (f q s)) :
    ∀ n,n<=t.ths.length->∀ s,J s->J (W5 f t k n s)/\s.2 ⊆ (W5 f t k n s).2/\∀ i,i<n->(∀ q,H9 (lth t i) i k=some q->G q (W5 f t k n s))/\(0<gt k (i*26+1)->G (T0 t k i) (W5 f t k n s))
  | 0,_,s,h=>⟨h,fun _ h=>h,fun i hi=>absurd hi (Nat.not_lt_zero _)⟩
  | n+1,hn,s,h=>by
    obtain ⟨h1,h2,h3⟩:=Ud_ hG hf n (by omega) s h
    rw [W5]
    generalize W5 f t k n s=s1 at h1 h2 h3
    have hv:J (Yv_ f t k n s1)/\s1.2 ⊆ (Yv_ f t k n s1).2/\∀ q,H9 (lth t n) n k=some q->G q (Yv_ f t k n s1):=by
      unfold Yv_
      split
      . rename_i q hq
        obtain ⟨a,b,c⟩:=hf q s1 (.inl ⟨n,by omega,hq⟩) h1
        exact ⟨a,b,fun q' hq'=>by rw [hq] at hq';cases hq';exact c⟩
      rename_i hq
      exact ⟨h1,fun _ h=>h,fun q' hq'=>by rw [hq] at hq';cases hq'⟩
    unfold zKe
    generalize Yv_ f t k n s1=s2 at hv
    obtain ⟨v1,v2,v3⟩:=hv
    split
    . rename_i hw
      obtain ⟨a,b,c⟩:=hf (T0 t k n) s2 (.inr ⟨n,by omega,hw,rfl⟩) v1
      refine ⟨a,fun x hx=>b (v2 (h2 hx)),fun i hi=>?_⟩
      by_cases e:i=n
      . subst e;exact ⟨fun q hq=>hG _ _ _ b (v3 q hq),fun _=>c⟩
      obtain ⟨d1,d2⟩:=h3 i (by omega)
      exact ⟨fun q hq=>hG _ _ _ (fun x hx=>b (v2 hx)) (d1 q hq),fun hw=>hG _ _ _ (fun x hx=>b (v2 hx)) (d2 hw)⟩
    rename_i hw
    refine ⟨v1,fun x hx=>v2 (h2 hx),fun i hi=>?_⟩
    by_cases e:i=n
    . subst e;exact ⟨v3,fun h=>absurd h hw⟩
    obtain ⟨d1,d2⟩:=h3 i (by omega)
    exact ⟨fun q hq=>hG _ _ _ v2 (d1 q hq),fun hw=>hG _ _ _ v2 (d2 hw)⟩
end
theorem ZJ_ {t:Tst} (ht:TTOk t):∀ (n:Nat) (k:List Int) (s:Ex),∀ e∈(F0 t n k s).2,e∈s.2\/∃ q,ReachT t k q/\Yx_ t q/\e=WH_ t q
 | 0,k,s,e,he=>.inl he
 | n+1,k,s,e,he=>by
  have h1:=Ud_ (f:=F0 t n) (t:=t) (k:=k) (J:=fun b=>∀ e∈b.2,e∈s.2\/∃ q,ReachT t k q/\Yx_ t q/\e=WH_ t q) (G:=fun _ _=>True) (fun _ _ _ _ _=>trivial)
  unfold F0 at he
  split at he
  .exact .inl he
  dsimp only at he
  have hall:∀ e∈(W5 (F0 t n) t k t.ths.length (s.1++[k],s.2)).2,e∈s.2\/∃ q,ReachT t k q/\Yx_ t q/\e=WH_ t q:=by
   have:∀ m,m<=t.ths.length->∀ s1:Ex,(∀ e∈s1.2,e∈s.2\/∃ q,ReachT t k q/\Yx_ t q/\e=WH_ t q)->∀ e∈(W5 (F0 t n) t k m s1).2,e∈s.2\/∃ q,ReachT t k q/\Yx_ t q/\e=WH_ t q:=by
    intro m
    induction m with
    | zero=>intro _ s1 h;exact h
    | succ m ih =>
     intro hm s1 h
     have h2:=ih (by omega) s1 h
     have h3:∀ e∈(Yv_ (F0 t n) t k m (W5 (F0 t n) t k m s1)).2,e∈s.2\/∃ q,ReachT t k q/\Yx_ t q/\e=WH_ t q:=by
      unfold Yv_
      split
      .rename_i q hq
       intro e he
       rcases ZJ_ ht n _ _ e he with h|⟨r,hr,h4,h5⟩
       .exact h2 e h
       exact .inr ⟨r,.step (.inl ⟨m,by omega,hq⟩) hr,h4,h5⟩
      exact h2
     rw [W5,zKe]
     split
     .rename_i hw
      intro e he
      rcases ZJ_ ht n _ _ e he with h|⟨r,hr,h4,h5⟩
      .exact h3 e h
      exact .inr ⟨r,.step (.inr ⟨m,by omega,hw,rfl⟩) hr,h4,h5⟩
     exact h3
   exact this _ (Nat.le_refl _) _ fun e h=>.inl h
  split at he
  .rename_i ho
   rcases XF_.1 he with rfl|he
   .exact .inr ⟨k,.refl k,ho,rfl⟩
   exact hall e he
  exact hall e he
def DoneT (t:Tst) (q:List Int) (s:Ex):Prop:=∀ r,ReachT t q r->Yx_ t r->WH_ t r∈s.2
theorem DoneT.mono {t:Tst} {q:List Int} {s s':Ex} (h:s.2 ⊆ s'.2) (hd:DoneT t q s):DoneT t q s':=fun r hr ho=>h (hd r hr ho)
theorem Vc_ {t : Tst} (ht : TTOk t) : ∀ (n : Nat) (k : List Int) (s : Ex), MOk t k → muT t k < n → (∀ q ∈ s.1, muT t q ≤ muT t k → DoneT t q s) →
    (∀ q∈(F0 t n k s).1,q∈s.1\/(muT t q<=muT t k/\DoneT t q (F0 t n k s)))/\s.2 ⊆ (F0 t n k s).2/\DoneT t k (F0 t n k s)
  | 0,k,s,_,h,_=>absurd h (Nat.not_lt_zero _)
  | n+1,k,s,hM,hn,hs=>by
    unfold F0
    split
    . rename_i hk
      exact ⟨fun q hq=>.inl hq,fun _ h=>h,hs k hk (Nat.le_refl _)⟩
    rename_i hk
    dsimp only
    have hall:=Ud_ (f:=F0 t n) (t:=t) (k:=k) (J:=fun b=>s.2 ⊆ b.2/\∀ q∈b.1,q∈s.1\/q=k\/(muT t q<muT t k/\DoneT t q b)) (G:=DoneT t) (fun _ _ _ h hd=>hd.mono h)
      (fun q s1 hq hJ=>by
        obtain ⟨hq1,hq2⟩:=hq.ok ht hM
        obtain ⟨e1,e2,e3⟩:=Vc_ ht n q s1 hq1 (by omega) (fun p hp hle=>by
          rcases hJ.2 p hp with h|h|h
          . exact (hs p h (by omega)).mono hJ.1
          . subst h;omega
          exact h.2)
        refine ⟨⟨fun x hx=>e2 (hJ.1 hx),fun p hp=>?_⟩,e2,e3⟩
        rcases e1 p hp with h|⟨h,h'⟩
        . rcases hJ.2 p h with h|h|h
          . exact .inl h
          . exact .inr (.inl h)
          exact .inr (.inr ⟨h.1,h.2.mono e2⟩)
        exact .inr (.inr ⟨by omega,h'⟩)) t.ths.length (Nat.le_refl _) (s.1++[k],s.2) ⟨fun _ h=>h,fun q hq=>by
        rcases List.mem_append.1 hq with h|h
        . exact .inl h
        simp at h;exact .inr (.inl h)⟩
    generalize W5 (F0 t n) t k t.ths.length (s.1++[k],s.2)=s2 at hall
    obtain ⟨⟨a1,a2⟩,a3,a4⟩:=hall
    have key:∀ s':Ex,s2.1=s'.1->s2.2 ⊆ s'.2->(Yx_ t k->WH_ t k∈s'.2)->(∀ q∈s'.1,q∈s.1\/(muT t q<=muT t k/\DoneT t q s'))/\s.2 ⊆ s'.2/\DoneT t k s':=by
      intro s' h1 h2 h3
      have hdk:DoneT t k s':=fun r hr ho=>by
        cases hr with
        | refl=>exact h3 ho
        | step hq hr =>
          rcases hq with ⟨i,hi,hq⟩|⟨i,hi,hw,rfl⟩
          . exact h2 ((a4 i hi).1 _ hq r hr ho)
          exact h2 ((a4 i hi).2 hw r hr ho)
      refine ⟨fun q hq=>?_,fun x hx=>h2 (a1 hx),hdk⟩
      rw [<-h1] at hq
      rcases a2 q hq with h|h|h
      . exact .inl h
      . subst h;exact .inr ⟨Nat.le_refl _,hdk⟩
      exact .inr ⟨by omega,h.2.mono h2⟩
    split
    . exact key _ rfl (fun x hx=>XF_.2 (.inr hx)) fun _=>XF_.2 (.inl rfl)
    rename_i ho
    exact key _ rfl (fun _ h=>h) fun h=>absurd h ho
theorem zB7 {t:Tst} (ht:TTOk t) {e:List Int}:e∈I3 t↔∃ q,ReachT t (Yw_ t) q/\Yx_ t q/\e=WH_ t q:=by
 constructor
 .intro h
  rcases ZJ_ ht _ _ _ e h with h|h
  .cases h
  exact h
 rintro ⟨q,hr,ho,rfl⟩
 exact (Vc_ ht _ (Yw_ t) ([],[]) (r9 ht) (Nat.lt_succ_self _) fun q hq=>by cases hq).2.2 q hr ho
def upd {α:Type} (f:Nat->α) (i:Nat) (v:α):Nat->α:=fun j=>if j=i then v else f j
theorem B4 {α:Type} (f:Nat->α) (i:Nat) (v:α):upd f i v i=v:=if_pos rfl
theorem E2 {α:Type} {f:Nat->α} {i j:Nat} {v:α} (h:j≠i):upd f i v j=f j:=if_neg h
theorem zKj {α:Type} (f:Nat->α) (i:Nat) (v w:α):upd (upd f i v) i w=upd f i w:=by funext j;unfold upd;split<;>rfl
theorem zE0 {α:Type} {f:Nat->α} {i j:Nat} {v w:α} (h:i≠j):upd (upd f i v) j w=upd (upd f j w) i v:=by
 funext q;unfold upd;split
 .rename_i e;subst e;rw [if_neg (Ne.symm h)]
 rfl
structure Thr where
 pc:Nat
 rg:Nat->Int
 bf:List (Nat × Int)
structure Sys where
 th:Nat->Thr
 mm:Nat->Int
def zc3:Thr:=⟨0,fun _=>0,[]⟩
def Yy_:List (Nat × Int)->(Nat->Int)->Nat->Int
 | [],m=>m
 | p::r,m=>Yy_ r (upd m p.1 p.2)
theorem Vd_:∀ (b:List (Nat × Int)) (m:Nat->Int) (p:Nat × Int),Yy_ (b++[p]) m=upd (Yy_ b m) p.1 p.2
 | [],m,p=>rfl
 | q::b,m,p=>Vd_ b _ p
def Yz_ (h:Thr) (r:Bool) (n:Int):Int:=if r then h.rg n.toNat else n
def brA (h:Thr) (x:Ins):Bool:=decide (15<x.op)&&(decide (Yz_ h x.aR x.aN=Yz_ h x.bR x.bN)==decide (x.op=16))
def m5 (x:Ins) (h:Thr):Thr :=
 if x.op=1 then { h with pc:=h.pc+1,rg:=upd h.rg x.rd.toNat x.aN }
 else if x.op<9 then { h with pc:=h.pc+1,rg:=upd h.rg x.rd.toNat (QA_ x.op (Yz_ h x.aR x.aN) (Yz_ h x.bR x.bN)) }
 else if brA h x=true then { h with pc:=h.pc+x.skip.toNat+1 }
 else { h with pc:=h.pc+1 }
def opA (x:Ins) (h:Thr) (m:Nat->Int):Option (Thr × (Nat->Int)) :=
 if x.op=9 then some ({ h with pc:=h.pc+1,rg:=upd h.rg x.rd.toNat (Yy_ h.bf m x.loc.toNat) },m)
 else if x.op=10 then some ({ h with pc:=h.pc+1,bf:=h.bf++[(x.loc.toNat,Yz_ h x.aR x.aN)] },m)
 else if x.op=11\/x.op=12 then
  if h.bf=[] then some ({ h with pc:=h.pc+1,rg:=upd h.rg x.rd.toNat (m x.loc.toNat) },upd m x.loc.toNat (if x.op=12 then IntKind.u64.wrap (Yz_ h x.aR x.aN+m x.loc.toNat) else Yz_ h x.aR x.aN))
  else none
 else none
def ZK_ (x:Ins) (h:Thr):Bool:=G4 x.op||(drB x&&!h.bf.isEmpty)
def zH0 (x:Ins) (h:Thr) (m:Nat->Int):Option (Thr × (Nat->Int)):=if G4 x.op=true then opA x h m else if ZK_ x h=true then none else some (m5 x h,m)
inductive AStep (t:Tst):Sys->Sys->Prop
 | ins {a:Sys} {i:Nat} {x:Ins} {h':Thr} {m':Nat->Int} (hi:i<t.ths.length) (hx:(lth t i)[(a.th i).pc]?=some x) (ho:zH0 x (a.th i) a.mm=some (h',m')):AStep t a ⟨upd a.th i h',m'⟩
 | dr {a:Sys} {i:Nat} {p:Nat × Int} {r:List (Nat × Int)} (hi:i<t.ths.length) (hb:(a.th i).bf=p::r):AStep t a ⟨upd a.th i { a.th i with bf:=r },upd a.mm p.1 p.2⟩
inductive ARun (t:Tst):Nat->Sys->Sys->Prop
 | nil (a:Sys):ARun t 0 a a
 | cons {n:Nat} {a b c:Sys}:AStep t a b->ARun t n b c->ARun t (n+1) a c
theorem ARun.append {t:Tst} {n m:Nat} {a b c:Sys} (h:ARun t n a b) (h':ARun t m b c):ARun t (m+n) a c:=by
 induction h with
 | nil=>exact h'
 | cons s _ ih=>exact .cons s (ih h')
def WL_ (t:Tst) (a:Sys):Prop:=∀ i,i<t.ths.length->(a.th i).bf=[]/\∀ x,(lth t i)[(a.th i).pc]?=some x->zH0 x (a.th i) a.mm=none
def zoj (t:Tst) (a:Sys):List Int:=T4 t ((List.range t.ths.length).map fun i=>(a.th i).rg) a.mm
inductive LStep (t:Tst) (i:Nat):Sys->Sys->Prop
 | mk {a:Sys} {x:Ins} (hi:i<t.ths.length) (hx:(lth t i)[(a.th i).pc]?=some x) (hs:ZK_ x (a.th i)=false):LStep t i a ⟨upd a.th i (m5 x (a.th i)),a.mm⟩
theorem zE1 {x:Ins} {h:Thr} (hs:ZK_ x h=false):G4 x.op=false:=by
 unfold ZK_ at hs;cases hm:G4 x.op
 .rfl
 rw [hm] at hs;cases hs
theorem LStep.ins {t:Tst} {i:Nat} {a b:Sys} (h:LStep t i a b):AStep t a b:=by
 cases h with
 | mk hi hx hs=>exact .ins hi hx (by unfold zH0;rw [if_neg (by rw [zE1 hs];simp),if_neg (by rw [hs];simp)])
theorem zE2 {x:Ins} {h:Thr} {m:Nat->Int} (hs:ZK_ x h=false):zH0 x h m=some (m5 x h,m):=by
 unfold zH0;rw [if_neg (by rw [zE1 hs];simp),if_neg (by rw [hs];simp)]
theorem zYl (h:Thr) (b:List (Nat × Int)) (r:Bool) (n:Int):Yz_ { h with bf:=b } r n=Yz_ h r n:=rfl
theorem zgj (h:Thr) (b:List (Nat × Int)) (x:Ins):brA { h with bf:=b } x=brA h x:=rfl
theorem zYm (x:Ins) (h:Thr) (b:List (Nat × Int)):m5 x { h with bf:=b }={ m5 x h with bf:=b }:=by
 unfold m5;simp only [zYl,zgj]
 by_cases h1:x.op=1
 .simp [h1]
 by_cases h2:x.op<9
 .simp [h1,h2]
 by_cases h3:brA h x=true<;>simp [h1,h2,h3]
theorem zE3 (x:Ins) (h:Thr):(m5 x h).bf=h.bf:=by
 unfold m5
 by_cases h1:x.op=1
 .simp [h1]
 by_cases h2:x.op<9
 .simp [h1,h2]
 by_cases h3:brA h x=true<;>simp [h1,h2,h3]
theorem zQb {x:Ins} {h:Thr} {p:Nat × Int} {r b:List (Nat × Int)} (hb:h.bf=p::r) (hs:ZK_ x h=false):ZK_ x { h with bf:=b }=false:=by
 unfold ZK_ at hs ⊢
 rw [hb] at hs
 simp only [Bool.or_eq_false_iff] at hs ⊢
 refine ⟨hs.1,?_⟩
 have:=hs.2
 cases hd:drB x
 .rfl
 rw [hd] at this;simp at this
theorem k0 {t:Tst} {i:Nat}:∀ {n:Nat} {a a' b:Sys},LStep t i a a'->ARun t n a b->WL_ t b->∃ m,n=m+1/\ARun t m a' b
 | 0,a,a',b,hl,hr,hf=>by
  cases hr with
  | nil =>
   cases hl with
   | mk hi hx hs =>
    have:=(hf i hi).2 _ hx
    rw [zE2 hs] at this;cases this
 | n+1,a,a',b,hl,hr,hf=>by
  refine ⟨n,rfl,?_⟩
  cases hr with
  | @cons _ _ c _ s hr =>
   cases hl with
   | @mk x hi hx hs =>
    cases s with
    | @ins j y h' m' hj hy ho =>
     by_cases hji:j=i
     .subst hji
      rw [hx] at hy;cases hy
      rw [zE2 hs] at ho
      cases ho
      exact hr
     have hij:i≠j:=Ne.symm hji
     have hl2:LStep t i ⟨upd a.th j h',m'⟩ ⟨upd (upd a.th j h') i (m5 x (a.th i)),m'⟩:=by
      have:=LStep.mk (t:=t) (i:=i) (a:=⟨upd a.th j h',m'⟩) (x:=x) hi (by dsimp only;rw [E2 hij];exact hx) (by dsimp only;rw [E2 hij];exact hs)
      dsimp only at this;rw [E2 hij] at this;exact this
     obtain ⟨m,rfl,h2⟩:=k0 hl2 hr hf
     have h3:AStep t ⟨upd a.th i (m5 x (a.th i)),a.mm⟩ ⟨upd (upd a.th i (m5 x (a.th i))) j h',m'⟩:=by
      refine AStep.ins hj (x:=y) ?_ ?_
      .dsimp only;rw [E2 hji];exact hy
      dsimp only;rw [E2 hji];exact ho
     rw [zE0 hij] at h3
     exact .cons h3 h2
    | @dr j p r hj hb =>
     by_cases hji:j=i
     .subst hji
      have hl2:LStep t j ⟨upd a.th j { a.th j with bf:=r },upd a.mm p.1 p.2⟩ ⟨upd a.th j { m5 x (a.th j) with bf:=r },upd a.mm p.1 p.2⟩:=by
       have:=LStep.mk (t:=t) (i:=j) (a:=⟨upd a.th j { a.th j with bf:=r },upd a.mm p.1 p.2⟩) (x:=x) hi (by dsimp only;rw [B4];exact hx) (by dsimp only;rw [B4];exact zQb hb hs)
       dsimp only at this;rw [B4,zKj,zYm] at this;exact this
      obtain ⟨m,rfl,h2⟩:=k0 hl2 hr hf
      have h3:AStep t ⟨upd a.th j (m5 x (a.th j)),a.mm⟩ ⟨upd (upd a.th j (m5 x (a.th j))) j { m5 x (a.th j) with bf:=r },upd a.mm p.1 p.2⟩:=by
       have:=AStep.dr (t:=t) (a:=⟨upd a.th j (m5 x (a.th j)),a.mm⟩) (i:=j) (p:=p) (r:=r) hj (by dsimp only;rw [B4,zE3,hb])
       dsimp only at this;rw [B4] at this;exact this
      rw [zKj] at h3
      exact .cons h3 h2
     have hij:i≠j:=Ne.symm hji
     have hl2:LStep t i ⟨upd a.th j { a.th j with bf:=r },upd a.mm p.1 p.2⟩ ⟨upd (upd a.th j { a.th j with bf:=r }) i (m5 x (a.th i)),upd a.mm p.1 p.2⟩:=by
      have:=LStep.mk (t:=t) (i:=i) (a:=⟨upd a.th j { a.th j with bf:=r },upd a.mm p.1 p.2⟩) (x:=x) hi (by dsimp only;rw [E2 hij];exact hx) (by dsimp only;rw [E2 hij];exact hs)
      dsimp only at this;rw [E2 hij] at this;exact this
     obtain ⟨m,rfl,h2⟩:=k0 hl2 hr hf
     have h3:AStep t ⟨upd a.th i (m5 x (a.th i)),a.mm⟩ ⟨upd (upd a.th i (m5 x (a.th i))) j { a.th j with bf:=r },upd a.mm p.1 p.2⟩:=by
      have:=AStep.dr (t:=t) (a:=⟨upd a.th i (m5 x (a.th i)),a.mm⟩) (i:=j) (p:=p) (r:=r) hj (by dsimp only;rw [E2 hji,hb])
      dsimp only at this;rw [E2 hji] at this;exact this
     rw [zE0 hij] at h3
     exact .cons h3 h2
inductive LRun (t:Tst) (i:Nat):Sys->Sys->Prop
 | nil (a:Sys):LRun t i a a
 | cons {a b c:Sys}:LStep t i a b->LRun t i b c->LRun t i a c
theorem s0 {t:Tst} {i:Nat} {a a' b:Sys} (hl:LRun t i a a'):∀ {n:Nat},ARun t n a b->WL_ t b->∃ m,m<=n/\ARun t m a' b:=by
 induction hl with
 | nil=>intro n hr _;exact ⟨n,Nat.le_refl _,hr⟩
 | cons s _ ih =>
  intro n hr hf
  obtain ⟨m,rfl,h⟩:=k0 s hr hf
  obtain ⟨m',h1,h2⟩:=ih h hf
  exact ⟨m',by omega,h2⟩
theorem LRun.run {t:Tst} {i:Nat} {a a':Sys} (hl:LRun t i a a'):∃ n,ARun t n a a':=by
 induction hl with
 | nil=>exact ⟨0,.nil _⟩
 | cons s _ ih=>obtain ⟨n,h⟩:=ih;exact ⟨n+1,.cons s.ins h⟩
end Go.Proofs.YtmpbalepefpllaaGreat
