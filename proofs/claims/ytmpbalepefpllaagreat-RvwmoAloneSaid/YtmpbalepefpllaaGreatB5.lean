/- Texts put together, in order: Gflod, Gfloe, W13, Gflof, W14, Gflog, W17, W18, W19, Gclitw, W30, Gouta, W15, W31, W32, W33, W34, W60, W61, W35, W36, W37, W38, W39, W40, Gouts. -/
import Derived.KernelRfl
import Derived.Shelf.SlSortCmp.WholeK
import Derived.Test.YtmpbalepefpllaaGreatB4
open List
set_option maxRecDepth 100000
set_option maxHeartbeats 16000000
set_option linter.unusedVariables false
set_option linter.unusedSimpArgs false
namespace Go.Proofs.YtmpbalepefpllaaGreat
open Go Go.Sl Go.Proofs.Tryz
theorem zHv (w k:Nat) (hw:w<k) (fp:V) (hfp:fp.one=true) (y:Wk) (x:Ins) (hx:InsOk x):Sl.Fn Tryz.prog 192 [.ptr w 0 0,B6 x] [(w,.rows 29 [.agg (wkC fp y)])] k fun r H _=>r=.tup [iV (brN y x),bV (brK y x)]/\H=[(w,.rows 29 [.agg (wkC fp (brW y x))])]:=by
 have g31:¬ w=k/\¬ k=w/\¬ w=k+1/\¬ k+1=w:=by and_intros<;>omega
 refine Sl.Fn.keep (by simp) ?_
 obtain ⟨h0,h8,ha,hb,hdep,hskip⟩:=hx
 refine B7 T_ok func192 rfl rfl ntmps192 rfl (by simp) ?_
 refine rG ?_ fun K h=>by simp [go_sem,B6,Ins.cs,g31];exact h
 refine rK fun K hK=>?_
 simp [go_sem,B6,Ins.cs,g31]
 refine D5 (QQ_ w _ (by omega) fp y x.aR x.aN ha) rfl (by simp) (by simp [go_sem,g31]) fun k' hk'=>?_
 have g32:¬ w=k'/\¬ k'=w/\¬ k'=k/\¬ k=k':=by and_intros<;>omega
 simp [go_sem,g31,g32]
 apply hK
 refine rK fun K hK=>?_
 simp [go_sem,B6,Ins.cs,g31,g32]
 refine D5 (QQ_ w _ (by omega) fp y x.bR x.bN hb) rfl (by simp) (by simp [go_sem,g31,g32]) fun k'' hk''=>?_
 have g33:¬ w=k''/\¬ k''=w/\¬ k''=k/\¬ k=k''/\¬ k''=k'/\¬ k'=k'':=by and_intros<;>omega
 simp [go_sem,g31,g32,g33]
 apply hK
 refine rG ?_ fun K h=>by simp [go_sem,B6,Ins.cs,g31,g32,g33,hfp];exact h
 refine A3 fun K1 hK1=>?_
 refine D8 T_ok (by decide) ⟨53,[(0,.ptr w 0 0),(3,.ptr k 0 0),(6,.ptr k' 0 0),(8,.ptr k'' 0 0),(41,bV (!brK y x))],[(k'',.rows 2 [.agg [bV (T9 y x.bR x.bN).k,uV (T9 y x.bR x.bN).v]]),(k',.rows 2 [.agg [bV (T9 y x.aR x.aN).k,uV (T9 y x.aR x.aN).v]]),(k,.rows 13 [B6 x]),(w,.rows 29 [.agg (wkC fp (brW y x))])],k''+1⟩ ?_ ?_
 .by_cases c1:(T9 y x.aR x.aN).k=true
  .simp [go_sem,c1,B6,Ins.cs,g31,g32,g33]
   refine Weaker.fw 1 0 ?_ ?_<;>simp [go_sem,c1,B6,Ins.cs,g31,g32,g33,brK,brW]
  simp [go_sem,c1,B6,Ins.cs,g31,g32,g33]
  refine Weaker.fw 1 0 ?_ ?_<;>simp [go_sem,c1,B6,Ins.cs,g31,g32,g33,brK,brW]
 skip
 refine cK (fun h=>?_) fun h=>?_
 .have hK0:brK y x=false:=by simpa using h
  clear h
  refine rG ?_
  refine A4 ?_
  simp [go_sem,brN,hK0,g31,g32,g33]
 have hK0:brK y x=true:=by simpa using h
 clear h
 apply A1
 apply hK1
 refine A3 fun K2 hK2=>?_
 refine rG ?_ fun K h=>by simp [go_sem,B6,Ins.cs,g31,g32,g33];exact h
 refine cK (fun h=>?_) fun h=>?_
 .have hE:((T9 y x.aR x.aN).v=(T9 y x.bR x.bN).v↔x.op=16):=by simpa [G3] using h
  clear h
  refine rG ?_ fun K h=>by simp [go_sem,B6,Ins.cs,g31,g32,g33];exact h
  refine A4 ?_
  simp [go_sem,brN,hK0,hE,g31,g32,g33]
 have hE:¬ ((T9 y x.aR x.aN).v=(T9 y x.bR x.bN).v↔x.op=16):=by simpa [G3] using h
 clear h
 apply A1
 apply hK2
 refine rG ?_
 refine A4 ?_
 simp [go_sem,brN,hK0,hE,g31,g32,g33]
theorem zNv (w k:Nat) (hw:w<k) (fp:V) (hfp:fp.one=true) (y:Wk) (x:Ins) (hx:InsOk x):Sl.Fn Tryz.prog 193 [.ptr w 0 0,B6 x] [(w,.rows 29 [.agg (wkC fp y)])] k fun r H _=>r=.tup []/\H=[(w,.rows 29 [.agg (wkC fp (N9 y x))])]:=by
 have g34:¬ w=k/\¬ k=w/\¬ w=k+1/\¬ k+1=w:=by and_intros<;>omega
 refine Sl.Fn.keep (by simp) ?_
 obtain ⟨h0,h8,ha,hb,hdep,hskip⟩:=hx
 refine B7 T_ok func193 rfl rfl ntmps193 rfl (by simp) ?_
 refine rG ?_ fun K h=>by simp [go_sem,B6,Ins.cs,g34];exact h
 refine A3 fun K1 hK1=>?_
 refine rG ?_ fun K h=>by simp [go_sem,B6,Ins.cs,g34];exact h
 refine cK (fun h=>?_) fun h=>?_
 .have hop:x.op=15:=by simpa using h
  clear h
  refine A4 ?_
  simp [go_sem,N9,hop,g34]
 have n15:¬ x.op=15:=by simpa using h
 clear h
 apply A1
 apply hK1
 refine rK fun K hK=>?_
 simp [go_sem,B6,Ins.cs,g34]
 refine D5 (QQ_ w _ (by omega) fp y x.aR x.aN ha) rfl (by simp) (by simp [go_sem,g34]) fun k' hk'=>?_
 have g35:¬ w=k'/\¬ k'=w/\¬ k'=k/\¬ k=k':=by and_intros<;>omega
 simp [go_sem,g34,g35]
 apply hK
 refine A3 fun K2 hK2=>?_
 refine rG ?_ fun K h=>by simp [go_sem,B6,Ins.cs,g34,g35];exact h
 refine cK (fun h=>?_) fun h=>?_
 .have hop:x.op=1:=by simpa using h
  clear h
  refine rK fun K hK=>?_
  simp [go_sem,B6,Ins.cs,g34,g35]
  refine D5 (ZU_ w _ (by omega) fp hfp y x.rd h0 h8 (T9 y x.aR x.aN) 0) rfl (by simp) (by simp [go_sem,g34,g35]) fun k9 hk9=>?_
  simp [go_sem,g34,g35]
  apply hK
  refine A4 ?_
  simp [go_sem,N9,hop,g34,g35]
 have n1:¬ x.op=1:=by simpa using h
 clear h
 apply A1
 apply hK2
 refine rK fun K hK=>?_
 simp [go_sem,B6,Ins.cs,g34,g35]
 refine D5 (QQ_ w _ (by omega) fp y x.bR x.bN hb) rfl (by simp) (by simp [go_sem,g34,g35]) fun k'' hk''=>?_
 have g36:¬ w=k''/\¬ k''=w/\¬ k''=k/\¬ k=k''/\¬ k''=k'/\¬ k'=k'':=by and_intros<;>omega
 simp [go_sem,g34,g35,g36]
 apply hK
 refine dE 20 [[],[],[1],[],[3],[3,4],[3,4,5],[3,4,5,6],[3,4,5,6,7],[],[9],[],[11],[],[13],[3,4,5,9,10,11,12,13,14],[3,4,5,6,7,8,9,10,11,12,13,14,15],[],[],[17,18],[0,1,2,3,4,5,6,7,8,9,10,11,12,13,14,15,16,17,18,19]] fun K hK=>?_
 first|dsimp only [List.take,List.drop]|dsimp [List.take,List.drop]
 cases hA:(T9 y x.aR x.aN).k
 .simp [go_sem,hA,B6,Ins.cs,g34,g35,g36]
  refine A5 (ZT_ x.op (T9 y x.aR x.aN).v (T9 y x.bR x.bN).v) ?_
  simp [go_sem,hA,B6,Ins.cs,g34,g35,g36]
  refine D5 (ZU_ w _ (by omega) fp hfp y x.rd h0 h8 ⟨false,zC7 x.op (T9 y x.aR x.aN).v (T9 y x.bR x.bN).v⟩ (o64 (o6 y x.aR x.aN) (o6 y x.bR x.bN))) rfl (by simp) (by simp [go_sem,g34,g35,g36]) fun k9 hk9=>?_
  simp [go_sem,g34,g35,g36]
  apply hK
  refine ⟨.inl rfl,?_⟩
  simp [go_sem,N9,hA,n15,n1,g34,g35,g36]
 simp [go_sem,hA,B6,Ins.cs,g34,g35,g36]
 refine A5 (ZT_ x.op (T9 y x.aR x.aN).v (T9 y x.bR x.bN).v) ?_
 simp [go_sem,hA,B6,Ins.cs,g34,g35,g36]
 refine D5 (ZU_ w _ (by omega) fp hfp y x.rd h0 h8 ⟨(T9 y x.bR x.bN).k,zC7 x.op (T9 y x.aR x.aN).v (T9 y x.bR x.bN).v⟩ (o64 (o6 y x.aR x.aN) (o6 y x.bR x.bN))) rfl (by simp) (by simp [go_sem,g34,g35,g36]) fun k9 hk9=>?_
 simp [go_sem,g34,g35,g36]
 apply hK
 refine ⟨.inl rfl,?_⟩
 simp [go_sem,N9,hA,n15,n1,g34,g35,g36]
theorem zHw (w k:Nat) (h12:12<w) (hw:w<k) (m:Nat) (L R Wh:V) (y:Wk) (f:Fl) (hfl:FlOk m f) (l:List Ins) (hl:∀ x∈l,InsOk x) (hll:l.length<=9223372036854775806) (n:Nat) (hn:n+L5 l<=m) (hm:m<=9223372036854775806) (reads:List Vl) (works:List Bool) (hrl:m<=reads.length) (hwl:m<=works.length):Sl.Fn Tryz.prog 153 [.ptr w 0 0,.ro 13 (W0 l),iV (n:Nat),.ro 2 (vls reads),.ro 1 (bVs works)] [(w,.rows 29 [.agg (wkC (.ptr 12 0 0) y)]),(12,.rows 9 [.agg [.sl 1 0 m,.sl 3 0 m,.sl 5 0 m,.sl 7 0 m,.sl 9 0 m,.sl 11 0 m,L,R,Wh]]),(1,.rows 1 (iVs f.state)),(3,.rows 2 (vls f.write)),(5,.rows 1 (iVs f.pair)),(7,.rows 1 (uVs f.place)),(9,.rows 1 (uVs f.value)),(11,.rows 1 (uVs f.path))] k fun r H _=>r=bV (runT reads works 0 l ⟨y,f,0,n⟩).2/\H=[(w,.rows 29 [.agg (wkC (.ptr 12 0 0) (runT reads works 0 l ⟨y,f,0,n⟩).1.w)]),(12,.rows 9 [.agg [.sl 1 0 m,.sl 3 0 m,.sl 5 0 m,.sl 7 0 m,.sl 9 0 m,.sl 11 0 m,L,R,Wh]]),(1,.rows 1 (iVs (runT reads works 0 l ⟨y,f,0,n⟩).1.f.state)),(3,.rows 2 (vls (runT reads works 0 l ⟨y,f,0,n⟩).1.f.write)),(5,.rows 1 (iVs (runT reads works 0 l ⟨y,f,0,n⟩).1.f.pair)),(7,.rows 1 (uVs (runT reads works 0 l ⟨y,f,0,n⟩).1.f.place)),(9,.rows 1 (uVs (runT reads works 0 l ⟨y,f,0,n⟩).1.f.value)),(11,.rows 1 (uVs (runT reads works 0 l ⟨y,f,0,n⟩).1.f.path))]:=by
 have g37:¬ w=1/\¬ 1=w/\¬ w=3/\¬ 3=w/\¬ w=5/\¬ 5=w/\¬ w=7/\¬ 7=w/\¬ w=9/\¬ 9=w/\¬ w=11/\¬ 11=w/\¬ w=12/\¬ 12=w/\¬ w=k/\¬ k=w/\¬ w=k+1/\¬ k+1=w/\¬ w=k+2/\¬ k+2=w/\¬ k=0/\¬ 0=k/\¬ k=1/\¬ 1=k/\¬ k=2/\¬ 2=k/\¬ k=3/\¬ 3=k/\¬ k=4/\¬ 4=k/\¬ k=5/\¬ 5=k/\¬ k=6/\¬ 6=k/\¬ k=7/\¬ 7=k/\¬ k=8/\¬ 8=k/\¬ k=9/\¬ 9=k/\¬ k=10/\¬ 10=k/\¬ k=11/\¬ 11=k/\¬ k=12/\¬ 12=k:=by and_intros<;>omega
 refine Sl.Fn.keep (by simp [g37]) ?_
 refine B7 T_ok func153 rfl rfl ntmps153 rfl (by simp) ?_
 refine rG ?_
 refine rG ?_
 refine A3 fun K1 hK1=>?_
 refine rG ?_
 apply A0
 refine A9 (α:=Nat × Ts × Nat) (fun a=>⟨88,[(0,.ptr w 0 0),(3,.ro 2 (vls reads)),(4,.ro 1 (bVs works)),(16,.ro 13 (W0 l)),(17,iV (l.length:Nat)),(18,iV (a.1:Nat)),(11,iV a.2.1.out),(2,iV (a.2.1.k:Nat))],[(w,.rows 29 [.agg (wkC (.ptr 12 0 0) a.2.1.w)]),(12,.rows 9 [.agg [.sl 1 0 m,.sl 3 0 m,.sl 5 0 m,.sl 7 0 m,.sl 9 0 m,.sl 11 0 m,L,R,Wh]]),(1,.rows 1 (iVs a.2.1.f.state)),(3,.rows 2 (vls a.2.1.f.write)),(5,.rows 1 (iVs a.2.1.f.pair)),(7,.rows 1 (uVs a.2.1.f.place)),(9,.rows 1 (uVs a.2.1.f.value)),(11,.rows 1 (uVs a.2.1.f.path))],a.2.2⟩) (fun a=>a.1<=l.length/\runT reads works a.1 (l.drop a.1) a.2.1=(runT reads works 0 l ⟨y,f,0,n⟩)/\FlOk m a.2.1.f/\a.2.1.k+L5 (l.drop a.1)<=m/\a.2.1.out<=9223372036854775807/\w<a.2.2) (fun a=>l.length-a.1) (0,⟨y,f,0,n⟩,k) ?_ ?_ ?_
 .exact ⟨Nat.zero_le _,by rw [drop_zero],hfl,by rw [drop_zero];exact hn,by dsimp only;omega,hw⟩
 .refine Weaker.fw 1 0 ?_ ?_<;>simp [go_sem,g37]
 rintro ⟨i,s,j⟩ ⟨hi,hrun,hfl,hkm,hout,hwj⟩
 dsimp only at hi hrun hfl hkm hout hwj ⊢
 refine rG ?_
 refine A3 fun K2 hK2=>?_
 refine cJ (fun h=>?_) fun h=>?_
 .simp at h
  obtain rfl:i=l.length:=by omega
  have hR:(runT reads works 0 l ⟨y,f,0,n⟩)=(s,true):=by rw [<-hrun,drop_length];rfl
  apply A6
  apply hK1
  refine rG ?_
  refine A4 ?_
  rw [hR]
  simp [go_sem,B6,g37]
 simp at h
 have hI:=h
 clear h
 have h':i<l.length:=by omega
 obtain ⟨x,hx,hx'⟩:=E0 h'
 have hi0:(0:Int)<=(i:Nat):=by omega
 have hw1:=wI i
 have hok:=hl x (List.mem_of_getElem? hx)
 have hD:=QP_ hx
 have hKk:=zUz (reads:=reads) (works:=works) (s:=s) hx
 have hO2:=zHu (reads:=reads) (works:=works) (i:=i) hout hok
 have hF2:=Yz_ (reads:=reads) (works:=works) (i:=i) (x:=x) hfl
 have g38:¬ w=1/\¬ 1=w/\¬ w=3/\¬ 3=w/\¬ w=5/\¬ 5=w/\¬ w=7/\¬ 7=w/\¬ w=9/\¬ 9=w/\¬ w=11/\¬ 11=w/\¬ w=12/\¬ 12=w/\¬ w=j/\¬ j=w/\¬ w=j+1/\¬ j+1=w/\¬ j=0/\¬ 0=j/\¬ j=1/\¬ 1=j/\¬ j=2/\¬ 2=j/\¬ j=3/\¬ 3=j/\¬ j=4/\¬ 4=j/\¬ j=5/\¬ 5=j/\¬ j=6/\¬ 6=j/\¬ j=7/\¬ 7=j/\¬ j=8/\¬ 8=j/\¬ j=9/\¬ 9=j/\¬ j=10/\¬ 10=j/\¬ j=11/\¬ 11=j/\¬ j=12/\¬ 12=j:=by and_intros<;>omega
 obtain ⟨l1,l2,l3,l4,l5,l6⟩:=id hfl
 apply A1
 apply hK2
 refine A3 fun K3 hK3=>?_
 apply A0
 refine rG ?_ fun K h=>by simp [go_sem,B6,hI,hx,hx',hi0,h',g38];exact h
 refine A3 fun K4 hK4=>?_
 refine rG ?_
 refine cK (fun h=>?_) fun h=>?_
 .have ho:0<s.out:=by simpa using h
  clear h
  have hwo:IntKind.i64.wrap (s.out-1)=s.out-1:=E4 (by omega) (by omega)
  have ho':¬ s.out<=0:=by omega
  refine rG ?_ fun K h=>by simp [go_sem,B6,g38,hwo];exact h
  refine dK 6 [[],[0],[0,1],[0,1,2],[],[4],[0,1,2,3,4,5],[0,1,2,3,4,5,6],[0,1,2,3,4,5,6,7],[0,1,2,3,4,5,6,7,8]] fun K hK=>?_
  first|dsimp only [List.take,List.drop]|dsimp [List.take,List.drop]
  simp [go_sem,B6,hI,hx,hx',hi0,h',g38]
  apply hK
  refine A3 fun K5 hK5=>?_
  refine rK fun K hK=>?_
  simp [go_sem,B6,g38]
  refine A2 (N5 x) ?_
  simp [go_sem,B6,g38]
  apply hK
  refine cJ (fun h=>?_) fun h=>?_
  .have hmI:J8 x=false:=by simpa [J8] using h
   clear h
   have hsb:Y0 x s=true:=by simp [Y0,ho,hmI,ho']
   have hrun2:=(o7 (reads:=reads) (works:=works) hx hsb).symm.trans hrun
   apply A1
   apply hK5
   apply A6
   apply hK3
   refine rF ?_ fun K h=>by simp [go_sem,hw1];exact h
   refine ⟨(i+1,stepT reads works i x s,j+7),?_,?_,?_⟩
   .exact ⟨by omega,hrun2,hF2,by dsimp only at hKk ⊢;omega,hO2,by dsimp only;omega⟩
   .dsimp only;omega
   refine Weaker.fw 1 0 ?_ ?_<;>simp [go_sem,stepT,ho,hmI,g38]
  have hmI:J8 x=true:=h
  have hmB:M2 x.op=true:=h
  clear h
  rw [if_pos hmI] at hD
  have g39:(s.k:Int)<(m:Nat)/\s.k<s.f.state.length/\(0:Int)<=(s.k:Nat):=by and_intros<;>omega
  have hwk:IntKind.i64.wrap ((s.k:Nat)+1)=(s.k:Nat)+1:=E4 (by omega) (by omega)
  have hsb:Y0 x s=true:=by simp [Y0,ho,hmI,ho']
  have hrun2:=(o7 (reads:=reads) (works:=works) hx hsb).symm.trans hrun
  refine rG ?_ fun K h=>by simp [go_sem,B6,g38,g39];exact h
  refine rF ?_ fun K h=>by simp [go_sem,B6,g38,hwk];exact h
  apply hK5
  apply A6
  apply hK3
  refine rF ?_ fun K h=>by simp [go_sem,hw1];exact h
  refine ⟨(i+1,stepT reads works i x s,j+7),?_,?_,?_⟩
  .exact ⟨by omega,hrun2,hF2,by dsimp only at hKk ⊢;omega,hO2,by dsimp only;omega⟩
  .dsimp only;omega
  refine Weaker.fw 1 0 ?_ ?_<;>simp [go_sem,stepT,ho,hmI,g38]
 have ho:¬ 0<s.out:=by simpa using h
 clear h
 have ho':s.out<=0:=by omega
 apply A1
 apply hK4
 apply A0
 refine rK fun K hK=>?_
 simp [go_sem,B6,g38]
 refine A2 (N5 x) ?_
 simp [go_sem,B6,g38]
 apply hK
 refine cK (fun h=>?_) fun h=>?_
 .have hmI:J8 x=true:=h
  have hmB:M2 x.op=true:=h
  clear h
  rw [if_pos hmI] at hD
  have g40:(s.k:Int)<(m:Nat)/\s.k<s.f.state.length/\(0:Int)<=(s.k:Nat):=by and_intros<;>omega
  have hwk:IntKind.i64.wrap ((s.k:Nat)+1)=(s.k:Nat)+1:=E4 (by omega) (by omega)
  have hsb:Y0 x s=true:=by simp [Y0,ho,hmI]
  have hrun2:=(o7 (reads:=reads) (works:=works) hx hsb).symm.trans hrun
  obtain ⟨r,hr,hr'⟩:=E0 (show s.k<reads.length by omega)
  obtain ⟨b,hb,hb'⟩:=E0 (show s.k<works.length by omega)
  have g41:(s.k:Int)<(reads.length:Nat)/\(s.k:Int)<(works.length:Nat):=by and_intros<;>omega
  refine dK 11 [[],[],[],[],[],[3,4],[3,4,5],[],[],[7,8],[7,8,9],[0,1,2,3,4,5,6,7,8,9,10]] fun K hK=>?_
  first|dsimp only [List.take,List.drop]|dsimp [List.take,List.drop]
  simp [go_sem,B6,g38,g40,g41,hr,hb,hr',hb']
  refine D5 (zcq w _ h12 (by omega) m L R Wh s.w s.f hfl x hok s.k (by omega) (by omega) r b) rfl (by simp [g38]) (by simp [go_sem,g38]) fun k9 hk9=>?_
  simp [go_sem,B6,g38]
  apply hK
  refine rF ?_ fun K h=>by simp [go_sem,hwk];exact h
  apply hK3
  refine rF ?_ fun K h=>by simp [go_sem,hw1];exact h
  refine ⟨(i+1,stepT reads works i x s,k9),?_,?_,?_⟩
  .exact ⟨by omega,hrun2,hF2,by dsimp only at hKk ⊢;omega,hO2,by dsimp only;omega⟩
  .dsimp only;omega
  refine Weaker.fw 1 0 ?_ ?_
  .simp [go_sem,stepT,ho,hmI,hr,hr',hb,hb',g38,hr,hb]
  simp [go_sem,stepT,ho,hmI,hr,hr',hb,hb',g38]
 have hmI:J8 x=false:=by simpa [J8] using h
 clear h
 refine D8 T_ok (by decide) ⟨88,[(0,.ptr w 0 0),(3,.ro 2 (vls reads)),(4,.ro 1 (bVs works)),(16,.ro 13 (W0 l)),(17,iV (l.length:Nat)),(18,iV (i:Nat)),(11,iV s.out),(2,iV (s.k:Nat)),(13,.ptr j 0 0),(69,bV (JK_ x.op))],[(j,.rows 13 [B6 x]),(w,.rows 29 [.agg (wkC (.ptr 12 0 0) s.w)]),(12,.rows 9 [.agg [.sl 1 0 m,.sl 3 0 m,.sl 5 0 m,.sl 7 0 m,.sl 9 0 m,.sl 11 0 m,L,R,Wh]]),(1,.rows 1 (iVs s.f.state)),(3,.rows 2 (vls s.f.write)),(5,.rows 1 (iVs s.f.pair)),(7,.rows 1 (uVs s.f.place)),(9,.rows 1 (uVs s.f.value)),(11,.rows 1 (uVs s.f.path))],j+1⟩ ?_ ?_
 .by_cases c1:x.op=16
  .simp [go_sem,c1,B6,g38]
   refine Weaker.fw 1 0 ?_ ?_<;>simp [go_sem,c1,B6,g38,JK_,G3]
  simp [go_sem,c1,B6,g38]
  refine Weaker.fw 1 0 ?_ ?_<;>simp [go_sem,c1,B6,g38,JK_,G3]
 skip
 refine cJ (fun h=>?_) fun h=>?_
 .have hbr:JK_ x.op=false:=by simpa using h
  clear h
  have hsb:Y0 x s=true:=by simp [Y0,ho,hmI,hbr]
  have hrun2:=(o7 (reads:=reads) (works:=works) hx hsb).symm.trans hrun
  refine rE fun K hK=>?_
  simp [go_sem,B6,g38]
  refine D5 (zNv w _ (by omega) (.ptr 12 0 0) rfl s.w x hok) rfl (by simp) (by simp [go_sem,g38]) fun k9 hk9=>?_
  simp [go_sem,B6,g38]
  apply hK
  apply hK3
  refine rF ?_ fun K h=>by simp [go_sem,hw1];exact h
  refine ⟨(i+1,stepT reads works i x s,k9),?_,?_,?_⟩
  .exact ⟨by omega,hrun2,hF2,by dsimp only at hKk ⊢;omega,hO2,by dsimp only;omega⟩
  .dsimp only;omega
  refine Weaker.fw 1 0 ?_ ?_<;>simp [go_sem,stepT,ho,hmI,hbr,g38]
 have hbr:JK_ x.op=true:=by simpa using h
 clear h
 refine rK fun K hK=>?_
 simp [go_sem,B6,g38]
 refine D5 (zHv w _ (by omega) (.ptr 12 0 0) rfl s.w x hok) rfl (by simp) (by simp [go_sem,g38]) fun k9 hk9=>?_
 simp [go_sem,B6,g38]
 apply hK
 refine A3 fun K6 hK6=>?_
 refine rG ?_ fun K h=>by simp [go_sem,B6,g38];exact h
 refine cK (fun h=>?_) fun h=>?_
 .have hbK:brK s.w x=false:=by simpa using h
  clear h
  have hsb:Y0 x s=false:=by simp [Y0,ho',hmI,hbr,hbK]
  have hR:(runT reads works 0 l ⟨y,f,0,n⟩)=(stepT reads works i x s,false):=by rw [<-hrun];exact zHt hx hsb
  refine rG ?_
  refine A4 ?_
  rw [hR]
  simp [go_sem,stepT,ho,hmI,hbr,g38]
 have hbK:brK s.w x=true:=by simpa using h
 clear h
 have hsb:Y0 x s=true:=by simp [Y0,ho,hmI,hbr,hbK]
 have hrun2:=(o7 (reads:=reads) (works:=works) hx hsb).symm.trans hrun
 apply A1
 apply hK6
 refine rF ?_ fun K h=>by simp [go_sem,B6,g38];exact h
 apply hK3
 refine rF ?_ fun K h=>by simp [go_sem,hw1];exact h
 refine ⟨(i+1,stepT reads works i x s,k9),?_,?_,?_⟩
 .exact ⟨by omega,hrun2,hF2,by dsimp only at hKk ⊢;omega,hO2,by dsimp only;omega⟩
 .dsimp only;omega
 refine Weaker.fw 1 0 ?_ ?_<;>simp [go_sem,stepT,ho,hmI,hbr,g38]
theorem x8 (th:Nat):∀ (i:Nat) (l l':List Ins),Yh_ th i (l++l')=Yh_ th i l++Yh_ th (i+l.length) l'
 | i,[],l'=>by simp [Yh_]
 | i,x::l,l'=>by
  have:=x8 th (i+1) l l'
  have e:i+1+l.length=i+(l.length+1):=by omega
  simp only [cons_append,Yh_,this,length_cons,e]
  split<;>simp
theorem Xq_:∀ (i:Nat) (l l':List (List Ins)),M5 i (l++l')=M5 i l++M5 (i+l.length) l'
 | i,[],l'=>by simp [M5]
 | i,x::l,l'=>by
  have:=Xq_ (i+1) l l'
  have e:i+1+l.length=i+(l.length+1):=by omega
  simp only [cons_append,M5,this,length_cons,e,append_assoc]
def opO (t:List (List Ins)) (i:Nat):List (Nat × Nat):=M5 0 (t.take i)
def opP (t:List (List Ins)) (i:Nat) (l:List Ins) (b:Nat):List (Nat × Nat):=opO t i++Yh_ i 0 (l.take b)
theorem zCa (t:List (List Ins)):opO t 0=[]:=rfl
theorem zV2 (t:List (List Ins)):opO t t.length=M5 0 t:=by unfold opO;rw [take_length]
theorem zNw (t:List (List Ins)) (i:Nat) (l:List Ins):opP t i l 0=opO t i:=by simp [opP,Yh_]
theorem zHx {t:List (List Ins)} {i:Nat} {l:List Ins} {b:Nat} {x:Ins} (h:l[b]?=some x) (hm:J8 x=true):opP t i l (b+1)=opP t i l b++[(i,b)]:=by
 have hb:(l.take b).length=b:=by rw [length_take];have:=(List.getElem?_eq_some_iff.1 h).1;omega
 unfold opP
 rw [M1 h,x8,hb]
 simp [Yh_,hm]
theorem zcr {t:List (List Ins)} {i:Nat} {l:List Ins} {b:Nat} {x:Ins} (h:l[b]?=some x) (hm:J8 x=false):opP t i l (b+1)=opP t i l b:=by
 unfold opP
 rw [M1 h,x8]
 simp [Yh_,hm]
theorem zV3 {t:List (List Ins)} {i:Nat} {l:List Ins} (h:t[i]?=some l):opP t i l l.length=opO t (i+1):=by
 have hb:(t.take i).length=i:=by rw [length_take];have:=(List.getElem?_eq_some_iff.1 h).1;omega
 unfold opP opO
 rw [M1 h,Xq_,hb,take_length]
 simp [M5]
theorem J5_ (l:List Ins):L5 l<=l.length:=countP_le_length
theorem J6_ {n:Nat}:∀ (i:Nat) (l:List (List Ins)),(∀ x∈l,x.length<=n)->(M5 i l).length<=n*l.length
 | _,[],_=>by simp [M5]
 | i,x::l,h=>by
  have:=J6_ (i+1) l fun y hy=>h y (by simp [hy])
  have h1:=h x (by simp)
  have h2:=J5_ x
  simp only [M5,length_append,d6,length_cons,Nat.mul_succ]
  omega
theorem zV4 {t:List (List Ins)} {i:Nat} {l:List Ins} {b:Nat} (h:∀ x∈t,x.length<=1000) (ht:t.length<=1000) (hl:l.length<=1000):(opP t i l b).length<=1001000:=by
 have h1:=J6_ 0 (t.take i) fun x hx=>h x (mem_of_mem_take hx)
 have h2:=J5_ (l.take b)
 rw [length_take] at h1 h2
 unfold opP opO
 rw [length_append,d6]
 have:1000*min i t.length<=1000*1000:=Nat.mul_le_mul_left _ (by omega)
 omega
@[go_sem] theorem zfu (l:List (Nat × Nat)):(d0 l).length=l.length:=length_map ..
@[go_sem] theorem zcs (l:List (Nat × Nat)) (n:Nat):(d0 l).take n=d0 (l.take n):=(map_take ..).symm
@[go_sem] theorem O0 (l:List (Nat × Nat)) (i:Nat):(d0 l)[i]?=l[i]?.map fun p=>V.agg [iV (p.1:Nat),iV (p.2:Nat)]:=List.getElem?_map ..
theorem J7_ (l:List (Nat × Nat)) (a b:Nat):d0 l++[V.agg [iV (a:Nat),iV (b:Nat)]]=d0 (l++[(a,b)]):=by simp [d0,opC]
theorem zNx:d0 []=[]:=rfl
theorem zV5 (l:List (Nat × Nat)):NL (.ro 2 (d0 l)):=.ro fun v hv=>by obtain ⟨a,_,rfl⟩:=List.mem_map.1 hv;exact .cons (.val _) (.cons (.val _) .nil)
theorem zQe (t:Tst) (ht:t.ths.length<=1000) (hl:∀ x∈t.ths,x.length<=1000):Pf Tryz.prog 87 [.rp t.cs 0] (.ro 2 (d0 (M5 0 t.ths))):=by
 refine Pf.of_fz 1 (.cons (u6 t) .nil) (zV5 _) ?_
 refine B7 T_ok func87 rfl rfl ntmps87 rfl (by simp) ?_
 refine rG ?_
 refine rG ?_
 refine A3 fun K1 hK1=>?_
 refine rG ?_ fun K h=>by simp [go_sem,Tst.cs];exact h
 apply A0
 refine Tr.weaken (Weaker.ghost 3 2 rfl) ?_
 refine A9 (α:=Nat × Nat × Nat) (fun a=>⟨36,[(11,.ro 1 (N3 t.ths)),(12,iV (t.ths.length:Nat)),(13,iV (a.1:Nat)),(3,.sl a.2.1 0 (opO t.ths a.1).length)],[(a.2.1,.rows 2 (d0 (opO t.ths a.1)))],a.2.1+a.2.2+1⟩) (fun a=>a.1<=t.ths.length) (fun a=>t.ths.length-a.1) (0,0,0) ?_ ?_ ?_
 .dsimp only;omega
 .refine Weaker.fw 1 0 ?_ ?_
  .simp [go_sem,zCa,Tst.cs]
  simp [go_sem,zCa,zNx]
 rintro ⟨i,r,c⟩ hi
 dsimp only at hi ⊢
 refine rG ?_
 refine A3 fun K2 hK2=>?_
 refine cJ (fun h=>?_) fun h=>?_
 .simp at h
  obtain rfl:i=t.ths.length:=by omega
  apply A6
  apply hK1
  refine rG ?_
  refine A4 ?_
  simp [go_sem,zV2]
 simp at h
 have hI:=h
 clear h
 have h':i<(t.ths).length:=by omega
 obtain ⟨l,hx,hx'⟩:=E0 h'
 have hi0:(0:Int)<=(i:Nat):=by omega
 have hll:=hl l (List.mem_of_getElem? hx)
 have hw:=wI i
 apply A1
 apply hK2
 refine A3 fun K3 hK3=>?_
 apply A0
 refine rG ?_ fun K h=>by simp [go_sem,hI,hx,hx',hi0,h'];exact h
 refine rG ?_
 apply A0
 refine A9 (α:=Nat × Nat × Nat) (fun b=>⟨36,[(11,.ro 1 (N3 t.ths)),(12,iV (t.ths.length:Nat)),(13,iV (i:Nat)),(4,iV (i:Nat)),(18,.ro 13 (W0 l)),(19,iV (l.length:Nat)),(20,iV (b.1:Nat)),(3,.sl b.2.1 0 (opP t.ths i l b.1).length)],[(b.2.1,.rows 2 (d0 (opP t.ths i l b.1)))],b.2.1+b.2.2+1⟩) (fun b=>b.1<=l.length) (fun b=>l.length-b.1) (0,r,c) ?_ ?_ ?_
 .dsimp only;omega
 .refine Weaker.fw 1 0 ?_ ?_<;>simp [go_sem,zNw]
 rintro ⟨b,r,c⟩ hib
 dsimp only at hib ⊢
 refine rG ?_
 refine A3 fun K4 hK4=>?_
 refine cJ (fun h=>?_) fun h=>?_
 .simp at h
  obtain rfl:b=l.length:=by omega
  apply A6
  apply hK3
  refine rF ?_ fun K h=>by simp [go_sem,hw];exact h
  refine ⟨(i+1,r,c),?_,?_,?_⟩
  .dsimp only;omega
  .dsimp only;omega
  refine Weaker.fw 1 0 ?_ ?_<;>simp [go_sem,zV3 hx]
 simp at h
 have hI2:=h
 clear h
 have h'2:b<(l).length:=by omega
 obtain ⟨x,hx2,hx'2⟩:=E0 h'2
 have hi02:(0:Int)<=(b:Nat):=by omega
 have hw2:=wI b
 apply A1
 apply hK4
 refine A3 fun K5 hK5=>?_
 apply A0
 refine rG ?_ fun K h=>by simp [go_sem,hI2,hx2,hx'2,hi02,h'2,B6];exact h
 refine rK fun K hK=>?_
 simp [go_sem,B6]
 refine A2 (N5 x) ?_
 simp [go_sem]
 apply hK
 refine cJ (fun h=>?_) fun h=>?_
 .have hm:J8 x=false:=by simpa [J8] using h
  clear h
  apply A1
  apply hK5
  refine rF ?_ fun K h=>by simp [go_sem,hw2];exact h
  refine ⟨(b+1,r,c+1),?_,?_,?_⟩
  .dsimp only;omega
  .dsimp only;omega
  refine Weaker.fw 1 0 ?_ ?_<;>simp [go_sem,zcr hx2 hm]
 have hm:J8 x=true:=h
 clear h
 have hpl:=zV4 (i:=i) (l:=l) (b:=b) hl ht hll
 refine rE fun K hK=>?_
 simp [go_sem]
 refine ⟨by omega,?_⟩
 apply hK
 apply hK5
 refine rF ?_ fun K h=>by simp [go_sem,hw2];exact h
 refine ⟨(b+1,r+c+3,0),?_,?_,?_⟩
 .dsimp only;omega
 .dsimp only;omega
 refine Weaker.fw 1 0 ?_ ?_
 .simp [go_sem,zHx hx2 hm]
 simp [go_sem,zHx hx2 hm,J7_]
def wkI (b:Nat):Wk:={ regs:=fun r=>⟨decide (r<b),0⟩,hangs:=fun _=>0,path:=0,left:=0,lr:=0,lrLoc:=0 }
@[go_sem high] theorem zfv (f:V):V.agg [f,bV false,uV 0,bV false,uV 0,bV false,uV 0,bV false,uV 0,bV false,uV 0,bV false,uV 0,bV false,uV 0,bV false,uV 0,uV 0,uV 0,uV 0,uV 0,uV 0,uV 0,uV 0,uV 0,uV 0,uV 0,iV 0,iV 0]=.agg (wkC f (wkI 0)):=Eq.trans rfl rfl
theorem zNy (f:V) (b:Nat):wkC f { regs:=fun q=>if q=b then ⟨true,((wkI b).regs b).v⟩ else (wkI b).regs q,hangs:=(wkI b).hangs,path:=(wkI b).path,left:=(wkI b).left,lr:=(wkI b).lr,lrLoc:=(wkI b).lrLoc }=wkC f (wkI (b+1)):=by
 congr 1
 unfold wkI
 simp only [Wk.mk.injEq,and_true]
 funext q
 by_cases h:q=b
 .subst h;simp
 rw [if_neg h]
 simp only [Vl.mk.injEq,and_true]
 rw [Bool.eq_iff_iff,decide_eq_true_eq,decide_eq_true_eq];omega
theorem zct {f:V} {x:Wk} (hf:f.one=true):∀ c∈wkC f x,c.one=true:=(C8.1 (zUv (x:=x) hf)).2
theorem zCb (g:Nat->Vl):∀ c∈o5 g,c.one=true:=(C8.1 (zEo (g:=g))).2
theorem zcu (f:V):wkC f (wkI 8)=wkC f w0:=rfl
def zcv (g:Nat->Vl) (b:Nat):Bool:=(List.range b).all fun r=>(g r).k
theorem zHy (g:Nat->Vl):zcv g 0=true:=rfl
theorem zHz (g:Nat->Vl) (b:Nat):zcv g (b+1)=(zcv g b&&(g b).k):=by unfold zcv;rw [range_succ,all_append];simp
def whP (s r:Bool) (g:Nat->Vl) (b:Nat):Bool:=s&&r&&zcv g b
theorem zNz (s r:Bool) (g:Nat->Vl):whP s r g 0=(s&&r):=by simp [whP,zHy]
theorem zCc (s r:Bool) (g:Nat->Vl) (b:Nat):whP s r g (b+1)=(whP s r g b&&(g b).k):=by simp [whP,zHz,Bool.and_assoc]
theorem zjo (s r:Bool) (g:Nat->Vl):whP s r g 8=(s&&r&&zYy g):=rfl
def kP (k:Nat) (l:List Ins) (b:Nat):Nat:=k+L5 (l.take b)
theorem zV6 (k:Nat) (l:List Ins):kP k l 0=k:=by simp [kP,L5]
theorem o8 {l:List Ins} {b:Nat} {x:Ins} (h:l[b]?=some x):L5 (l.take (b+1))=L5 (l.take b)+if J8 x then 1 else 0:=by
 unfold L5
 rw [M1 h,countP_append,countP_cons]
 simp
theorem zcw {k:Nat} {l:List Ins} {b:Nat} {x:Ins} (h:l[b]?=some x) (hm:J8 x=true):kP k l (b+1)=kP k l b+1:=by unfold kP;rw [o8 h,if_pos hm];omega
theorem zjp {k:Nat} {l:List Ins} {b:Nat} {x:Ins} (h:l[b]?=some x) (hm:J8 x=false):kP k l (b+1)=kP k l b:=by unfold kP;rw [o8 h,hm];simp
theorem zcx (k:Nat) (l:List Ins):kP k l l.length=k+L5 l:=by unfold kP;rw [take_length]
theorem zjq (k:Nat) (l:List Ins) (b:Nat):kP k l b<=k+l.length:=by
 unfold kP
 have:=J5_ (l.take b)
 rw [length_take] at this;omega
theorem zI0 {m:Nat} {reads:List Vl} {works:List Bool}:∀ (i:Nat) (l:List Ins) (s:Ts),FlOk m s.f->FlOk m (runT reads works i l s).1.f
 | _,[],_,h=>h
 | i,x::l,s,h=>by
  unfold runT
  split
  .exact zI0 (i+1) l _ (Yz_ h)
  exact Yz_ h
theorem Y0_ {m:Nat} {reads:List Vl} {works:List Bool} {l:List Ins} {s:Os'} (h:FlOk m s.f):FlOk m (ZS_ reads works l s).f:=zI0 _ _ _ h
theorem J8_ (n:Nat):FlOk n (f0 n):=⟨by simp [f0],by simp [f0],by simp [f0],by simp [f0],by simp [f0],by simp [f0]⟩
def x9 (t:Tst) (i:Nat):Nat:=((t.ths.drop i).map L5).sum
theorem QR_ {t:Tst} {i:Nat} {l:List Ins} (h:t.ths[i]?=some l):x9 t i=L5 l+x9 t (i+1):=by unfold x9;rw [M3 h];simp
theorem zI1 {t:Tst} {reads:List Vl} {works:List Bool} {i:Nat} {l:List Ins} {s:Os'} (h:t.ths[i]?=some l):Xp_ reads works (t.ths.drop i) s=Xp_ reads works (t.ths.drop (i+1)) (ZS_ reads works l s):=by rw [M3 h,Xp_]
@[go_sem] theorem zQf (l:List (Nat->Vl)):(F3 l).length=l.length:=length_map ..
@[go_sem] theorem zO0 (l:List (Nat->Vl)) (n:Nat):(F3 l).take n=F3 (l.take n):=(map_take ..).symm
theorem Xr_ (l:List (Nat->Vl)) (g:Nat->Vl):F3 l++[V.agg (o5 g)]=F3 (l++[g]):=by simp [F3]
theorem QS_:F3 []=[]:=rfl
@[go_sem] theorem zfw (l:List Int) (n:Nat):(uVs l).take n=uVs (l.take n):=(map_take ..).symm
@[go_sem] theorem zfx (l:List Int) (n:Nat):(iVs l).take n=iVs (l.take n):=(map_take ..).symm
@[go_sem] theorem zfy (l:List Vl) (n:Nat):(vls l).take n=vls (l.take n):=(map_take ..).symm
theorem zEp (l:List Int) (n:Int):uVs l++[uV n]=uVs (l++[n]):=by simp [uVs]
theorem zI2:uVs []=[]:=rfl
theorem zV7 (l:List (Nat->Vl)):NL (.ro 16 (F3 l)):=.ro fun v hv=>by obtain ⟨g,_,rfl⟩:=List.mem_map.1 hv;exact zUw g
theorem Vu_ (s:Os'):NL (.rp s.cs 0):=.rp (.cons (QN_ _) (.cons (zHs _) (.cons (QN_ _) (.cons (Xn_ _) (.cons (Xn_ _) (.cons (Xn_ _) (.cons (Xn_ _) (.cons (zV7 _) (.cons (.val _) .nil)))))))))
theorem zV8 (t:Tst) (ht:t.ths.length<=1000) (hl:∀ x∈t.ths,x.length<=1000) (hok:∀ l∈t.ths,∀ x∈l,InsOk x) (reads:List Vl) (works:List Bool) (hrl:Zw_ t<=reads.length) (hwl:Zw_ t<=works.length):Pf Tryz.prog 112 [.rp t.cs 0,.ro 2 (vls reads),.ro 1 (bVs works)] (.rp (C9 t reads works).cs 0):=by
 refine Pf.of_fz 2 (.cons (u6 t) (.cons (zHs _) (.cons (zQd _) .nil))) (Vu_ _) ?_
 have hmle:Zw_ t<=1000*t.ths.length:=by unfold Zw_;rw [<-ZR_ 0];exact J6_ 0 _ hl
 have hopl:(M5 0 t.ths).length=Zw_ t:=ZR_ 0 _
 have hleft0:x9 t 0=Zw_ t:=by unfold x9 Zw_;rw [drop_zero]
 have hflow:Xp_ reads works (t.ths.drop 0) ⟨f0 (Zw_ t),[],[],true,0⟩=C9 t reads works:=rfl
 generalize Zw_ t=m at *
 have g42:m<=1000000/\(0:Int)<=(m:Nat)/\(8:Int)*(m:Nat)<=281474976710656/\(16:Int)*(m:Nat)<=281474976710656/\(m:Int)<=9223372036854775807:=by and_intros<;>omega
 refine B7 T_ok func112 rfl rfl ntmps112 rfl (by simp) ?_
 refine rG ?_
 refine rK fun K hK=>?_
 simp [go_sem]
 refine A2 (zQe t ht hl) ?_
 simp [go_sem,hopl]
 apply hK
 refine R8 T_ok (by kernel_rfl) 12 [[],[0],[],[2],[],[4],[],[6],[],[8],[],[10],[0,1,2,3,4,5,6,7,8,9,10,11],[0,1,2,3,4,5,6,7,8,9,10,11,12],[0,1,2,3,4,5,6,7,8,9,10,11,12,13]] [(1,2),(0,3),(1,3),(1,4),(3,4),(0,5),(1,5),(2,5),(3,5),(1,6),(3,6),(5,6),(0,7),(1,7),(2,7),(3,7),(4,7),(5,7),(1,8),(3,8),(5,8),(7,8),(0,9),(1,9),(2,9),(3,9),(4,9),(5,9),(6,9),(7,9),(1,10),(3,10),(5,10),(7,10),(9,10),(0,11),(1,11),(2,11),(3,11),(4,11),(5,11),(6,11),(7,11),(8,11),(9,11)] (by decide) (by decide) (by decide) fun K hK=>?_
 first|dsimp only [List.take,List.drop]|dsimp [List.take,List.drop]
 simp [go_sem,g42]
 apply hK
 refine rG ?_
 refine A3 fun K1 hK1=>?_
 refine rG ?_ fun K h=>by simp [go_sem,Tst.cs];exact h
 apply A0
 refine Tr.weaken (Weaker.ghostH (sz:=9) (es:=[.agg [.sl 1 0 m,.sl 3 0 m,.sl 5 0 m,.sl 7 0 m,.sl 9 0 m,.sl 11 0 m,.val (.slice none 0 0),.val (.slice none 0 0),bV true]]) 12 16 [.agg [.sl 1 0 m,.sl 3 0 m,.sl 5 0 m,.sl 7 0 m,.sl 9 0 m,.sl 11 0 m,.val (.slice none 0 0),.sl 13 0 0,bV true]] (by simp [Sl.look]) (by simp) (by simp) (by simp [V.fits,V.cells,V.one]) (by simp only [flatMap_cons,flatMap_nil,V.cells,append_nil];exact .same (.same (.same (.same (.same (.same (.same (.to (.same .nil)))))))))) ?_
 simp only [Sl.put,if_true,if_false,Nat.reduceEqDiff,reduceIte]
 refine Tr.weaken (Weaker.ghostH (sz:=9) (es:=[.agg [.sl 1 0 m,.sl 3 0 m,.sl 5 0 m,.sl 7 0 m,.sl 9 0 m,.sl 11 0 m,.val (.slice none 0 0),.sl 13 0 0,bV true]]) 12 1 [.agg [.sl 1 0 m,.sl 3 0 m,.sl 5 0 m,.sl 7 0 m,.sl 9 0 m,.sl 11 0 m,.sl 14 0 0,.sl 13 0 0,bV true]] (by simp [Sl.look]) (by simp) (by simp) (by simp [V.fits,V.cells,V.one]) (by simp only [flatMap_cons,flatMap_nil,V.cells,append_nil];exact .same (.same (.same (.same (.same (.same (.to (.same (.same .nil)))))))))) ?_
 simp only [Sl.put,if_true,if_false,Nat.reduceEqDiff,reduceIte]
 refine A9 (α:=Nat × Os' × Nat × Nat × Nat) (fun a=>⟨125,[(0,.rp t.cs 0),(1,.ro 2 (vls reads)),(2,.ro 1 (bVs works)),(8,.ptr 12 0 0),(38,.ro 1 (N3 t.ths)),(39,iV (t.ths.length:Nat)),(9,iV (a.2.1.k:Nat)),(40,iV (a.1:Nat))],[(12,.rows 9 [.agg [.sl 1 0 m,.sl 3 0 m,.sl 5 0 m,.sl 7 0 m,.sl 9 0 m,.sl 11 0 m,.sl a.2.2.2.1 0 a.2.1.left.length,.sl a.2.2.2.2 0 a.2.1.regs.length,bV a.2.1.whole]]),(1,.rows 1 (iVs a.2.1.f.state)),(3,.rows 2 (vls a.2.1.f.write)),(5,.rows 1 (iVs a.2.1.f.pair)),(7,.rows 1 (uVs a.2.1.f.place)),(9,.rows 1 (uVs a.2.1.f.value)),(11,.rows 1 (uVs a.2.1.f.path)),(a.2.2.2.1,.rows 1 (uVs a.2.1.left)),(a.2.2.2.2,.rows 16 (F3 a.2.1.regs))],a.2.2.1⟩) (fun a=>a.1<=t.ths.length/\Xp_ reads works (t.ths.drop a.1) a.2.1=C9 t reads works/\FlOk m a.2.1.f/\a.2.1.k+x9 t a.1<=m/\a.2.1.left.length=a.1/\a.2.1.regs.length=a.1/\12<a.2.2.2.1/\12<a.2.2.2.2/\a.2.2.2.1≠a.2.2.2.2/\a.2.2.2.1<a.2.2.1/\a.2.2.2.2<a.2.2.1) (fun a=>t.ths.length-a.1) (0,⟨f0 m,[],[],true,0⟩,15,14,13) ?_ ?_ ?_
 .exact ⟨Nat.zero_le _,hflow,J8_ m,by dsimp only;omega,rfl,rfl,by dsimp only;omega,by dsimp only;omega,by dsimp only;omega,by dsimp only;omega,by dsimp only;omega⟩
 .refine Weaker.fw 1 0 ?_ ?_
  .simp [go_sem,Tst.cs,f0]
  simp [go_sem,f0,zHq,zHr,Xm_,zI2,QS_]
 rintro ⟨i,s,j,rL,rR⟩ ⟨hi,hrun,hfl,hkm,hll,hrl2,hL12,hR12,hLR,hLj,hRj⟩
 dsimp only at hi hrun hfl hkm hll hrl2 hL12 hR12 hLR hLj hRj ⊢
 refine rG ?_
 refine A3 fun K2 hK2=>?_
 refine cJ (fun h=>?_) fun h=>?_
 .simp at h
  obtain rfl:i=t.ths.length:=by omega
  rw [drop_length] at hrun
  replace hrun:s=C9 t reads works:=hrun
  obtain ⟨l1,l2,l3,l4,l5,l6⟩:=id hfl
  have g51:¬ rL=0/\¬ 0=rL/\¬ rL=1/\¬ 1=rL/\¬ rL=2/\¬ 2=rL/\¬ rL=3/\¬ 3=rL/\¬ rL=4/\¬ 4=rL/\¬ rL=5/\¬ 5=rL/\¬ rL=6/\¬ 6=rL/\¬ rL=7/\¬ 7=rL/\¬ rL=8/\¬ 8=rL/\¬ rL=9/\¬ 9=rL/\¬ rL=10/\¬ 10=rL/\¬ rL=11/\¬ 11=rL/\¬ rL=12/\¬ 12=rL/\¬ rR=0/\¬ 0=rR/\¬ rR=1/\¬ 1=rR/\¬ rR=2/\¬ 2=rR/\¬ rR=3/\¬ 3=rR/\¬ rR=4/\¬ 4=rR/\¬ rR=5/\¬ 5=rR/\¬ rR=6/\¬ 6=rR/\¬ rR=7/\¬ 7=rR/\¬ rR=8/\¬ 8=rR/\¬ rR=9/\¬ 9=rR/\¬ rR=10/\¬ 10=rR/\¬ rR=11/\¬ 11=rR/\¬ rR=12/\¬ 12=rR/\¬ j=0/\¬ 0=j/\¬ j=1/\¬ 1=j/\¬ j=2/\¬ 2=j/\¬ j=3/\¬ 3=j/\¬ j=4/\¬ 4=j/\¬ j=5/\¬ 5=j/\¬ j=6/\¬ 6=j/\¬ j=7/\¬ 7=j/\¬ j=8/\¬ 8=j/\¬ j=9/\¬ 9=j/\¬ j=10/\¬ 10=j/\¬ j=11/\¬ 11=j/\¬ j=12/\¬ 12=j/\¬ rL=rR/\¬ rR=rL/\¬ rL=j/\¬ j=rL/\¬ rR=j/\¬ j=rR:=by and_intros<;>omega
  apply A6
  apply hK1
  refine rG ?_
  refine A4 ?_
  have t1:s.f.state.take m=s.f.state:=take_of_length_le (by omega)
  have t2:s.f.write.take m=s.f.write:=take_of_length_le (by omega)
  have t3:s.f.pair.take m=s.f.pair:=take_of_length_le (by omega)
  have t4:s.f.place.take m=s.f.place:=take_of_length_le (by omega)
  have t5:s.f.value.take m=s.f.value:=take_of_length_le (by omega)
  have t6:s.f.path.take m=s.f.path:=take_of_length_le (by omega)
  simp [go_sem,<-hrun,Os'.cs,t1,t2,t3,t4,t5,t6,l1,l2,l3,l4,l5,l6,g51]
 simp at h
 have hI:=h
 clear h
 have h':i<(t.ths).length:=by omega
 obtain ⟨l,hx,hx'⟩:=E0 h'
 have hi0:(0:Int)<=(i:Nat):=by omega
 have hlm:=List.mem_of_getElem? hx
 have hll3:=hl l hlm
 have hst:=QR_ hx
 have htr:s.regs.take i=s.regs:=take_of_length_le (by omega)
 have htl:s.left.take i=s.left:=take_of_length_le (by omega)
 have hw:=wI i
 have g43:¬ rL=0/\¬ 0=rL/\¬ rL=1/\¬ 1=rL/\¬ rL=2/\¬ 2=rL/\¬ rL=3/\¬ 3=rL/\¬ rL=4/\¬ 4=rL/\¬ rL=5/\¬ 5=rL/\¬ rL=6/\¬ 6=rL/\¬ rL=7/\¬ 7=rL/\¬ rL=8/\¬ 8=rL/\¬ rL=9/\¬ 9=rL/\¬ rL=10/\¬ 10=rL/\¬ rL=11/\¬ 11=rL/\¬ rL=12/\¬ 12=rL/\¬ rR=0/\¬ 0=rR/\¬ rR=1/\¬ 1=rR/\¬ rR=2/\¬ 2=rR/\¬ rR=3/\¬ 3=rR/\¬ rR=4/\¬ 4=rR/\¬ rR=5/\¬ 5=rR/\¬ rR=6/\¬ 6=rR/\¬ rR=7/\¬ 7=rR/\¬ rR=8/\¬ 8=rR/\¬ rR=9/\¬ 9=rR/\¬ rR=10/\¬ 10=rR/\¬ rR=11/\¬ 11=rR/\¬ rR=12/\¬ 12=rR/\¬ j=0/\¬ 0=j/\¬ j=1/\¬ 1=j/\¬ j=2/\¬ 2=j/\¬ j=3/\¬ 3=j/\¬ j=4/\¬ 4=j/\¬ j=5/\¬ 5=j/\¬ j=6/\¬ 6=j/\¬ j=7/\¬ 7=j/\¬ j=8/\¬ 8=j/\¬ j=9/\¬ 9=j/\¬ j=10/\¬ 10=j/\¬ j=11/\¬ 11=j/\¬ j=12/\¬ 12=j/\¬ rL=rR/\¬ rR=rL/\¬ rL=j/\¬ j=rL/\¬ rR=j/\¬ j=rR:=by and_intros<;>omega
 apply A1
 apply hK2
 refine A3 fun K3 hK3=>?_
 apply A0
 refine rG ?_ fun K h=>by simp [go_sem,hI,hx,hx',hi0,h',g43];exact h
 refine rK fun K hK=>?_
 simp [go_sem,g43]
 refine ⟨zct rfl,?_⟩
 apply hK
 refine A3 fun K4 hK4=>?_
 refine rG ?_
 apply A0
 refine A9 (α:=Nat) (fun b=>⟨125,[(0,.rp t.cs 0),(1,.ro 2 (vls reads)),(2,.ro 1 (bVs works)),(8,.ptr 12 0 0),(38,.ro 1 (N3 t.ths)),(39,iV (t.ths.length:Nat)),(9,iV (s.k:Nat)),(40,iV (i:Nat)),(11,.ro 13 (W0 l)),(12,.ptr j 0 0),(47,iV (b:Nat))],[(j,.rows 29 [.agg (wkC (.ptr 12 0 0) (wkI b))]),(12,.rows 9 [.agg [.sl 1 0 m,.sl 3 0 m,.sl 5 0 m,.sl 7 0 m,.sl 9 0 m,.sl 11 0 m,.sl rL 0 s.left.length,.sl rR 0 s.regs.length,bV s.whole]]),(1,.rows 1 (iVs s.f.state)),(3,.rows 2 (vls s.f.write)),(5,.rows 1 (iVs s.f.pair)),(7,.rows 1 (uVs s.f.place)),(9,.rows 1 (uVs s.f.value)),(11,.rows 1 (uVs s.f.path)),(rL,.rows 1 (uVs s.left)),(rR,.rows 16 (F3 s.regs))],j+1⟩) (fun b=>b<=8) (fun b=>8-b) 0 ?_ ?_ ?_
 .omega
 .refine Weaker.fw 1 0 ?_ ?_<;>simp [go_sem,g43]
 rintro b hb
 skip
 refine rG ?_
 refine A3 fun K5 hK5=>?_
 refine cK (fun h=>?_) fun h=>?_
 .simp at h
  have hI2:(b:Int)<8:=h
  clear h
  have g44:b<8/\(0:Int)<=(b:Nat):=by and_intros<;>omega
  have hw2:=wI b
  have g45:b*2+2<=16/\1+b*2+1<=29:=by and_intros<;>omega
  apply A1
  apply hK5
  refine A3 fun K6 hK6=>?_
  apply A0
  refine rG ?_
  refine rF ?_ fun K h=>by simp [go_sem,g43,hI2,g44,g45];exact h
  apply hK6
  refine rF ?_ fun K h=>by simp [go_sem,hw2];exact h
  refine ⟨b+1,?_,?_,?_⟩
  .omega
  .omega
  refine Weaker.fw 1 0 ?_ ?_
  .simp [go_sem,g43]
  simp [go_sem,zNy,g43]
 simp at h
 obtain rfl:b=8:=by omega
 apply A6
 apply hK4
 refine zC1 (fun k9=>⟨125,[(0,.rp t.cs 0),(1,.ro 2 (vls reads)),(2,.ro 1 (bVs works)),(8,.ptr 12 0 0),(38,.ro 1 (N3 t.ths)),(39,iV (t.ths.length:Nat)),(9,iV (s.k:Nat)),(40,iV (i:Nat)),(11,.ro 13 (W0 l)),(12,.ptr j 0 0)],[(j,.rows 29 [.agg (wkC (.ptr 12 0 0) (runT reads works 0 l ⟨w0,s.f,0,s.k⟩).1.w)]),(12,.rows 9 [.agg [.sl 1 0 m,.sl 3 0 m,.sl 5 0 m,.sl 7 0 m,.sl 9 0 m,.sl 11 0 m,.sl rL 0 s.left.length,.sl rR 0 s.regs.length,bV (s.whole&&(runT reads works 0 l ⟨w0,s.f,0,s.k⟩).2)]]),(1,.rows 1 (iVs (runT reads works 0 l ⟨w0,s.f,0,s.k⟩).1.f.state)),(3,.rows 2 (vls (runT reads works 0 l ⟨w0,s.f,0,s.k⟩).1.f.write)),(5,.rows 1 (iVs (runT reads works 0 l ⟨w0,s.f,0,s.k⟩).1.f.pair)),(7,.rows 1 (uVs (runT reads works 0 l ⟨w0,s.f,0,s.k⟩).1.f.place)),(9,.rows 1 (uVs (runT reads works 0 l ⟨w0,s.f,0,s.k⟩).1.f.value)),(11,.rows 1 (uVs (runT reads works 0 l ⟨w0,s.f,0,s.k⟩).1.f.path)),(rL,.rows 1 (uVs s.left)),(rR,.rows 16 (F3 s.regs))],k9⟩) (fun k9=>j+1<=k9) ?_ ?_
 .skip
  refine rK fun K hK=>?_
  simp [go_sem,g43,zcu]
  refine D5 (zHw j _ (by omega) (by omega) m (.sl rL 0 s.left.length) (.sl rR 0 s.regs.length) (bV s.whole) w0 s.f hfl l (hok l hlm) (by omega) s.k (by omega) (by omega) reads works hrl hwl) rfl (by simp [g43]) (by simp [go_sem,zcu,g43]) fun k9 hk9=>?_
  have g46:¬ k9=0/\¬ 0=k9/\¬ k9=1/\¬ 1=k9/\¬ k9=2/\¬ 2=k9/\¬ k9=3/\¬ 3=k9/\¬ k9=4/\¬ 4=k9/\¬ k9=5/\¬ 5=k9/\¬ k9=6/\¬ 6=k9/\¬ k9=7/\¬ 7=k9/\¬ k9=8/\¬ 8=k9/\¬ k9=9/\¬ 9=k9/\¬ k9=10/\¬ 10=k9/\¬ k9=11/\¬ 11=k9/\¬ k9=12/\¬ 12=k9/\¬ rL=k9+0/\¬ k9+0=rL/\¬ rL=k9+9/\¬ k9+9=rL/\¬ rL=k9+10/\¬ k9+10=rL/\¬ rL=k9+20/\¬ k9+20=rL/\¬ rL=k9+21/\¬ k9+21=rL/\¬ rR=k9+0/\¬ k9+0=rR/\¬ rR=k9+9/\¬ k9+9=rR/\¬ rR=k9+10/\¬ k9+10=rR/\¬ rR=k9+20/\¬ k9+20=rR/\¬ rR=k9+21/\¬ k9+21=rR/\¬ j=k9+0/\¬ k9+0=j/\¬ j=k9+9/\¬ k9+9=j/\¬ j=k9+10/\¬ k9+10=j/\¬ j=k9+20/\¬ k9+20=j/\¬ j=k9+21/\¬ k9+21=j:=by and_intros<;>omega
  simp [go_sem,g43]
  apply hK
  refine cK (fun h=>?_) fun h=>?_
  .have hR2:(runT reads works 0 l ⟨w0,s.f,0,s.k⟩).2=false:=by simpa using h
   clear h
   refine rF ?_ fun K h=>by simp [go_sem,g43,g46];exact h
   refine ⟨k9,by omega,?_⟩
   refine Weaker.fy 1 0 ?_ ?_<;>simp [go_sem,g43,g46,hR2]
  have hR2:(runT reads works 0 l ⟨w0,s.f,0,s.k⟩).2=true:=by simpa using h
  clear h
  apply A1
  refine ⟨k9,by omega,?_⟩
  refine Weaker.fy 1 0 ?_ ?_<;>simp [go_sem,g43,g46,hR2]
 intro k9 hk9
 have g47:¬ k9=0/\¬ 0=k9/\¬ k9=1/\¬ 1=k9/\¬ k9=2/\¬ 2=k9/\¬ k9=3/\¬ 3=k9/\¬ k9=4/\¬ 4=k9/\¬ k9=5/\¬ 5=k9/\¬ k9=6/\¬ 6=k9/\¬ k9=7/\¬ 7=k9/\¬ k9=8/\¬ 8=k9/\¬ k9=9/\¬ 9=k9/\¬ k9=10/\¬ 10=k9/\¬ k9=11/\¬ 11=k9/\¬ k9=12/\¬ 12=k9/\¬ rL=k9+0/\¬ k9+0=rL/\¬ rL=k9+9/\¬ k9+9=rL/\¬ rL=k9+10/\¬ k9+10=rL/\¬ rL=k9+20/\¬ k9+20=rL/\¬ rL=k9+21/\¬ k9+21=rL/\¬ rR=k9+0/\¬ k9+0=rR/\¬ rR=k9+9/\¬ k9+9=rR/\¬ rR=k9+10/\¬ k9+10=rR/\¬ rR=k9+20/\¬ k9+20=rR/\¬ rR=k9+21/\¬ k9+21=rR/\¬ j=k9+0/\¬ k9+0=j/\¬ j=k9+9/\¬ k9+9=j/\¬ j=k9+10/\¬ k9+10=j/\¬ j=k9+20/\¬ k9+20=j/\¬ j=k9+21/\¬ k9+21=j:=by and_intros<;>omega
 refine R8 T_ok (by kernel_rfl) 11 [[],[],[1],[1,2],[1,2,3],[],[5],[5,6],[5,6,7],[5,6,7,8],[1,2,3,4,5,6,7,8,9],[0,1,2,3,4,5,6,7,8,9,10],[0,1,2,3,4,5,6,7,8,9,10,11],[0,1,2,3,4,5,6,7,8,9,10,11,12]] [(0,9),(1,9),(2,9),(3,9),(4,9),(0,10)] (by decide) (by decide) (by decide) fun K hK=>?_
 first|dsimp only [List.take,List.drop]|dsimp [List.take,List.drop]
 simp [go_sem,g43,g47,hll,hrl2,htr]
 refine ⟨zCb _,by omega,?_⟩
 apply hK
 refine R8 T_ok (by kernel_rfl) 11 [[],[],[1],[1,2],[1,2,3],[],[5],[5,6],[5,6,7],[5,6,7,8],[1,2,3,4,5,6,7,8,9],[0,1,2,3,4,5,6,7,8,9,10],[0,1,2,3,4,5,6,7,8,9,10,11],[0,1,2,3,4,5,6,7,8,9,10,11,12]] [(0,9),(1,9),(2,9),(3,9),(4,9),(0,10)] (by decide) (by decide) (by decide) fun K hK=>?_
 first|dsimp only [List.take,List.drop]|dsimp [List.take,List.drop]
 simp [go_sem,g43,g47,hll,hrl2,htl]
 refine ⟨by omega,?_⟩
 apply hK
 refine A3 fun K7 hK7=>?_
 refine rG ?_ fun K h=>by simp [go_sem,g43,g47];exact h
 apply A0
 refine A9 (α:=Nat × Nat) (fun b=>⟨125,[(0,.rp t.cs 0),(1,.ro 2 (vls reads)),(2,.ro 1 (bVs works)),(8,.ptr 12 0 0),(38,.ro 1 (N3 t.ths)),(39,iV (t.ths.length:Nat)),(9,iV (s.k:Nat)),(40,iV (i:Nat)),(11,.ro 13 (W0 l)),(96,.agg (o5 (runT reads works 0 l ⟨w0,s.f,0,s.k⟩).1.w.regs)),(97,iV (b.1:Nat))],[(12,.rows 9 [.agg [.sl 1 0 m,.sl 3 0 m,.sl 5 0 m,.sl 7 0 m,.sl 9 0 m,.sl 11 0 m,.sl (k9+21) 0 (s.left.length+1),.sl (k9+10) 0 (s.regs.length+1),bV (whP s.whole (runT reads works 0 l ⟨w0,s.f,0,s.k⟩).2 (runT reads works 0 l ⟨w0,s.f,0,s.k⟩).1.w.regs b.1)]]),(1,.rows 1 (iVs (runT reads works 0 l ⟨w0,s.f,0,s.k⟩).1.f.state)),(3,.rows 2 (vls (runT reads works 0 l ⟨w0,s.f,0,s.k⟩).1.f.write)),(5,.rows 1 (iVs (runT reads works 0 l ⟨w0,s.f,0,s.k⟩).1.f.pair)),(7,.rows 1 (uVs (runT reads works 0 l ⟨w0,s.f,0,s.k⟩).1.f.place)),(9,.rows 1 (uVs (runT reads works 0 l ⟨w0,s.f,0,s.k⟩).1.f.value)),(11,.rows 1 (uVs (runT reads works 0 l ⟨w0,s.f,0,s.k⟩).1.f.path)),((k9+21),.rows 1 (uVs (s.left++[(runT reads works 0 l ⟨w0,s.f,0,s.k⟩).1.w.left]))),((k9+10),.rows 16 (F3 (s.regs++[(runT reads works 0 l ⟨w0,s.f,0,s.k⟩).1.w.regs])))],b.2⟩) (fun b=>b.1<=8/\k9+22<=b.2) (fun b=>8-b.1) (0,k9+22) ?_ ?_ ?_
 .dsimp only;omega
 .refine Weaker.fw 1 0 ?_ ?_
  .simp [go_sem,g43,g47]
  intro p hp;simp only [mem_cons,not_mem_nil,or_false] at hp;rcases hp with rfl|rfl|rfl|rfl|rfl|rfl|rfl|rfl|rfl<;>simp [go_sem,zNz,Xr_,zEp,hll,hrl2,g43,g47]
 rintro ⟨b,c⟩ ⟨hb,hc⟩
 dsimp only at hb hc ⊢
 refine rG ?_
 refine A3 fun K8 hK8=>?_
 refine cK (fun h=>?_) fun h=>?_
 .simp at h
  have hI4:(b:Int)<8:=h
  clear h
  have g48:b<8/\(0:Int)<=(b:Nat):=by and_intros<;>omega
  have hw4:=wI b
  have g49:b*2+2<=16/\1+b*2+1<=29/\¬ c=0/\¬ 0=c/\¬ c=1/\¬ 1=c/\¬ c=2/\¬ 2=c/\¬ c=3/\¬ 3=c/\¬ c=4/\¬ 4=c/\¬ c=5/\¬ 5=c/\¬ c=6/\¬ 6=c/\¬ c=7/\¬ 7=c/\¬ c=8/\¬ 8=c/\¬ c=9/\¬ 9=c/\¬ c=10/\¬ 10=c/\¬ c=11/\¬ 11=c/\¬ c=12/\¬ 12=c/\¬ c=j/\¬ j=c/\¬ c=k9+10/\¬ k9+10=c/\¬ c=k9+21/\¬ k9+21=c:=by and_intros<;>omega
  apply A1
  apply hK8
  refine A3 fun K9 hK9=>?_
  apply A0
  refine rG ?_ fun K h=>by simp [go_sem,hI4,g48,g49,g43,g47];exact h
  refine rE fun K hK=>?_
  cases hW:(whP s.whole (runT reads works 0 l ⟨w0,s.f,0,s.k⟩).2 (runT reads works 0 l ⟨w0,s.f,0,s.k⟩).1.w.regs b)
  .simp [go_sem,hW,g43,g47,g49]
   apply hK
   apply hK9
   refine rF ?_ fun K h=>by simp [go_sem,hw4];exact h
   refine ⟨(b+1,c+1),?_,?_,?_⟩
   .dsimp only;omega
   .dsimp only;omega
   refine Weaker.fw 1 0 ?_ ?_
   .simp [go_sem,g43,g47,g49]
   simp [go_sem,zCc,hW,g43,g47,g49]
  simp [go_sem,hW,g43,g47,g49]
  apply hK
  apply hK9
  refine rF ?_ fun K h=>by simp [go_sem,hw4];exact h
  refine ⟨(b+1,c+1),?_,?_,?_⟩
  .dsimp only;omega
  .dsimp only;omega
  refine Weaker.fw 1 0 ?_ ?_
  .simp [go_sem,g43,g47,g49]
  simp [go_sem,zCc,hW,g43,g47,g49]
 simp at h
 obtain rfl:b=8:=by omega
 apply A6
 apply hK7
 refine rG ?_
 apply A0
 refine A9 (α:=Nat × Nat) (fun b=>⟨125,[(0,.rp t.cs 0),(1,.ro 2 (vls reads)),(2,.ro 1 (bVs works)),(8,.ptr 12 0 0),(38,.ro 1 (N3 t.ths)),(39,iV (t.ths.length:Nat)),(112,.ro 13 (W0 l)),(113,iV (l.length:Nat)),(114,iV (b.1:Nat)),(9,iV (kP s.k l b.1:Nat)),(40,iV (i:Nat))],[(12,.rows 9 [.agg [.sl 1 0 m,.sl 3 0 m,.sl 5 0 m,.sl 7 0 m,.sl 9 0 m,.sl 11 0 m,.sl (k9+21) 0 (s.left.length+1),.sl (k9+10) 0 (s.regs.length+1),bV (whP s.whole (runT reads works 0 l ⟨w0,s.f,0,s.k⟩).2 (runT reads works 0 l ⟨w0,s.f,0,s.k⟩).1.w.regs 8)]]),(1,.rows 1 (iVs (runT reads works 0 l ⟨w0,s.f,0,s.k⟩).1.f.state)),(3,.rows 2 (vls (runT reads works 0 l ⟨w0,s.f,0,s.k⟩).1.f.write)),(5,.rows 1 (iVs (runT reads works 0 l ⟨w0,s.f,0,s.k⟩).1.f.pair)),(7,.rows 1 (uVs (runT reads works 0 l ⟨w0,s.f,0,s.k⟩).1.f.place)),(9,.rows 1 (uVs (runT reads works 0 l ⟨w0,s.f,0,s.k⟩).1.f.value)),(11,.rows 1 (uVs (runT reads works 0 l ⟨w0,s.f,0,s.k⟩).1.f.path)),((k9+21),.rows 1 (uVs (s.left++[(runT reads works 0 l ⟨w0,s.f,0,s.k⟩).1.w.left]))),((k9+10),.rows 16 (F3 (s.regs++[(runT reads works 0 l ⟨w0,s.f,0,s.k⟩).1.w.regs])))],b.2⟩) (fun b=>b.1<=l.length/\k9+22<=b.2) (fun b=>l.length-b.1) (0,c) ?_ ?_ ?_
 .dsimp only;omega
 .refine Weaker.fw 1 0 ?_ ?_
  .simp [go_sem,zV6,g43,g47]
  simp [go_sem,g43,g47]
 rintro ⟨b,c6⟩ ⟨hb6,hc6⟩
 dsimp only at hb6 hc6 ⊢
 refine rG ?_
 refine A3 fun K10 hK10=>?_
 refine cJ (fun h=>?_) fun h=>?_
 .simp at h
  obtain rfl:b=l.length:=by omega
  apply A6
  apply hK3
  refine rF ?_ fun K h=>by simp [go_sem,hw];exact h
  refine ⟨(i+1,ZS_ reads works l s,c6,k9+21,k9+10),?_,?_,?_⟩
  .exact ⟨by omega,(zI1 hx).symm.trans hrun,Y0_ hfl,by show s.k+L5 l+x9 t (i+1)<=m;omega,by show (s.left++[_]).length=_;simp [hll],by show (s.regs++[_]).length=_;simp [hrl2],by dsimp only;omega,by dsimp only;omega,by dsimp only;omega,by dsimp only;omega,by dsimp only;omega⟩
  .dsimp only;omega
  refine Weaker.fw 1 0 ?_ ?_
  .simp [go_sem,ZS_,zcx,g43]
  simp [go_sem,ZS_,zjo,g43,g47]
 simp at h
 have hI6:=h
 clear h
 have h'6:b<(l).length:=by omega
 obtain ⟨x,hx6,hx'6⟩:=E0 h'6
 have hi06:(0:Int)<=(b:Nat):=by omega
 have hw6:=wI b
 have g50:¬ c6=0/\¬ 0=c6/\¬ c6=1/\¬ 1=c6/\¬ c6=2/\¬ 2=c6/\¬ c6=3/\¬ 3=c6/\¬ c6=4/\¬ 4=c6/\¬ c6=5/\¬ 5=c6/\¬ c6=6/\¬ 6=c6/\¬ c6=7/\¬ 7=c6/\¬ c6=8/\¬ 8=c6/\¬ c6=9/\¬ 9=c6/\¬ c6=10/\¬ 10=c6/\¬ c6=11/\¬ 11=c6/\¬ c6=12/\¬ 12=c6/\¬ c6=k9+10/\¬ k9+10=c6/\¬ c6=k9+21/\¬ k9+21=c6:=by and_intros<;>omega
 apply A1
 apply hK10
 refine A3 fun K11 hK11=>?_
 apply A0
 refine rG ?_ fun K h=>by simp [go_sem,hI6,hx6,hx'6,hi06,h'6,B6,g43,g47,g50];exact h
 refine rK fun K hK=>?_
 simp [go_sem,B6,g43,g47,g50]
 refine A2 (N5 x) ?_
 simp [go_sem]
 apply hK
 refine cJ (fun h=>?_) fun h=>?_
 .have hm:J8 x=false:=by simpa [J8] using h
  clear h
  apply A1
  apply hK11
  refine rF ?_ fun K h=>by simp [go_sem,hw6];exact h
  refine ⟨(b+1,c6+1),?_,?_,?_⟩
  .dsimp only;omega
  .dsimp only;omega
  refine Weaker.fw 1 0 ?_ ?_
  .simp [go_sem,zjp hx6 hm,g43,g47,g50]
  simp [go_sem,g43,g47,g50]
 have hm:J8 x=true:=h
 clear h
 have hkl:=zjq s.k l b
 have hwk:IntKind.i64.wrap ((kP s.k l b:Nat)+1)=(kP s.k l b:Nat)+1:=E4 (by omega) (by omega)
 refine rF ?_ fun K h=>by simp [go_sem,hwk];exact h
 apply hK11
 refine rF ?_ fun K h=>by simp [go_sem,hw6];exact h
 refine ⟨(b+1,c6+1),?_,?_,?_⟩
 .dsimp only;omega
 .dsimp only;omega
 refine Weaker.fw 1 0 ?_ ?_
 .simp [go_sem,zcw hx6 hm,g43,g47,g50]
 simp [go_sem,g43,g47,g50]
def tab {α:Type} (n:Nat) (f:Nat->α):List α:=(List.range n).map f
section
variable {α:Type} {n:Nat} {f g:Nat->α}
@[go_sem] theorem R6:(tab n f).length=n:=by simp [tab]
theorem W5_ {i:Nat} (h:i<n):(tab n f)[i]?=some (f i):=by simp [tab,List.getElem?_map,List.getElem?_range h]
@[go_sem] theorem zjr {i:Nat} (h:i<(tab n f).length):(tab n f)[i]=f i:=by simp [tab]
theorem zI3 (k:Nat) (x:α):(tab n f).set k x=tab n fun q=>if q=k then x else f q:=by
 apply List.ext_getElem?
 intro i
 by_cases h:i<n
 .rw [W5_ h,List.getElem?_set]
  by_cases e:k=i
  .subst e
   rw [if_pos rfl,if_pos (by rw [R6];exact h),if_pos rfl]
  rw [if_neg e,W5_ h,if_neg (Ne.symm e)]
 rw [List.getElem?_eq_none (by rw [length_set,R6];omega),List.getElem?_eq_none (by rw [R6];omega)]
theorem zV9 (h:∀ q,q<n->f q=g q):tab n f=tab n g:=map_congr_left fun q hq=>h q (List.mem_range.1 hq)
theorem I1 {i:Nat} {d:α} (h:i<n):(tab n f).getD i d=f i:=by simp [List.getD,W5_ h]
end
@[go_sem] theorem zfz (l:List Bool) (n:Nat):(bVs l).take n=bVs (l.take n):=(map_take ..).symm
def le (u v:Vl):Prop:=u.k=true->u=v
theorem le_refl (u:Vl):le u u:=fun _=>rfl
theorem zCd {u v:Vl} (h:le u v):le (u7 u) (u7 v):=fun hk=>by
 unfold u7 at hk ⊢
 by_cases hu:u.k=true
 .rw [h hu]
 rw [if_neg hu] at hk;cases hk
theorem zcy {a b c d:Vl} (h:le a c) (h':le b d):le (zLo a b) (zLo c d):=fun hk=>by
 simp only [zLo,Bool.and_eq_true] at hk ⊢
 rw [h hk.1,h' hk.2]
theorem r9 {α:Type} (l:List α) (k i:Nat) (x d:α):(l.set k x).getD i d=if i=k/\k<l.length then x else l.getD i d:=by
 simp only [List.getD,List.getElem?_set]
 by_cases h:k=i
 .subst h
  by_cases h2:k<l.length
  .simp [h2]
  simp [h2,List.getElem?_eq_none (by omega:l.length<=k)]
 simp [h,Ne.symm h]
def z7 (x:Ins) (works:Bool):Int:=if x.op=14/\works=false then 2 else 1
theorem zVa (x:Ins) (works:Bool):z7 x works≠0:=by unfold z7;split<;>decide
def Y1_ (w:Wk) (x:Ins) (read:Vl) (works:Bool):Option Vl :=
 if x.op=10\/x.op=11 then some (T9 w x.aR x.aN) else if x.op=12 then some (u7 (zLo (T9 w x.aR x.aN) read)) else if x.op=14/\works=true then some (T9 w x.aR x.aN) else none
def zjs (l:List Vl) (k:Nat):Option Vl->List Vl
 | some u=>l.set k u
 | none=>l
theorem zEq (w:Wk) (f:Fl) (x:Ins) (k:Nat) (read:Vl) (works:Bool):(j7 w f x k read works).state=f.state.set k (z7 x works):=by
 unfold j7 z7
 dsimp only
 by_cases h1:x.op=10\/x.op=11
 .rw [if_pos h1,if_neg (by omega)];rfl
 rw [if_neg h1]
 by_cases h2:x.op=12
 .rw [if_pos h2,if_neg (by omega)];rfl
 rw [if_neg h2]
 by_cases h3:x.op=14
 .rw [if_pos h3]
  unfold u9
  cases works
  .simp [N8,h3,set_set]
  simp [N8,h3]
 rw [if_neg h3,if_neg (by omega)];rfl
theorem zEr (w:Wk) (f:Fl) (x:Ins) (k:Nat) (read:Vl) (works:Bool):(j7 w f x k read works).write=zjs f.write k (Y1_ w x read works):=by
 unfold j7 Y1_
 dsimp only
 by_cases h1:x.op=10\/x.op=11
 .rw [if_pos h1,if_pos h1];rfl
 rw [if_neg h1,if_neg h1]
 by_cases h2:x.op=12
 .rw [if_pos h2,if_pos h2];rfl
 rw [if_neg h2,if_neg h2]
 by_cases h3:x.op=14
 .rw [if_pos h3]
  unfold u9
  cases works
  .simp [N8,h3,zjs]
  simp [N8,h3,zjs]
 rw [if_neg h3,if_neg (by omega)];rfl
section
variable {reads reads':List Vl} {works:List Bool} {i:Nat} {x:Ins} {s t:Ts}
theorem zO1:(stepT reads works i x s).k=s.k+if J8 x then 1 else 0:=by
 unfold stepT
 by_cases ho:0<s.out
 .rw [if_pos ho];dsimp only;split<;>rfl
 rw [if_neg ho]
 by_cases h:J8 x=true
 .rw [if_pos h,if_pos h]
 rw [if_neg h,if_neg h];split<;>rfl
end
section
variable {w:Wk} {x:Ins}
end
section
variable {w v:Wk} {x:Ins}
end
section
variable {n i:Nat} {reads reads':List Vl} {works:List Bool} {x:Ins} {s t:Ts}
end
def J9_ (x:Ins):Prop:=(0<=x.aN/\x.aN<18446744073709551616)/\0<=x.bN/\x.bN<18446744073709551616
def Z4_ (t:Tst):Prop:=∀ l∈t.ths,∀ x∈l,J9_ x
theorem zcz {t:Tst} (h:Z4_ t):Z4_ (few t):=fun l hl x hx=>by
 obtain ⟨l',hl',rfl⟩:=List.mem_map.1 hl
 exact h l' (mem_of_mem_take hl') x (mem_of_mem_take hx)
theorem zCe {T:Tst} (h:H5 T=0):T.ths.length<=4/\∀ l∈T.ths,l.length<=8:=by
 have:=M9 (P8.1 h).1
 exact ⟨this.2.1,this.2.2.2.2.1⟩
theorem zCf {T:Tst} (h:H5 T=0) {l:List Ins} (hl:l∈T.ths) {x:Ins} (hx:x∈l):∃ left:Int,left<=8/\N6 T.locs.length left x=0:=by
 have h3:=(P8.1 h).2.2.1
 obtain ⟨i,hi⟩:=List.getElem?_of_mem hl
 have h4:=(Z0_ _ _).1 h3 i l hi
 obtain ⟨j,hj⟩:=List.getElem?_of_mem hx
 have h5:=(Z0_ _ _).1 h4 j x hj
 have:=(zCe h).2 l hl
 exact ⟨_,by omega,h5⟩
theorem zVb {T:Tst} (h:H5 T=0) (hw:Z4_ T):T.ths.length<=1000/\(∀ l∈T.ths,l.length<=1000)/\∀ l∈T.ths,∀ x∈l,InsOk x:=by
 obtain ⟨g1,g2⟩:=zCe h
 refine ⟨by omega,fun l hl=>by have:=g2 l hl;omega,fun l hl x hx=>?_⟩
 obtain ⟨left,h8,he⟩:=zCf h hl hx
 obtain ⟨_,e2,_,_,_,_,e7⟩:=x5.1 he
 obtain ⟨⟨w1,_⟩,w2,_⟩:=hw l hl x hx
 simp only [zBu,Bool.or_eq_false_iff,decide_eq_false_iff_not] at e2
 simp only [zNb,Bool.or_eq_false_iff,decide_eq_false_iff_not] at e7
 obtain ⟨a1,a2,a3,a4,a5,a6⟩:=e2
 refine ⟨by omega,by omega,fun hr=>⟨w1,?_⟩,fun hr=>⟨w2,?_⟩,by omega,by omega⟩
 .simp only [Yg_,hr,Bool.not_true,Bool.false_or,Bool.not_eq_false',decide_eq_true_eq] at a3;exact a3
 simp only [Yg_,hr,Bool.not_true,Bool.false_or,Bool.not_eq_false',decide_eq_true_eq] at a4;exact a4
theorem zO2:ImpAs Tryz.prog 61 J9_ Ins.cs :=
 ImpAs.to (fun p:Int × Int × Int × (Bool × Int) × (Bool × Int) × Bool × Bool × Int × Int × Int × Int=>⟨p.1,p.2.1,p.2.2.1,p.2.2.2.1.1,p.2.2.2.1.2,p.2.2.2.2.1.1,p.2.2.2.2.1.2,p.2.2.2.2.2.1,p.2.2.2.2.2.2.1,p.2.2.2.2.2.2.2.1,p.2.2.2.2.2.2.2.2.1,p.2.2.2.2.2.2.2.2.2.1,p.2.2.2.2.2.2.2.2.2.2⟩)
  (X3 (tot:=13) Tryz.underlying61 (by kernel_rfl) (F9 rfl (o':=1) (by kernel_rfl) iI (F9 rfl (o':=2) (by kernel_rfl) iI (F9 rfl (o':=3) (by kernel_rfl) iI (F9 rfl (o':=5) (by kernel_rfl) zHe (F9 rfl (o':=7) (by kernel_rfl) zHe (F9 rfl (o':=8) (by kernel_rfl) iB (F9 rfl (o':=9) (by kernel_rfl) iB (F9 rfl (o':=10) (by kernel_rfl) iI (F9 rfl (o':=11) (by kernel_rfl) iI (F9 rfl (o':=12) (by kernel_rfl) iI (l7 rfl (by kernel_rfl) iI))))))))))))
  (fun p h=>by
   have h1:=bounds_u64 h.2.2.2.1.2
   have h2:=bounds_u64 h.2.2.2.2.1.2
   exact ⟨⟨h1.1,by have:=h1.2;dsimp only;omega⟩,h2.1,by have:=h2.2;dsimp only;omega⟩) (fun p _=>SeenAll.refl _) m8 (fun _=>rfl) (fun _=>by kernel_rfl)
theorem QT_:ImpAs Tryz.prog 53 (fun l:List Ins=>l.length<=maxLen/\∀ a∈l,J9_ a) fun l=>[V.ro 13 (W0 l)]:=Yy_ B6 Tryz.underlying53 (by kernel_rfl) (by kernel_rfl) (by omega) (fun _=>rfl) m8 zO2
theorem zI4:ImpAs Tryz.prog 23 (fun l:List (List Ins)=>l.length<=maxLen/\∀ a∈l,a.length<=maxLen/\∀ b∈a,J9_ b) fun l=>[V.ro 1 (N3 l)] :=
 Yy_ (fun x=>.ro 13 (W0 x)) Tryz.underlying23 (by kernel_rfl) (by kernel_rfl) (by omega) (fun _=>rfl) (fun x=>.cons (zH4 x) .nil) QT_
theorem zO3:ImpAs Tryz.prog 26 (fun t=>zcf t/\Z4_ t) Tst.cs :=
 ImpAs.to (fun p:List Ini × List (List Ins) × List Atm=>⟨p.1,p.2.1,p.2.2⟩)
  (X3 (tot:=3) Tryz.underlying26 (by kernel_rfl) (F9 rfl (o':=1) (by kernel_rfl) zNk (F9 rfl (o':=2) (by kernel_rfl) zI4 (l7 rfl (by kernel_rfl) zNl))))
  (fun p h=>⟨h.1.2,fun l hl x hx=>(h.2.1.2 l hl).2 x hx⟩) (fun p _=>SeenAll.refl _) YQ_ (fun _=>rfl) (fun _=>by kernel_rfl)
def stK:List Int->List V
 | []=>[]
 | n::r=>iV n::r.map uV
def zI5:List EK:=List.replicate 41 .int
theorem W4 (k:List Int):(stK k).length=k.length:=by cases k<;>simp [stK]
theorem zd0:∀ (a b:List Int) (m:Nat),a.length=m->b.length=m->E3 (List.replicate m .int) (a.map uV) (b.map uV)=some (decide (a=b))
 | [],[],_,h,_=>by subst h;rfl
 | [],_::_,m,h,h'=>by subst h;cases h'
 | _::_,[],m,h,h'=>by subst h';cases h
 | x::a,y::b,0,h,_=>by cases h
 | x::a,y::b,m+1,h,h'=>by
  have:=zd0 a b m (by simpa using h) (by simpa using h')
  simp only [map_cons,replicate_succ,E3,this,if_true,Option.map_some,Option.some.injEq,List.cons.injEq]
  rw [Bool.eq_iff_iff];simp
theorem QU_ {a b:List Int} (h:a.length=41) (h':b.length=41):E3 zI5 (stK a) (stK b)=some (decide (a=b)):=by
 cases a with
 | nil=>cases h
 | cons x a =>
  cases b with
  | nil=>cases h'
  | cons y b =>
   have:=zd0 a b 40 (by simpa using h) (by simpa using h')
   show E3 (.int::List.replicate 40 .int) (iV x::a.map uV) (iV y::b.map uV)=_
   simp only [E3,this,if_true,Option.map_some,Option.some.injEq,List.cons.injEq]
   rw [Bool.eq_iff_iff];simp
def M4 (l:List (List Int)):List (V × V):=l.map fun k=>(.agg (stK k),bV true)
theorem Y1 (l:List (List Int)):(M4 l).length=l.length:=length_map ..
theorem zI6 {k:List Int} (hk:k.length=41):∀ {l:List (List Int)},(∀ q∈l,q.length=41)->Ye_ zI5 (stK k) (M4 l)=some (if k∈l then some (bV true) else none)
 | [],_=>rfl
 | q::l,h=>by
  have ih:=zI6 hk (l:=l) fun r hr=>h r (by simp [hr])
  have e:=QU_ hk (h q (by simp))
  unfold M4 at ih ⊢
  simp only [map_cons,Ye_]
  rw [e]
  by_cases hq:k=q
  .subst hq;simp
  simp [hq,ih]
theorem Y2_ {k:List Int} (hk:k.length=41):∀ {l:List (List Int)},(∀ q∈l,q.length=41)->Us_ zI5 (stK k) (bV true) (M4 l)=some (M4 (if k∈l then l else l++[k]))
 | [],_=>by simp [M4,Us_]
 | q::l,h=>by
  have ih:=Y2_ hk (l:=l) fun r hr=>h r (by simp [hr])
  have e:=QU_ hk (h q (by simp))
  unfold M4 at ih ⊢
  simp only [map_cons,Us_]
  rw [e]
  by_cases hq:k=q
  .subst hq;simp
  by_cases hm:k∈l
  .simp [hq,ih,hm]
  simp [hq,ih,hm]
def ZV_ (a b:Int):Int:=if a<b then -1 else if b<a then 1 else 0
def s0:List Int->List Int->Int
 | [],[]=>0
 | [],_::_=>-1
 | _::_,[]=>1
 | a::r,b::s=>if ZV_ a b=0 then s0 r s else ZV_ a b
def ltL (a b:List Int):Bool:=decide (s0 a b<0)
theorem zI7 (a:Int):ZV_ a a=0:=by simp [ZV_]
theorem Y2 {a b:Int}:ZV_ a b=0↔a=b:=by unfold ZV_;(repeat' split)<;>omega
theorem Vv_ {a b:Int}:ZV_ a b<0↔a<b:=by unfold ZV_;(repeat' split)<;>omega
theorem zI8 (a b:Int):ZV_ b a=- ZV_ a b:=by unfold ZV_;(repeat' split)<;>omega
theorem Xs_:∀ a:List Int,s0 a a=0
 | []=>rfl
 | a::r=>by simp [s0,zI7,Xs_ r]
theorem Xt_:∀ {a b:List Int},s0 a b=0->a=b
 | [],[],_=>rfl
 | [],_::_,h=>by simp [s0] at h
 | _::_,[],h=>by simp [s0] at h
 | a::r,b::s,h=>by
  unfold s0 at h
  split at h
  .rename_i h1;rw [Y2.1 h1,Xt_ h]
  rename_i h1;exact absurd h h1
theorem QV_:∀ a b:List Int,s0 b a=- s0 a b
 | [],[]=>rfl
 | [],_::_=>rfl
 | _::_,[]=>rfl
 | a::r,b::s=>by
  unfold s0
  rw [zI8 a b,QV_ r s]
  by_cases h:ZV_ a b=0
  .rw [if_pos h,if_pos (by omega)]
  rw [if_neg h,if_neg (by omega)]
theorem W6_:∀ {a b c:List Int},s0 a b<0->s0 b c<0->s0 a c<0
 | [],b,[],h,h'=>by cases b<;>simp [s0] at h h'
 | [],_,_::_,_,_=>by simp [s0]
 | _::_,[],c,h,h'=>by simp [s0] at h
 | _::_,_::_,[],h,h'=>by simp [s0] at h'
 | a::r,b::s,c::u,h,h'=>by
  unfold s0 at h h' ⊢
  by_cases e1:ZV_ a b=0
  .rw [if_pos e1] at h
   have:=Y2.1 e1;subst this
   by_cases e2:ZV_ a c=0
   .rw [if_pos e2] at h' ⊢;exact W6_ h h'
   rw [if_neg e2] at h' ⊢;exact h'
  rw [if_neg e1] at h
  by_cases e2:ZV_ b c=0
  .have:=Y2.1 e2;subst this
   rw [if_neg e1];exact h
  rw [if_neg e2] at h'
  have h1:=Vv_.1 h
  have h2:=Vv_.1 h'
  have h3:a<c:=by omega
  rw [if_neg (fun h=>by have:=Y2.1 h;omega)]
  exact Vv_.2 h3
theorem Y3 {a b c:List Int} (h:ltL a b=true) (h':ltL b c=true):ltL a c=true:=by
 unfold ltL at *
 simp only [decide_eq_true_eq] at *
 exact W6_ h h'
theorem Xu_ (a:List Int):ltL a a=false:=by simp [ltL,Xs_]
theorem Xv_ {a b:List Int} (h:ltL a b=false) (h':ltL b a=false):a=b:=by
 unfold ltL at *
 simp only [decide_eq_false_iff_not] at *
 have:=QV_ a b
 exact Xt_ (by omega)
def R9 (l:List (List Int)):Prop:=l.Pairwise fun a b=>ltL a b=true
theorem QW_:∀ {l m:List (List Int)},R9 l->R9 m->(∀ x,x∈l↔x∈m)->l=m
 | [],[],_,_,_=>rfl
 | [],y::m,_,_,h=>by have:=(h y).2 (by simp);simp at this
 | x::l,[],_,_,h=>by have:=(h x).1 (by simp);simp at this
 | x::l,y::m,hl,hm,h=>by
  obtain ⟨h1,h2⟩:=List.pairwise_cons.1 hl
  obtain ⟨h3,h4⟩:=List.pairwise_cons.1 hm
  have hxy:x=y:=by
   rcases List.mem_cons.1 ((h x).1 (by simp)) with e|e
   .exact e
   rcases List.mem_cons.1 ((h y).2 (by simp)) with e'|e'
   .exact e'.symm
   have:=Y3 (h1 y e') (h3 x e)
   rw [Xu_] at this;cases this
  subst hxy
  congr 1
  refine QW_ h2 h4 fun z=>⟨fun hz=>?_,fun hz=>?_⟩
  .rcases List.mem_cons.1 ((h z).1 (by simp [hz])) with e|e
   .subst e;have:=h1 z hz;rw [Xu_] at this;cases this
   exact e
  rcases List.mem_cons.1 ((h z).2 (by simp [hz])) with e|e
  .subst e;have:=h3 z hz;rw [Xu_] at this;cases this
  exact e
def zFo (x:List Int):List (List Int)->List (List Int)
 | []=>[x]
 | y::l=>if ltL x y then x::y::l else if x=y then y::l else y::zFo x l
def J4 (l:List (List Int)):List (List Int):=l.foldr zFo []
theorem Vw_ {x z:List Int}:∀ {l:List (List Int)},z∈zFo x l↔z=x\/z∈l
 | []=>by simp [zFo]
 | y::l=>by
  unfold zFo
  split
  .simp
  split
  .rename_i h;subst h;simp
  rw [mem_cons,Vw_,mem_cons]
  constructor
  .rintro (h|h|h)<;>simp [h]
  rintro (h|h|h)<;>simp [h]
theorem Xw_ {x:List Int}:∀ {l:List (List Int)},R9 l->R9 (zFo x l)
 | [],_=>by simp [zFo,R9]
 | y::l,h=>by
  obtain ⟨h1,h2⟩:=List.pairwise_cons.1 h
  unfold zFo
  split
  .rename_i hxy
   refine List.pairwise_cons.2 ⟨fun z hz=>?_,h⟩
   rcases List.mem_cons.1 hz with rfl|hz
   .exact hxy
   exact Y3 hxy (h1 z hz)
  rename_i hxy
  split
  .exact h
  rename_i hne
  refine List.pairwise_cons.2 ⟨fun z hz=>?_,Xw_ h2⟩
  rcases Vw_.1 hz with rfl|hz
  .cases hyx:ltL y z
   .exact absurd (Xv_ (by simpa using hxy) hyx) hne
   rfl
  exact h1 z hz
theorem mem_setOf {x:List Int}:∀ {l:List (List Int)},x∈J4 l↔x∈l
 | []=>by simp [J4]
 | y::l=>by
  show x∈zFo y (J4 l)↔_
  rw [Vw_,mem_setOf,mem_cons]
theorem H6:∀ l:List (List Int),R9 (J4 l)
 | []=>List.Pairwise.nil
 | y::l=>Xw_ (H6 l)
theorem zCg {l m:List (List Int)} (hl:R9 l) (h:∀ x,x∈l↔x∈m):l=J4 m:=QW_ hl (H6 m) fun x=>(h x).trans mem_setOf.symm
theorem zA0 {l m:List (List Int)} (h:∀ x,x∈l↔x∈m):J4 l=J4 m:=zCg (H6 l) fun x=>mem_setOf.trans (h x)
theorem zVc (l:List Int):NLs (uVs l):=fun v hv=>by obtain ⟨a,_,rfl⟩:=List.mem_map.1 hv;exact .val _
theorem zd1 (l:List Int):(uVs l).all V.one=true:=by simp [uVs,V.one]
theorem zd2 (l:List Int) (S:List Nat) (H:A7) (d:Nat):(uVs l).map (frz S H d)=uVs l:=by
 unfold uVs;rw [map_map];exact map_congr_left fun x _=>Vp_
@[go_sem] theorem zg0 (l:List Int) (n:Nat):(uVs l).drop n=uVs (l.drop n):=(map_drop ..).symm
theorem W7_ (k:List Int):NLs (stK k):=by
 cases k with
 | nil=>exact .nil
 | cons n r=>exact .cons (.val _) (zVc r)
theorem Vx_ (n:Int) (r:List Int):stK (n::r)=iV n::uVs r:=rfl
theorem QX_ (a b:Int) (r s:List Int):s0 (a::r) (b::s)=if ZV_ a b=0 then s0 r s else ZV_ a b:=rfl
theorem zCh {a b:List Int} {i:Nat} {x y:Int} (hx:a[i]?=some x) (hy:b[i]?=some y):s0 (a.drop i) (b.drop i)=if ZV_ x y=0 then s0 (a.drop (i+1)) (b.drop (i+1)) else ZV_ x y:=by
 rw [M3 hx,M3 hy];rfl
theorem ZW_ (a:Int):Pf Tryz.prog 189 [iV a] (bV false):=by
 refine Pf.of_fn (.cons (.val _) .nil) (.val _) ?_
 refine B7 T_ok func189 rfl rfl ntmps189 rfl (by simp) ?_
 refine rG ?_
 refine rG ?_
 refine A4 ?_
 simp [go_sem]
theorem zI9 (a b:Int):Pf Tryz.prog 150 [iV a,iV b] (iV (ZV_ a b)):=by
 refine Pf.of_fn (.cons (.val _) (.cons (.val _) .nil)) (.val _) ?_
 refine B7 T_ok func150 rfl rfl ntmps150 rfl (by simp) ?_
 refine rG ?_
 refine rK fun K hK=>?_
 simp [go_sem]
 refine A2 (ZW_ a) ?_
 simp [go_sem]
 apply hK
 refine rK fun K hK=>?_
 simp [go_sem]
 refine A2 (ZW_ b) ?_
 simp [go_sem]
 apply hK
 refine A3 fun K1 hK1=>?_
 refine rG ?_
 refine cK (fun h=>?_) fun h=>?_
 .simp at h
 clear h
 apply A1
 apply hK1
 refine A3 fun K2 hK2=>?_
 refine rG ?_
 refine cK (fun h=>?_) fun h=>?_
 .simp at h
 clear h
 apply A1
 apply hK2
 refine A3 fun K3 hK3=>?_
 refine rG ?_
 refine cK (fun h=>?_) fun h=>?_
 .have h1:a<b:=by simpa using h
  refine rG ?_
  refine A4 ?_
  simp [go_sem,ZV_,h1]
 have h1:¬ a<b:=by simpa using h
 apply A1
 apply hK3
 refine A3 fun K4 hK4=>?_
 refine rG ?_
 refine cK (fun h=>?_) fun h=>?_
 .have h2:b<a:=by simpa using h
  refine rG ?_
  refine A4 ?_
  simp [go_sem,ZV_,h1,h2]
 have h2:¬ b<a:=by simpa using h
 apply A1
 apply hK4
 refine rG ?_
 refine A4 ?_
 simp [go_sem,ZV_,h1,h2]
theorem ZX_ (a:Int):Pf Tryz.prog 211 [uV a] (bV false):=by
 refine Pf.of_fn (.cons (.val _) .nil) (.val _) ?_
 refine B7 T_ok func211 rfl rfl ntmps211 rfl (by simp) ?_
 refine rG ?_
 refine rG ?_
 refine A4 ?_
 simp [go_sem]
theorem zIa (a b:Int):Pf Tryz.prog 190 [uV a,uV b] (iV (ZV_ a b)):=by
 refine Pf.of_fn (.cons (.val _) (.cons (.val _) .nil)) (.val _) ?_
 refine B7 T_ok func190 rfl rfl ntmps190 rfl (by simp) ?_
 refine rG ?_
 refine rK fun K hK=>?_
 simp [go_sem]
 refine A2 (ZX_ a) ?_
 simp [go_sem]
 apply hK
 refine rK fun K hK=>?_
 simp [go_sem]
 refine A2 (ZX_ b) ?_
 simp [go_sem]
 apply hK
 refine A3 fun K1 hK1=>?_
 refine rG ?_
 refine cK (fun h=>?_) fun h=>?_
 .simp at h
 clear h
 apply A1
 apply hK1
 refine A3 fun K2 hK2=>?_
 refine rG ?_
 refine cK (fun h=>?_) fun h=>?_
 .simp at h
 clear h
 apply A1
 apply hK2
 refine A3 fun K3 hK3=>?_
 refine rG ?_
 refine cK (fun h=>?_) fun h=>?_
 .have h1:a<b:=by simpa using h
  refine rG ?_
  refine A4 ?_
  simp [go_sem,ZV_,h1]
 have h1:¬ a<b:=by simpa using h
 apply A1
 apply hK3
 refine A3 fun K4 hK4=>?_
 refine rG ?_
 refine cK (fun h=>?_) fun h=>?_
 .have h2:b<a:=by simpa using h
  refine rG ?_
  refine A4 ?_
  simp [go_sem,ZV_,h1,h2]
 have h2:¬ b<a:=by simpa using h
 apply A1
 apply hK4
 refine rG ?_
 refine A4 ?_
 simp [go_sem,ZV_,h1,h2]
theorem QY_ (a b:List Int) (ha:a.length<=1000000) (hb:b.length<=1000000):Pf Tryz.prog 151 [.ro 1 (uVs a),.ro 1 (uVs b)] (iV (s0 a b)):=by
 refine Pf.of_fn (.cons (Xn_ _) (.cons (Xn_ _) .nil)) (.val _) ?_
 refine B7 T_ok func151 rfl rfl ntmps151 rfl (by simp) ?_
 refine rG ?_
 refine A3 fun K1 hK1=>?_
 refine rG ?_
 apply A0
 refine A9 (α:=Nat) (fun i=>⟨36,[(1,.ro 1 (uVs b)),(9,.ro 1 (uVs a)),(10,iV (a.length:Nat)),(0,.ro 1 (uVs a)),(11,iV (i:Nat))],[],0⟩) (fun i=>i<=a.length/\i<=b.length/\s0 (a.drop i) (b.drop i)=s0 a b) (fun i=>a.length-i) 0 ?_ ?_ ?_
 .exact ⟨Nat.zero_le _,Nat.zero_le _,rfl⟩
 .refine Weaker.fw 1 0 ?_ ?_<;>simp [go_sem]
 rintro i ⟨hi,hj,hc⟩
 skip
 refine rG ?_
 refine A3 fun K2 hK2=>?_
 refine cJ (fun h=>?_) fun h=>?_
 .simp at h
  obtain rfl:i=a.length:=by omega
  apply A6
  apply hK1
  refine A3 fun K5 hK5=>?_
  refine rG ?_
  refine cK (fun h=>?_) fun h=>?_
  .have hl:a.length<b.length:=by simpa using h
   refine rG ?_
   refine A4 ?_
   rw [<-hc,drop_length]
   obtain ⟨y,hy,_⟩:=E0 hl
   rw [M3 hy]
   simp [go_sem,s0]
  have hl:¬ a.length<b.length:=by simpa using h
  have hab:a.length=b.length:=by omega
  apply A1
  apply hK5
  refine rG ?_
  refine A4 ?_
  rw [<-hc,drop_length,hab,drop_length]
  simp [go_sem,s0]
 simp at h
 have hI:(i:Int)<(a.length:Nat):=by omega
 have h':i<a.length:=by omega
 clear h
 obtain ⟨x,hx,hx'⟩:=E0 h'
 have hi0:(0:Int)<=(i:Nat):=by omega
 have hw:=wI i
 apply A1
 apply hK2
 refine A3 fun K3 hK3=>?_
 apply A0
 refine rG ?_ fun K h=>by simp [go_sem,hI,hi0,h',hx,hx'];exact h
 refine A3 fun K4 hK4=>?_
 refine rG ?_
 refine cK (fun h=>?_) fun h=>?_
 .simp at h
  obtain rfl:i=b.length:=by omega
  refine rG ?_
  refine A4 ?_
  rw [<-hc,M3 hx,drop_length]
  simp [go_sem,s0]
 simp at h
 have hJ:(i:Int)<(b.length:Nat):=by omega
 have j':i<b.length:=by omega
 clear h
 obtain ⟨y,hy,hy'⟩:=E0 j'
 apply A1
 apply hK4
 refine rG ?_ fun K h=>by simp [go_sem,hJ,hi0,j',hy,hy'];exact h
 refine rK fun K hK=>?_
 simp [go_sem]
 refine A2 (zIa x y) ?_
 simp [go_sem]
 apply hK
 refine rG ?_
 refine cK (fun h=>?_) fun h=>?_
 .have h0:¬ ZV_ x y=0:=by simpa using h
  refine rG ?_
  refine A4 ?_
  rw [<-hc,zCh hx hy,if_neg h0]
  simp [go_sem]
 have h0:ZV_ x y=0:=by simpa using h
 apply A1
 apply hK3
 refine rF ?_ fun K h=>by simp [go_sem,hw];exact h
 refine ⟨i+1,?_,?_,?_⟩
 .exact ⟨by omega,by omega,by rw [<-hc,zCh hx hy,if_pos h0]⟩
 .omega
 refine Weaker.fw 1 0 ?_ ?_<;>simp [go_sem]
theorem Z5_ (a b:List Int) (ha:a.length=41) (hb:b.length=41):Pf Tryz.prog 108 [.agg (stK a),.agg (stK b)] (iV (s0 a b)):=by
 obtain ⟨m,r,rfl⟩:∃ m r,a=m::r:=by cases a with|nil=>cases ha|cons m r=>exact ⟨m,r,rfl⟩
 obtain ⟨n,s,rfl⟩:∃ n s,b=n::s:=by cases b with|nil=>cases hb|cons n s=>exact ⟨n,s,rfl⟩
 have hr:r.length=40:=by simpa using ha
 have hs:s.length=40:=by simpa using hb
 rw [Vx_,Vx_]
 refine Pf.of_fn (.cons (.agg (.cons (.val _) (zVc r))) (.cons (.agg (.cons (.val _) (zVc s))) .nil)) (.val _) ?_
 refine B7 T_ok func108 rfl rfl ntmps108 rfl (by simp) ?_
 refine rG ?_ fun K h=>by simp [go_sem,hr,hs,zd1];exact h
 refine A3 fun K1 hK1=>?_
 refine rG ?_
 refine cK (fun h=>?_) fun h=>?_
 .have h0:¬ m=n:=by simpa using h
  refine rK fun K hK=>?_
  simp [go_sem]
  refine A2 (zI9 m n) ?_
  simp [go_sem]
  apply hK
  refine A4 ?_
  simp [go_sem,QX_,Y2,h0]
 have h0:m=n:=by simpa using h
 apply A1
 apply hK1
 refine dK 4 [[],[0],[],[2],[0,1,2,3],[0,1,2,3,4]] fun K hK=>?_
 first|dsimp only [List.take,List.drop]|dsimp [List.take,List.drop]
 simp [go_sem,hr,hs]
 refine zHk [] [.ro 1 (uVs r),.ro 1 (uVs s)] 1 0 (QY_ r s (by omega) (by omega)) (by simp [go_sem,hr,hs,take_of_length_le,zd2]) (by simp) (by simp) ?_
 simp [go_sem]
 apply hK
 refine A4 ?_
 simp [go_sem,QX_,Y2,h0]
@[go_sem] theorem zg1 (l:List Nat) (i:Nat) (h:i<(Q3 l).length):(Q3 l)[i]=iV (l[i]'(by simpa [Q3] using h):Nat):=by simp [Q3]
theorem zd3 (l:List Nat):NL (.ro 1 (Q3 l)):=.ro fun v hv=>by obtain ⟨a,_,rfl⟩:=List.mem_map.1 hv;exact .cons (.val _) .nil
theorem zCi (n:Nat) (h:n<18446744073709551616):IntKind.u64.wrap ((n:Nat):Int)=n:=w64 n h
theorem zVd {a b:Nat} (ha:a<18446744073709551616) (hb:b<18446744073709551616):n64 (a:Int) b=((a &&& b:Nat):Int):=by
 unfold n64
 rw [zb4 ha hb,zCi _ (Nat.lt_of_le_of_lt Nat.and_le_left ha)]
theorem zVe {a b:Nat} (ha:a<18446744073709551616) (hb:b<18446744073709551616):o64 (a:Int) b=((a ||| b:Nat):Int):=by
 unfold o64
 rw [zke ha hb,zCi _ (Nat.or_lt_two_pow (n:=64) ha hb)]
theorem zO4 {a n:Nat} (hn:n<64):Z1_ (a:Int) n=(((a <<< n) % 18446744073709551616:Nat):Int):=by
 unfold Z1_
 rw [show min ((n:Int)).toNat 64=n by simp;omega,Nat.shiftLeft_eq]
 have e:(a:Int)*2 ^ n=((a*2 ^ n:Nat):Int):=by simp
 rw [e]
 simp only [IntKind.wrap,IntKind.bits,IntKind.signed,Bool.false_eq_true,if_false]
 show ((a*2 ^ n:Nat):Int) % ((2 ^ 64:Nat):Int)=_
 rw [<-Int.natCast_emod]
theorem zO5 {a n:Nat} (hn:n<64):zNo (a:Int) n=((a >>> n:Nat):Int):=by
 unfold zNo
 rw [show min ((n:Int)).toNat 64=n by simp;omega,Nat.shiftRight_eq_div_pow,show ((2:Int) ^ n)=((2 ^ n:Nat):Int) by simp,Int.fdiv_eq_ediv_of_nonneg _ (Int.natCast_nonneg _)]
 simp
def c4 (op:Int) (s:Nat):Nat:=if op=4 then s % 2 else s
def c5 (op:Int) (s:Nat):Nat:=if op=5 then s / 2 else s
def c6 (op:Int) (s:Nat):Nat:=if op=6 then (if 1<s then 1 else s) else s
abbrev Slo:=Int × Int
def zjt (p:Slo):V:=.agg [iV p.1,iV p.2]
def Vy_ (l:List Slo):List V:=l.map zjt
def slI (i:Nat) (l:List Ins):List Slo:=(Xe_ (WS_ l) 8).map fun r:Nat=>((i:Int),(r:Int))
def slT:Nat->List (List Ins)->List Slo
 | _,[]=>[]
 | i,l::r=>slI i l++slT (i+1) r
def slL (n:Nat):List Slo:=(List.range n).map fun i:Nat=>(-1,(i:Int))
def S0 (t:Tst):List Slo:=slT 0 t.ths++slL t.locs.length
theorem W8_:∀ (i:Nat) (l l':List (List Ins)),slT i (l++l')=slT i l++slT (i+l.length) l'
 | i,[],l'=>by simp [slT]
 | i,x::l,l'=>by
  have:=W8_ (i+1) l l'
  have e:i+1+l.length=i+(l.length+1):=by omega
  simp only [cons_append,slT,this,length_cons,e,append_assoc]
def slO (t:List (List Ins)) (i:Nat):List Slo:=slT 0 (t.take i)
def slP (t:List (List Ins)) (i:Nat) (l:List Ins) (b:Nat):List Slo:=slO t i++((Xe_ (WS_ l) 8).take b).map fun r:Nat=>((i:Int),(r:Int))
def slQ (t:Tst) (b:Nat):List Slo:=slT 0 t.ths++slL b
theorem zCj (t:List (List Ins)):slO t 0=[]:=rfl
theorem zIb (t:Tst):slO t.ths t.ths.length=slQ t 0:=by unfold slO slQ;rw [take_length];simp [slL]
theorem zO6 (t:List (List Ins)) (i:Nat) (l:List Ins):slP t i l 0=slO t i:=by simp [slP]
theorem zCk {t:List (List Ins)} {i:Nat} {l:List Ins} {b r:Nat} (h:(Xe_ (WS_ l) 8)[b]?=some r):slP t i l (b+1)=slP t i l b++[((i:Int),(r:Int))]:=by
 unfold slP;rw [M1 h];simp
theorem zVf {t:List (List Ins)} {i:Nat} {l:List Ins} (h:t[i]?=some l):slP t i l (Xe_ (WS_ l) 8).length=slO t (i+1):=by
 have hb:(t.take i).length=i:=by rw [length_take];have:=(List.getElem?_eq_some_iff.1 h).1;omega
 unfold slP slO
 rw [M1 h,W8_,hb,take_length]
 simp [slT,slI]
theorem zCl (t:Tst) (b:Nat):slQ t (b+1)=slQ t b++[(-1,(b:Int))]:=by simp [slQ,slL,range_succ]
theorem zVg (t:Tst):slQ t t.locs.length=S0 t:=rfl
theorem zVh (i:Nat) (l:List Ins):(slI i l).length<=8:=by unfold slI;rw [length_map];exact Yv_ _ _
theorem Vz_:∀ (i:Nat) (l:List (List Ins)),(slT i l).length<=8*l.length
 | _,[]=>by simp [slT]
 | i,x::l=>by
  have:=Vz_ (i+1) l
  have:=zVh i x
  simp only [slT,length_append,length_cons];omega
theorem W9_ {t:Tst} (h:t.ths.length<=4) (h':t.locs.length<=8):(S0 t).length<=40:=by
 have:=Vz_ 0 t.ths
 unfold S0 slL
 simp;omega
theorem zVi (t:List (List Ins)) (i:Nat):(slO t i).length<=8*t.length:=by
 have:=Vz_ 0 (t.take i)
 rw [length_take] at this
 unfold slO;omega
theorem zVj (t:List (List Ins)) (i:Nat) (l:List Ins) (b:Nat):(slP t i l b).length<=8*t.length+8:=by
 have:=zVi t i
 have h2:=Yv_ (WS_ l) 8
 unfold slP
 rw [length_append,length_map,length_take];omega
theorem zVk (t:Tst) (b:Nat):(slQ t b).length<=8*t.ths.length+b:=by
 have:=Vz_ 0 t.ths
 unfold slQ slL
 simp;omega
@[go_sem] theorem zg2 (l:List Slo):(Vy_ l).length=l.length:=length_map ..
@[go_sem] theorem zd4 (l:List Slo) (n:Nat):(Vy_ l).take n=Vy_ (l.take n):=(map_take ..).symm
@[go_sem] theorem zg3 (l:List Slo) (i:Nat) (h:i<(Vy_ l).length):(Vy_ l)[i]=.agg [iV (l[i]'(by simpa [Vy_] using h)).1,iV (l[i]'(by simpa [Vy_] using h)).2]:=by simp [Vy_,zjt]
theorem Xx_ (l:List Slo) (a b:Int):Vy_ l++[V.agg [iV a,iV b]]=Vy_ (l++[(a,b)]):=by simp [Vy_,zjt]
theorem zO7:Vy_ []=[]:=rfl
theorem zd5 (l:List Slo):NL (.ro 2 (Vy_ l)):=.ro fun v hv=>by obtain ⟨a,_,rfl⟩:=List.mem_map.1 hv;exact .cons (.val _) (.cons (.val _) .nil)
theorem zIc:∀ {i:Nat} {l:List (List Ins)} {p:Slo},p∈slT i l->∃ a r:Nat,p=((a:Int),(r:Int))/\i<=a/\a<i+l.length/\r<8
 | i,x::l,p,h=>by
  unfold slT at h
  rcases List.mem_append.1 h with h|h
  .obtain ⟨r,hr,rfl⟩:=List.mem_map.1 h
   have:r<8:=by unfold Xe_ at hr;have:=(List.mem_filter.1 hr).1;exact List.mem_range.1 this
   exact ⟨i,r,rfl,Nat.le_refl _,by simp,this⟩
  obtain ⟨a,r,e,h1,h2,h3⟩:=zIc h
  exact ⟨a,r,e,by omega,by simp only [length_cons];omega,h3⟩
theorem zId {t:Tst} {p:Slo} (h:p∈S0 t):(∃ n:Nat,p=(-1,(n:Int))/\n<t.locs.length)\/∃ a r:Nat,p=((a:Int),(r:Int))/\a<t.ths.length/\r<8:=by
 rcases List.mem_append.1 h with h|h
 .obtain ⟨a,r,e,_,h2,h3⟩:=zIc h
  exact .inr ⟨a,r,e,by omega,h3⟩
 obtain ⟨n,hn,rfl⟩:=List.mem_map.1 h
 exact .inl ⟨n,rfl,List.mem_range.1 hn⟩
def zEs (g:List (Nat->Int)) (f:Nat->Int) (p:Slo):Int:=if p.1<0 then f p.2.toNat else (g.getD p.1.toNat fun _=>0) p.2.toNat
def Xy_ (t:Tst) (g:List (Nat->Int)) (f:Nat->Int):List Int:=(S0 t).map (zEs g f)
def zIe (l:List Int):List Int:=l++List.replicate (40-l.length) 0
def W5 (t:Tst) (g:List (Nat->Int)) (f:Nat->Int):List Int:=(Xy_ t g f).length::zIe (Xy_ t g f)
theorem V0_ {l:List Int} (h:l.length<=40):(zIe l).length=40:=by unfold zIe;simp;omega
theorem QZ_ (t:Tst) (g:List (Nat->Int)) (f:Nat->Int):(Xy_ t g f).length=(S0 t).length:=length_map ..
theorem ZY_ {t:Tst} (h:t.ths.length<=4) (h':t.locs.length<=8) (g:List (Nat->Int)) (f:Nat->Int):(W5 t g f).length=41:=by
 have:=W9_ h h'
 unfold W5
 simp only [length_cons]
 rw [V0_ (by rw [QZ_];omega)]
theorem zIf {l:List Int} {i:Nat} {x:Int} (h:l[i]?=some x) (h40:l.length<=40):(zIe (l.take i)).set i x=zIe (l.take (i+1)):=by
 have hi:=(List.getElem?_eq_some_iff.1 h).1
 have hl:(l.take i).length=i:=by rw [length_take];omega
 unfold zIe
 rw [M1 h]
 simp only [hl,length_append,length_singleton]
 rw [set_append_right _ _ (by omega),hl,Nat.sub_self,show 40-i=(40-(i+1))+1 by omega,replicate_succ]
 simp
def E1 (g:List (Nat->Int)):List V:=g.map fun f=>.agg (I4 f)
@[go_sem] theorem Z6_ (l:List (Nat->Int)):(E1 l).length=l.length:=length_map ..
@[go_sem] theorem zIg (l:List (Nat->Int)) (i:Nat):(E1 l)[i]?=l[i]?.map fun f=>V.agg (I4 f):=List.getElem?_map ..
@[go_sem] theorem zYz (l:List (Nat->Int)) (i:Nat) (h:i<(E1 l).length):(E1 l)[i]=.agg (I4 (l[i]'(by simpa [E1] using h))):=by simp [E1]
@[go_sem high] theorem zIh (f:Nat->Int):(I4 f).length=8:=Eq.trans rfl rfl
@[go_sem high] theorem zZ0 (f:Nat->Int):(V.agg (I4 f)).fits 8=true:=Eq.trans rfl rfl
theorem VA_ (f:Nat->Int) {r:Nat} (h:r<8):E5 false 1 (I4 f) r=uV (f r):=by rcases lt8 h with rfl|rfl|rfl|rfl|rfl|rfl|rfl|rfl<;>rfl
theorem zIi (f:Nat->Int):NLs (I4 f):=fun v hv=>by obtain ⟨a,_,rfl⟩:=List.mem_map.1 hv;exact .val _
theorem zIj (l:List (Nat->Int)):NL (.ro 8 (E1 l)):=.ro fun v hv=>by obtain ⟨a,_,rfl⟩:=List.mem_map.1 hv;exact zIi a
theorem zIk {n:Int} {r:List Int} {i:Nat} {x:Int} (h:i<r.length):B2 (.agg (iV n::uVs r)) (1+i) (uV x)=.agg (iV n::uVs (r.set i x)):=by
 simp only [B2,V.cells,splice]
 congr 1
 rw [Nat.add_comm 1 i,take_succ_cons]
 simp only [length_singleton,cons_append,drop_succ_cons,List.cons.injEq,true_and]
 unfold uVs
 rw [map_set,set_eq_take_append_cons_drop,if_pos (by simpa using h)]
 simp
theorem zVl {n m:Int} {r:List Int}:B2 (.agg (iV n::uVs r)) 0 (iV m)=.agg (iV m::uVs r):=by simp [B2,V.cells,splice]
theorem Xz_:uVs (List.replicate 40 0)=List.replicate 40 (uV 0):=by simp [uVs]
theorem zVm (l:List Int):(∀ x,x∈uVs l->x.one=true)=True:=eq_true fun x hx=>by obtain ⟨a,_,rfl⟩:=List.mem_map.1 hx;rfl
def tkd (p:Nat):Bool:=decide (p<104)&&(decide (p % 26<2)||(decide (10<=p % 26)&&decide (p % 2=0)))
def zIl (p:Nat):IntKind:=if tkd p then .i8 else .u64
def mVf:Nat->List Int->List V
 | _,[]=>[]
 | p,n::r=>.val (.int (zIl p) n)::mVf (p+1) r
def mV (k:List Int):List V:=mVf 0 k
def gt (k:List Int) (p:Nat):Int:=k.getD p 0
def kN (p:Nat) (n:Int):V:=.val (.int (zIl p) n)
theorem zIm:∀ (p:Nat) (k:List Int),(mVf p k).length=k.length
 | _,[]=>rfl
 | p,_::k=>by simp [mVf,zIm]
theorem Qa_ (k:List Int):(mV k).length=k.length:=zIm 0 k
theorem zIn:∀ (p:Nat) (k:List Int) (i:Nat),(mVf p k)[i]?=k[i]?.map fun n=>kN (p+i) n
 | _,[],_=>by simp [mVf]
 | p,n::k,0=>by simp [mVf,kN]
 | p,n::k,i+1=>by
  have:=zIn (p+1) k i
  simp only [mVf,List.getElem?_cons_succ,this]
  rw [show p+1+i=p+(i+1) by omega]
theorem V0 (k:List Int) (i:Nat):(mV k)[i]?=k[i]?.map fun n=>kN i n:=by rw [mV,zIn];simp
theorem zIo (k:List Int):∀ x∈mV k,x.one=true:=by
 intro x hx
 obtain ⟨i,hi⟩:=List.mem_iff_getElem?.1 hx
 rw [V0] at hi
 cases h:k[i]? with
 | none=>rw [h] at hi;cases hi
 | some n=>rw [h] at hi;cases hi;rfl
theorem zVn (k:List Int):NLs (mV k):=by
 intro x hx
 obtain ⟨i,hi⟩:=List.mem_iff_getElem?.1 hx
 rw [V0] at hi
 cases h:k[i]? with
 | none=>rw [h] at hi;cases hi
 | some n=>rw [h] at hi;cases hi;exact .val _
theorem i9 (k:List Int) (S:List Nat) (H:A7) (d:Nat):(mV k).map (frz S H d)=mV k:=by
 apply List.ext_getElem?
 intro i
 rw [List.getElem?_map,V0]
 cases k[i]? with
 | none=>rfl
 | some n=>cases d<;>rfl
theorem zCm {k:List Int} {p:Nat} {n:Int} (h:p<k.length):B2 (.agg (mV k)) p (kN p n)=.agg (mV (k.set p n)):=by
 simp only [B2,V.cells,splice]
 congr 1
 apply List.ext_getElem?
 intro i
 have hl:(mV k).length=k.length:=Qa_ k
 rw [V0,List.getElem?_set]
 show (List.take p (mV k)++([kN p n]++List.drop (p+1) (mV k)))[i]?=_
 have ht:(List.take p (mV k)).length=p:=by rw [length_take];omega
 by_cases h1:i<p
 .rw [List.getElem?_append_left (by omega),List.getElem?_take_of_lt h1,V0,if_neg (by omega)]
 by_cases h2:p=i
 .subst h2
  rw [List.getElem?_append_right (by omega),ht,Nat.sub_self,if_pos rfl,if_pos h];rfl
 rw [List.getElem?_append_right (by omega),ht,if_neg h2,List.getElem?_append_right (by simp;omega),List.getElem?_drop,V0]
 have:p+1+(i-p-[kN p n].length)=i:=by simp;omega
 rw [this]
def zVo:List EK:=List.replicate 112 .int
theorem zQg:∀ (p:Nat) (a b:List Int) (m:Nat),a.length=m->b.length=m->E3 (List.replicate m .int) (mVf p a) (mVf p b)=some (decide (a=b))
 | _,[],[],_,h,_=>by subst h;rfl
 | _,[],_::_,m,h,h'=>by subst h;cases h'
 | _,_::_,[],m,h,h'=>by subst h';cases h
 | _,x::a,y::b,0,h,_=>by cases h
 | p,x::a,y::b,m+1,h,h'=>by
  have:=zQg (p+1) a b m (by simpa using h) (by simpa using h')
  simp only [mVf,replicate_succ,E3,this,if_true,Option.map_some,Option.some.injEq,List.cons.injEq]
  rw [Bool.eq_iff_iff];simp
theorem zVp {a b:List Int} (h:a.length=112) (h':b.length=112):E3 zVo (mV a) (mV b)=some (decide (a=b)):=zQg 0 a b 112 h h'
def Z7_ (l:List (List Int)):List (V × V):=l.map fun k=>(.agg (mV k),bV true)
theorem VB_ {k:List Int} (hk:k.length=112):∀ {l:List (List Int)},(∀ q∈l,q.length=112)->Ye_ zVo (mV k) (Z7_ l)=some (if k∈l then some (bV true) else none)
 | [],_=>rfl
 | q::l,h=>by
  have ih:=VB_ hk (l:=l) fun r hr=>h r (by simp [hr])
  have e:=zVp hk (h q (by simp))
  unfold Z7_ at ih ⊢
  simp only [map_cons,Ye_]
  rw [e]
  by_cases hq:k=q
  .subst hq;simp
  simp [hq,ih]
theorem Qb_ {k:List Int} (hk:k.length=112):∀ {l:List (List Int)},(∀ q∈l,q.length=112)->Us_ zVo (mV k) (bV true) (Z7_ l)=some (Z7_ (if k∈l then l else l++[k]))
 | [],_=>by simp [Z7_,Us_]
 | q::l,h=>by
  have ih:=Qb_ hk (l:=l) fun r hr=>h r (by simp [hr])
  have e:=zVp hk (h q (by simp))
  unfold Z7_ at ih ⊢
  simp only [map_cons,Us_]
  rw [e]
  by_cases hq:k=q
  .subst hq;simp
  by_cases hm:k∈l
  .simp [hq,ih,hm]
  simp [hq,ih,hm]
theorem zEt {p:Nat} (h:tkd p=true) (n:Int):kN p n=.val (.int .i8 n):=by simp [kN,zIl,h]
theorem X0_ {p:Nat} (h:tkd p=false) (n:Int):kN p n=.val (.int .u64 n):=by simp [kN,zIl,h]
theorem lt4 {i:Nat} (h:i<4):i=0\/i=1\/i=2\/i=3:=by omega
theorem zQh {i:Nat} (hi:i<4):tkd (i*26)=true:=by rcases lt4 hi with rfl|rfl|rfl|rfl<;>rfl
theorem zCn {i:Nat} (hi:i<4):tkd (i*26+1)=true:=by rcases lt4 hi with rfl|rfl|rfl|rfl<;>rfl
theorem zA1 {i r:Nat} (hi:i<4) (hr:r<8):tkd (i*26+2+r)=false:=by
 rcases lt4 hi with rfl|rfl|rfl|rfl<;>rcases lt8 hr with rfl|rfl|rfl|rfl|rfl|rfl|rfl|rfl<;>rfl
theorem zIp {i s:Nat} (hi:i<4) (hs:s<8):tkd (i*26+10+s*2)=true:=by
 rcases lt4 hi with rfl|rfl|rfl|rfl<;>rcases lt8 hs with rfl|rfl|rfl|rfl|rfl|rfl|rfl|rfl<;>rfl
theorem zIq {i s:Nat} (hi:i<4) (hs:s<8):tkd (i*26+10+s*2+1)=false:=by
 rcases lt4 hi with rfl|rfl|rfl|rfl<;>rcases lt8 hs with rfl|rfl|rfl|rfl|rfl|rfl|rfl|rfl<;>rfl
theorem zA2 {x:Nat} (hx:x<8):tkd (104+x)=false:=by rcases lt8 hx with rfl|rfl|rfl|rfl|rfl|rfl|rfl|rfl<;>rfl
abbrev i8V (n:Int):V:=.val (.int .i8 n)
theorem zA3 {k:List Int} {p:Nat} (h:p<k.length):(mV k)[p]?=some (kN p (gt k p)):=by
 rw [V0,List.getElem?_eq_getElem h,gt,List.getD,List.getElem?_eq_getElem h];rfl
section
variable {k:List Int} (hk:k.length=112) {i r s x:Nat} (hi:i<4) (hr:r<8) (hs:s<8)
include hk
theorem D0:(mV k).length=112:=(Qa_ k).trans hk
include hi
theorem I7:(mV k)[i*26]?=some (i8V (gt k (i*26))):=by rw [zA3 (by omega),zEt (zQh hi)]
theorem D1:(mV k)[i*26+1]?=some (i8V (gt k (i*26+1))):=by rw [zA3 (by omega),zEt (zCn hi)]
theorem V1_ (n:Int):B2 (.agg (mV k)) (i*26) (i8V n)=.agg (mV (k.set (i*26) n)):=by
 show B2 _ _ (.val (.int .i8 n))=_
 rw [<-zEt (zQh hi),zCm (by omega)]
theorem X1_ (n:Int):B2 (.agg (mV k)) (i*26+1) (i8V n)=.agg (mV (k.set (i*26+1) n)):=by
 show B2 _ _ (.val (.int .i8 n))=_
 rw [<-zEt (zCn hi),zCm (by omega)]
include hr
theorem zd6:(mV k)[i*26+2+r]?=some (uV (gt k (i*26+2+r))):=by rw [zA3 (by omega),X0_ (zA1 hi hr)]
theorem d7 (n:Int):B2 (.agg (mV k)) (i*26+2+r) (uV n)=.agg (mV (k.set (i*26+2+r) n)):=by
 show B2 _ _ (.val (.int .u64 n))=_
 rw [<-X0_ (zA1 hi hr),zCm (by omega)]
omit hr
include hs
theorem zQi:(mV k)[i*26+10+s*2]?=some (i8V (gt k (i*26+10+s*2))):=by rw [zA3 (by omega),zEt (zIp hi hs)]
theorem zQj:(mV k)[i*26+10+s*2+1]?=some (uV (gt k (i*26+10+s*2+1))):=by rw [zA3 (by omega),X0_ (zIq hi hs)]
omit hi hs
variable (hx:x<8)
include hx
theorem ZZ_:(mV k)[104+x]?=some (uV (gt k (104+x))):=by rw [zA3 (by omega),X0_ (zA2 hx)]
theorem Y3_ (n:Int):B2 (.agg (mV k)) (104+x) (uV n)=.agg (mV (k.set (104+x) n)):=by
 show B2 _ _ (.val (.int .u64 n))=_
 rw [<-X0_ (zA2 hx),zCm (by omega)]
end
def Qc_ (k:List Int) (i:Nat) (r:Bool) (n:Int):Int:=if r then gt k (i*26+2+n.toNat) else n
def drB (x:Ins):Bool:=decide (x.op=15)&&(decide (2<=x.pred)&&decide (x.succ≠2))
theorem zd7 {k:List Int} {p q:Nat} {n:Int} (hq:q<k.length):gt (k.set p n) q=if p=q then n else gt k q:=by
 unfold gt
 rw [List.getD,List.getElem?_set]
 by_cases h:p=q
 .subst h;simp [hq]
 simp [h]
theorem d8 {k:List Int} {p:Nat} {n:Int} (hp:p<k.length):gt (k.set p n) p=n:=by rw [zd7 hp,if_pos rfl]
theorem H9 {k:List Int} {p q:Nat} {n:Int} (h:p≠q):gt (k.set p n) q=gt k q:=by
 unfold gt;rw [List.getD,List.getD,List.getElem?_set_ne h]
def j4 (k:List Int) (i:Nat):List Int:=k.take (i*26+10)++((k.drop (i*26+12)).take 14++k.drop (i*26+24))
theorem Z8_ {k:List Int} (hk:k.length=112) {i:Nat} (hi:i<4):(j4 k i).length=112:=by
 unfold j4;simp [hk];omega
theorem VC_ {k:List Int} (hk:k.length=112) {i:Nat} (hi:i<4) (q:Nat):(j4 k i)[q]?=if i*26+10<=q/\q<i*26+24 then k[q+2]? else k[q]?:=by
 unfold j4
 have h1:(k.take (i*26+10)).length=i*26+10:=by rw [length_take];omega
 have h2:((k.drop (i*26+12)).take 14).length=14:=by rw [length_take,length_drop];omega
 by_cases ha:q<i*26+10
 .rw [List.getElem?_append_left (by omega),List.getElem?_take_of_lt ha,if_neg (by omega)]
 rw [List.getElem?_append_right (by omega),h1]
 by_cases hb:q<i*26+24
 .rw [List.getElem?_append_left (by omega),List.getElem?_take_of_lt (by omega),List.getElem?_drop,if_pos ⟨by omega,hb⟩]
  congr 1;omega
 rw [List.getElem?_append_right (by omega),h2,List.getElem?_drop,if_neg (by omega)]
 congr 1;omega
theorem Y4_ {k:List Int} (hk:k.length=112) {i:Nat} (hi:i<4) (q:Nat):gt (j4 k i) q=if i*26+10<=q/\q<i*26+24 then gt k (q+2) else gt k q:=by
 unfold gt;simp only [List.getD,VC_ hk hi];split<;>rfl
theorem zIr {i q:Nat} (hi:i<4) (h:i*26+10<=q) (h':q<i*26+24):tkd (q+2)=tkd q:=by
 have h1:∀ i,i<4->∀ j,j<14->tkd (i*26+10+j+2)=tkd (i*26+10+j):=by decide
 have:=h1 i hi (q-(i*26+10)) (by omega)
 rwa [show i*26+10+(q-(i*26+10))=q by omega] at this
theorem zEu {k:List Int} (hk:k.length=112) {i:Nat} (hi:i<4):B2 (.agg (mV k)) (i*26+10) (.agg (((mV k).drop (i*26+12)).take 14))=.agg (mV (j4 k i)):=by
 have hm:=Qa_ k
 simp only [B2,V.cells,splice]
 congr 1
 apply List.ext_getElem?
 intro q
 rw [V0,VC_ hk hi]
 have h1:((mV k).take (i*26+10)).length=i*26+10:=by rw [length_take];omega
 have h2:(((mV k).drop (i*26+12)).take 14).length=14:=by rw [length_take,length_drop];omega
 by_cases ha:q<i*26+10
 .rw [List.getElem?_append_left (by omega),List.getElem?_take_of_lt ha,if_neg (by omega),V0]
 rw [List.getElem?_append_right (by omega),h1]
 by_cases hb:q<i*26+24
 .rw [List.getElem?_append_left (by omega),List.getElem?_take_of_lt (by omega),List.getElem?_drop,if_pos ⟨by omega,hb⟩,V0,show i*26+12+(q-(i*26+10))=q+2 by omega]
  congr 1;funext n
  simp only [kN,zIl,zIr hi (by omega) hb]
 rw [List.getElem?_append_right (by omega),h2,List.getElem?_drop,if_neg (by omega),V0]
 rw [show i*26+10+14+(q-(i*26+10)-14)=q by omega]
theorem zCo {k:List Int} (hk:k.length=112) {i s:Nat} (hi:i<4) (hs:s<8) (a b:Int):B2 (.agg (mV k)) (i*26+10+s*2) (.agg [i8V a,uV b])=.agg (mV ((k.set (i*26+10+s*2) a).set (i*26+10+s*2+1) b)):=by
 generalize hp:i*26+10+s*2=p
 have ea:i8V a=kN p a:=by rw [zEt (by rw [<-hp];exact zIp hi hs)]
 have eb:uV b=kN (p+1) b:=by rw [X0_ (by rw [<-hp];exact zIq hi hs)]
 rw [ea,eb]
 have hm:=Qa_ k
 have hp2:p+2<=k.length:=by omega
 simp only [B2,V.cells,splice]
 congr 1
 apply List.ext_getElem?
 intro q
 have h1:((mV k).take p).length=p:=by rw [length_take];omega
 rw [V0,List.getElem?_set,List.getElem?_set]
 show ((mV k).take p++([kN p a,kN (p+1) b]++(mV k).drop (p+2)))[q]?=_
 by_cases ha:q<p
 .rw [List.getElem?_append_left (by omega),List.getElem?_take_of_lt ha,V0,if_neg (by omega),if_neg (by omega)]
 rw [List.getElem?_append_right (by omega),h1]
 by_cases hb:q=p
 .subst hb
  rw [if_neg (by omega),if_pos rfl,if_pos (by omega),Nat.sub_self];rfl
 by_cases hc:q=p+1
 .subst hc
  rw [if_pos rfl,if_pos (by rw [length_set];omega),show p+1-p=1 by omega];rfl
 rw [if_neg (by omega),if_neg (by omega),List.getElem?_append_right (by simp;omega),List.getElem?_drop,V0]
 rw [show p+2+(q-p-[kN p a,kN (p+1) b].length)=q by simp;omega]
theorem zVq {k:List Int} (hk:k.length=112) {i:Nat} (hi:i<4):(mV k)[i*26+10]?=some (i8V (gt k (i*26+10))):=zQi (s:=0) hk hi (by omega)
theorem zVr {k:List Int} (hk:k.length=112) {i:Nat} (hi:i<4):(mV k)[i*26+10+1]?=some (uV (gt k (i*26+10+1))):=zQj (s:=0) hk hi (by omega)
def P1 (k:List Int) (i:Nat):List Int:=k.set (104+(gt k (i*26+10)).toNat) (gt k (i*26+10+1))
def Y4 (k:List Int) (i:Nat) (w:Nat):List Int:=(j4 (P1 k i) i).set (i*26+1) (w:Nat)
def O1 (k:List Int) (i:Nat) (w:Nat):List Int:=((Y4 k i w).set (i*26+10+w*2) 0).set (i*26+10+w*2+1) 0
structure TOk (len p:Nat) (x:Ins):Prop where
 op1:1<=x.op
 op17:x.op<=17
 rd0:0<=x.rd
 rd8:x.rd<8
 a:x.aR=true->0<=x.aN/\x.aN<8
 b:x.bR=true->0<=x.bN/\x.bN<8
 fence:x.op=15->(1<=x.pred/\x.pred<=3)/\(1<=x.succ/\x.succ<=3)
 loc:M2 x.op=true->0<=x.loc/\x.loc<8
 skip0:0<=x.skip
 skip:(p:Int)+x.skip+1<=len
def zIs (l:List Ins):Prop:=l.length<=8/\∀ p x,l[p]?=some x->TOk l.length p x
def brT (k:List Int) (i:Nat) (x:Ins):Bool:=decide (15<x.op)&&(decide (Qc_ k i x.aR x.aN=Qc_ k i x.bR x.bN)==decide (x.op=16))
def j8 (x:Ins) (i:Nat) (k:List Int):List Int :=
 if x.op=1 then k.set (i*26+2+x.rd.toNat) x.aN
 else if x.op<9 then k.set (i*26+2+x.rd.toNat) (zC7 x.op (Qc_ k i x.aR x.aN) (Qc_ k i x.bR x.bN))
 else if brT k i x=true then k.set (i*26) (gt k (i*26)+x.skip)
 else k
def WT_ (k:List Int) (i:Nat):List Int:=k.set (i*26) (gt k (i*26)+1)
def X2_ (x:Ins) (i:Nat) (k:List Int):Bool:=M2 x.op||(drB x&&decide (0<gt k (i*26+1)))
def locT (l:List Ins) (i:Nat):Nat->List Int->List Int
 | 0,k=>k
 | n+1,k=>match l[(gt k (i*26)).toNat]? with
  | none=>k
  | some x=>if X2_ x i k=true then k else locT l i n (WT_ (j8 x i k) i)
theorem Za_ (x:Ins) (i:Nat) (k:List Int):(j8 x i k).length=k.length:=by
 unfold j8
 split
 .exact length_set
 split
 .exact length_set
 split
 .exact length_set
 rfl
theorem Zb_ (k:List Int) (i:Nat):(WT_ k i).length=k.length:=length_set
theorem zCp (l:List Ins) (i:Nat):∀ (n:Nat) (k:List Int),(locT l i n k).length=k.length
 | 0,k=>rfl
 | n+1,k=>by
  unfold locT
  split
  .rfl
  split
  .rfl
  rw [zCp l i n,Zb_,Za_]
def zIt (i q:Nat):Prop:=q=i*26\/(i*26+2<=q/\q<i*26+10)
theorem zEv {x:Ins} {i:Nat} {k:List Int} {q:Nat} (hr0:0<=x.rd) (hr:x.rd<8) (hq:¬ zIt i q):gt (j8 x i k) q=gt k q:=by
 unfold zIt at hq
 unfold j8
 split
 .exact H9 (by omega)
 split
 .exact H9 (by omega)
 split
 .exact H9 (by omega)
 rfl
theorem S9 {i:Nat} {k:List Int} {q:Nat} (hq:q≠i*26):gt (WT_ k i) q=gt k q:=H9 (Ne.symm hq)
theorem zVs {x:Ins} {i:Nat} {k:List Int} (hk:k.length=112) (hi:i<4) (hr0:0<=x.rd):gt (j8 x i k) (i*26)=if 9<=x.op/\brT k i x=true then gt k (i*26)+x.skip else gt k (i*26):=by
 unfold j8
 by_cases h1:x.op=1
 .rw [if_pos h1,if_neg (by omega),H9 (by omega)]
 rw [if_neg h1]
 by_cases h2:x.op<9
 .rw [if_pos h2,if_neg (by omega),H9 (by omega)]
 rw [if_neg h2]
 by_cases h3:brT k i x=true
 .rw [if_pos h3,if_pos ⟨by omega,h3⟩,d8 (by omega)]
 rw [if_neg h3,if_neg fun h=>h3 h.2]
theorem zIu {l : List Ins} {x : Ins} {i : Nat} {k : List Int} (hk : k.length = 112) (hi : i < 4) {p : Nat} (hp : gt k (i * 26) = (p : Nat)) (hx : TOk l.length p x) :
    ∃ p':Nat,gt (j8 x i k) (i*26)=(p':Nat)/\p<=p'/\p'+1<=l.length/\gt (WT_ (j8 x i k) i) (i*26)=((p'+1:Nat):Int):=by
  have h:=zVs (x:=x) hk hi hx.rd0
  have hs:=hx.skip
  have hs0:=hx.skip0
  have hl:=Za_ x i k
  rw [hp] at h
  obtain ⟨p',hp'⟩:∃ p':Nat,gt (j8 x i k) (i*26)=(p':Nat):=by
    refine ⟨(gt (j8 x i k) (i*26)).toNat,?_⟩
    rw [h];split<;>omega
  refine ⟨p',hp',?_,?_,?_⟩
  . rw [hp'] at h;split at h<;>omega
  . rw [hp'] at h;split at h<;>omega
  unfold WT_;rw [d8 (by omega),hp'];rfl
def i0:Ins:={ op:=0,rd:=0,loc:=0,aR:=false,aN:=0,bR:=false,bN:=0,acq:=false,rel:=false,dep:=0,pred:=0,succ:=0,skip:=0 }
def Yi_ (t:Tst) (p:Nat × Nat):Ins:=(t.ths.getD p.1 []).getD p.2 i0
structure Cs where
 t:Tst
 f:Os'
 fr:List Int
def Cs.ops (c:Cs):List (Nat × Nat):=M5 0 c.t.ths
def Cs.n (c:Cs):Nat:=c.ops.length
def Cs.cs (c:Cs):List V:=[.rp c.t.cs 0,.ro 2 (d0 c.ops),.rp c.f.cs 0,.ro 1 (iVs c.fr)]
def Cs.op (c:Cs) (k:Nat):Nat × Nat:=c.ops.getD k (0,0)
def Cs.x (c:Cs) (k:Nat):Ins:=Yi_ c.t (c.op k)
def Cs.run (c:Cs) (k:Nat):Bool:=decide (c.f.f.state.getD k 0=1)
def Cs.th (c:Cs) (a b:Nat):Bool:=decide ((c.op a).1=(c.op b).1)
def Cs.at_ (c:Cs) (q:Ins->Bool) (k:Nat):Bool:=c.run k&&q (c.x k)
def Cs.rd (c:Cs):Nat->Bool:=c.at_ fun x=>rdB x.op
def Cs.wr (c:Cs):Nat->Bool:=c.at_ fun x=>wrB x.op
theorem zQk (l:List (Nat × Nat)):NL (.ro 2 (d0 l)):=.ro fun v hv=>by obtain ⟨a,_,rfl⟩:=List.mem_map.1 hv;exact .cons (.val _) (.cons (.val _) .nil)
theorem Z9_ (c:Cs):NL (.rp c.cs 0):=.rp (.cons (u6 _) (.cons (zQk _) (.cons (Vu_ _) (.cons (QN_ _) .nil))))
structure CsOk (c:Cs):Prop where
 ths:c.t.ths.length<=4
 len:∀ l∈c.t.ths,l.length<=8
 n8:c.n<=8
 fl:FlOk c.n c.f.f
 left:c.f.left.length=c.t.ths.length
 frl:c.fr.length=c.n
 fr1:∀ (k:Nat) (x:Int),c.fr[k]?=some x->-1<=x/\x<c.n
 pr1:∀ (k:Nat) (x:Int),c.f.f.pair[k]?=some x->0<=x/\x<=c.n
 leU:∀ (k:Nat) (x:Int),c.f.left[k]?=some x->0<=x/\x<18446744073709551616
 plU:∀ (k:Nat) (x:Int),c.f.f.place[k]?=some x->0<=x/\x<18446744073709551616
 vaU:∀ (k:Nat) (x:Int),c.f.f.value[k]?=some x->0<=x/\x<18446744073709551616
 phU:∀ (k:Nat) (x:Int),c.f.f.path[k]?=some x->0<=x/\x<18446744073709551616
 fen:∀ l∈c.t.ths,∀ x∈l,x.op=15->(x.pred=1\/x.pred=2\/x.pred=3)/\(x.succ=1\/x.succ=2\/x.succ=3)
theorem V2_ {th:Nat}:∀ {i:Nat} {l:List Ins} {p:Nat × Nat},p∈Yh_ th i l->p.1=th/\i<=p.2/\p.2<i+l.length/\∃ x,l[p.2-i]?=some x/\J8 x=true
 | i,[],p,h=>by simp [Yh_] at h
 | i,x::l,p,h=>by
  have key:p∈Yh_ th (i+1) l->p.1=th/\i<=p.2/\p.2<i+(x::l).length/\∃ y,(x::l)[p.2-i]?=some y/\J8 y=true:=fun h=>by
   obtain ⟨h1,h2,h3,y,h4,h5⟩:=V2_ h
   refine ⟨h1,by omega,by simp only [length_cons];omega,y,?_,h5⟩
   obtain ⟨m,hm⟩:∃ m,p.2-i=m+1:=⟨p.2-i-1,by omega⟩
   rw [hm,List.getElem?_cons_succ,show m=p.2-(i+1) by omega];exact h4
  unfold Yh_ at h
  split at h
  .rename_i hm
   rcases List.mem_cons.1 h with rfl|h
   .refine ⟨rfl,Nat.le_refl _,by simp only [length_cons];omega,x,by simp,hm⟩
   exact key h
  exact key h
theorem V3_:∀ {i:Nat} {l:List (List Ins)} {p:Nat × Nat},p∈M5 i l->i<=p.1/\p.1<i+l.length/\∃ y x,l[p.1-i]?=some y/\y[p.2]?=some x/\J8 x=true
 | i,[],p,h=>by simp [M5] at h
 | i,y::l,p,h=>by
  rcases List.mem_append.1 h with h|h
  .obtain ⟨h1,h2,h3,x,h4,h5⟩:=V2_ h
   refine ⟨by omega,by simp only [length_cons];omega,y,x,by rw [h1];simp,by simpa using h4,h5⟩
  obtain ⟨h1,h2,z,x,h4,h5⟩:=V3_ h
  refine ⟨by omega,by simp only [length_cons];omega,z,x,?_,h5⟩
  obtain ⟨m,hm⟩:∃ m,p.1-i=m+1:=⟨p.1-i-1,by omega⟩
  rw [hm,List.getElem?_cons_succ,show m=p.1-(i+1) by omega];exact h4
theorem Cs.opAt {c:Cs} {k:Nat} (hk:k<c.n):∃ l,c.ops[k]?=some (c.op k)/\c.t.ths[(c.op k).1]?=some l/\l[(c.op k).2]?=some (c.x k)/\J8 (c.x k)=true:=by
 have h1:c.ops[k]?=some (c.op k):=by unfold Cs.op;rw [List.getD,List.getElem?_eq_getElem hk];rfl
 obtain ⟨h2,h3,l,x,h4,h5,h6⟩:=V3_ (List.mem_of_getElem? h1)
 have e:c.x k=x:=by
  unfold Cs.x Yi_
  rw [List.getD,List.getD,show c.t.ths[(c.op k).1]?=some l by simpa using h4]
  simp [h5]
 exact ⟨l,h1,by simpa using h4,by rw [e];exact h5,by rw [e];exact h6⟩
theorem Cs.run_lt {c:Cs} (hc:CsOk c) {k:Nat} (h:c.run k=true):k<c.n:=Classical.byContradiction fun hk=>by
 have:=hc.fl.l1
 unfold Cs.run at h
 rw [List.getD,List.getElem?_eq_none (by omega)] at h
 simp at h
theorem Cs.run_out {c:Cs} (hc:CsOk c) {k:Nat} (h:c.n<=k):c.run k=false:=by
 rw [Bool.eq_false_iff];intro e;have:=Cs.run_lt hc e;omega
def upR (q:Nat->Nat->Bool) (a b x y:Nat):Bool:=q x y&&(decide (x<a)||(decide (x=a)&&decide (y<b)))
def upC (q:Nat->Nat->Bool) (b a x y:Nat):Bool:=q x y&&(decide (y<b)||(decide (y=b)&&decide (x<a)))
theorem C3 {p q:Nat->Nat->Bool} (h:∀ a b,p a b=q a b):B5 p=B5 q:=F0 fun a _ b _=>h a b
section
variable {q:Nat->Nat->Bool} {a b m:Nat}
theorem zCq:B5 (upR q 0 0)=B5 fun _ _=>false:=C3 fun x y=>by simp [upR]
theorem zA4 (h:q a b=true):B5 (fun x y=>upR q a b x y||(decide ((x:Int)=(a:Nat))&&decide ((y:Int)=(b:Nat))))=B5 (upR q a (b+1)):=C3 fun x y=>by
 unfold upR
 rw [Bool.eq_iff_iff]
 simp only [Bool.or_eq_true,Bool.and_eq_true,decide_eq_true_eq]
 constructor
 .rintro (⟨h1,h2⟩|⟨h1,h2⟩)
  .exact ⟨h1,by omega⟩
  obtain rfl:x=a:=by omega
  obtain rfl:y=b:=by omega
  exact ⟨h,by omega⟩
 rintro ⟨h1,h2⟩
 by_cases e:x=a/\y=b
 .exact .inr ⟨by omega,by omega⟩
 exact .inl ⟨h1,by omega⟩
theorem zCr (h:q a b=false):B5 (upR q a b)=B5 (upR q a (b+1)):=C3 fun x y=>by
 unfold upR
 rw [Bool.eq_iff_iff]
 simp only [Bool.or_eq_true,Bool.and_eq_true,decide_eq_true_eq]
 constructor
 .rintro ⟨h1,h2⟩;exact ⟨h1,by omega⟩
 rintro ⟨h1,h2⟩
 refine ⟨h1,?_⟩
 by_cases e:x=a/\y=b
 .obtain ⟨rfl,rfl⟩:=e;rw [h] at h1;cases h1
 omega
theorem V4_ {s:Nat} (h:∀ y,b<=y->q a y=false) (h':∀ y,y<s->q (a+1) y=false):B5 (upR q a b)=B5 (upR q (a+1) s):=C3 fun x y=>by
 unfold upR
 rw [Bool.eq_iff_iff]
 simp only [Bool.or_eq_true,Bool.and_eq_true,decide_eq_true_eq]
 constructor
 .rintro ⟨h1,h2⟩;exact ⟨h1,by omega⟩
 rintro ⟨h1,h2⟩
 refine ⟨h1,?_⟩
 rcases h2 with h2|⟨h2,h3⟩
 .by_cases e:x=a
  .subst e
   by_cases e2:y<b
   .omega
   rw [h y (by omega)] at h1;cases h1
  omega
 subst h2;rw [h' y h3] at h1;cases h1
theorem V5_:B5 (upC q 0 0)=B5 fun _ _=>false:=C3 fun x y=>by simp [upC]
theorem zVt (h:q a b=true):B5 (fun x y=>upC q b a x y||(decide ((x:Int)=(a:Nat))&&decide ((y:Int)=(b:Nat))))=B5 (upC q b (a+1)):=C3 fun x y=>by
 unfold upC
 rw [Bool.eq_iff_iff]
 simp only [Bool.or_eq_true,Bool.and_eq_true,decide_eq_true_eq]
 constructor
 .rintro (⟨h1,h2⟩|⟨h1,h2⟩)
  .exact ⟨h1,by omega⟩
  obtain rfl:x=a:=by omega
  obtain rfl:y=b:=by omega
  exact ⟨h,by omega⟩
 rintro ⟨h1,h2⟩
 by_cases e:x=a/\y=b
 .exact .inr ⟨by omega,by omega⟩
 exact .inl ⟨h1,by omega⟩
theorem zd8 (h:q a b=false):B5 (upC q b a)=B5 (upC q b (a+1)):=C3 fun x y=>by
 unfold upC
 rw [Bool.eq_iff_iff]
 simp only [Bool.or_eq_true,Bool.and_eq_true,decide_eq_true_eq]
 constructor
 .rintro ⟨h1,h2⟩;exact ⟨h1,by omega⟩
 rintro ⟨h1,h2⟩
 refine ⟨h1,?_⟩
 by_cases e:x=a/\y=b
 .obtain ⟨rfl,rfl⟩:=e;rw [h] at h1;cases h1
 omega
theorem zIv (h:∀ x,q x b=decide (x=m)):B5 (fun x y=>upC q b 0 x y||(decide ((x:Int)=(m:Nat))&&decide ((y:Int)=(b:Nat))))=B5 (upC q (b+1) 0):=C3 fun x y=>by
 unfold upC
 rw [Bool.eq_iff_iff]
 simp only [Bool.or_eq_true,Bool.and_eq_true,decide_eq_true_eq]
 constructor
 .rintro (⟨h1,h2⟩|⟨h1,h2⟩)
  .exact ⟨h1,by omega⟩
  obtain rfl:x=m:=by omega
  obtain rfl:y=b:=by omega
  exact ⟨by rw [h];simp,by omega⟩
 rintro ⟨h1,h2⟩
 by_cases e:y=b
 .subst e;rw [h] at h1
  have:x=m:=by simpa using h1
  exact .inr ⟨by omega,by omega⟩
 exact .inl ⟨h1,by omega⟩
theorem Y5_ (h:∀ x,q x b=false):B5 (upC q b 0)=B5 (upC q (b+1) 0):=C3 fun x y=>by
 unfold upC
 rw [Bool.eq_iff_iff]
 simp only [Bool.or_eq_true,Bool.and_eq_true,decide_eq_true_eq]
 constructor
 .rintro ⟨h1,h2⟩;exact ⟨h1,by omega⟩
 rintro ⟨h1,h2⟩
 refine ⟨h1,?_⟩
 by_cases e:y=b
 .subst e;rw [h] at h1;cases h1
 omega
theorem zVu (h:∀ x,a<=x->x<16->q x b=false):B5 (upC q b a)=B5 (upC q (b+1) 0):=F0 fun x hx y _=>by
 unfold upC
 rw [Bool.eq_iff_iff]
 simp only [Bool.or_eq_true,Bool.and_eq_true,decide_eq_true_eq]
 constructor
 .rintro ⟨h1,h2⟩;exact ⟨h1,by omega⟩
 rintro ⟨h1,h2⟩
 refine ⟨h1,?_⟩
 by_cases e:y=b
 .subst e
  by_cases e2:x<a
  .omega
  rw [h x (by omega) hx] at h1;cases h1
 omega
end
def po0 (c:Cs) (a b:Nat):Bool:=decide (a<b)&&decide (b<c.n)&&c.th a b
def poP (c:Cs) (a b:Nat):Bool:=po0 c a b&&(c.run a&&c.run b)
def lcP (c:Cs) (a b:Nat):Bool:=decide (a<c.n)&&decide (b<c.n)&&decide ((c.x a).loc=(c.x b).loc)
def zFp (c:Cs) (a b:Nat):Bool:=decide (b<c.n)&&(decide (c.fr.getD b (-1)=(a:Int))&&c.th a b)
def zd9 (c:Cs) (a b:Nat):Bool:=zFp c a b&&(c.run a&&c.run b)
def R7 (m:Int) (a:Nat):Bool:=m.toNat.testBit a
def JM_ (l:List Int) (a b:Nat):Bool:=decide (b<l.length)&&R7 (l.getD b 0) a
def V6_ (c:Cs) (m:Int) (k:Nat):Bool:=(decide (m=1\/m=3)&&c.rd k)||(decide (m=2\/m=3)&&c.wr k)
def V7_ (c:Cs) (i s:Nat):Bool:=decide ((Yi_ c.t (i,s)).op=15)&&!R7 (c.f.left.getD i 0) s
def zQl (c:Cs) (i s k:Nat):Bool:=decide (k<c.n)&&(decide ((c.op k).1=i)&&decide ((c.op k).2<s))
def zIw (c:Cs) (i s k:Nat):Bool:=decide (k<c.n)&&(decide ((c.op k).1=i)&&!decide ((c.op k).2<s))
def zg4 (c:Cs) (i s:Nat) (a b:Nat):Bool:=V7_ c i s&&((zQl c i s a&&V6_ c (Yi_ c.t (i,s)).pred a)&&(zIw c i s b&&V6_ c (Yi_ c.t (i,s)).succ b))
def zEw (c:Cs) (i m:Nat) (a b:Nat):Bool:=(List.range m).any fun s=>zg4 c i s a b
def zA5 (c:Cs) (i:Nat) (a b:Nat):Bool:=(List.range i).any fun j=>zEw c j (c.t.ths.getD j []).length a b
def zkv (c:Cs) (a b:Nat):Bool:=zA5 c c.t.ths.length a b
def zg5 (c:Cs) (a b:Nat):Bool:=poP c a b&&lcP c a b
def JN_ (c:Cs) (a b:Nat):Bool:=(zg5 c a b&&(c.rd a&&c.rd b))&&!th (fun a b=>zg5 c a b&&(c.rd a&&c.wr b)) (fun a b=>zg5 c a b&&(c.wr a&&c.rd b)) a b
def zIx (c:Cs) (a b:Nat):Bool:=decide (c.fr.getD a (-1)=c.fr.getD b (-1))
def zg6 (c:Cs) (a b:Nat):Bool:=JN_ c a b&&!zIx c a b
def zLp (c:Cs) (a b:Nat):Bool:=c.run b&&decide (c.f.f.pair.getD b 0=(a:Int)+1)
def zg7 (c:Cs):Nat->Bool:=c.at_ fun x=>decide (x.op=11)||(decide (x.op=12)||decide (x.op=14))
def zju (c:Cs):Nat->Bool:=c.at_ fun x=>x.acq
def zjv (c:Cs):Nat->Bool:=c.at_ fun x=>x.rel
def zg8 (c:Cs) (a b:Nat):Bool:=JM_ c.f.f.place a b&&(c.run a&&c.run b)
def zVv (c:Cs) (a b:Nat):Bool:=JM_ c.f.f.value a b&&(c.run a&&c.run b)
def zg9 (c:Cs) (a b:Nat):Bool:=JM_ c.f.f.path a b&&(c.run a&&c.run b)
def ip (c:Cs) (a b:Nat):Bool:=zd9 c a b&&poP c a b
def rul (c:Cs):List (Nat->Nat->Bool) :=
  [fun a b=>(poP c a b&&lcP c a b)&&(c.run a&&c.wr b),
   zg6 c,
   fun a b=>ip c a b&&(zg7 c a&&c.rd b),
   zkv c,
   fun a b=>poP c a b&&(zju c a&&c.run b),
   fun a b=>poP c a b&&(c.run a&&zjv c b),
   fun a b=>poP c a b&&((zju c a||zjv c a)&&(zju c b||zjv c b)),
   zLp c,
   zg8 c,
   zVv c,
   fun a b=>zg9 c a b&&(c.run a&&c.wr b),
   th (fun a b=>(zg8 c a b||zVv c a b)&&(c.run a&&c.wr b)) (ip c),
   fun a b=>th (zg8 c) (poP c) a b&&(c.run a&&c.wr b)]
def orU (l:List (Nat->Nat->Bool)) (i:Nat) (a b:Nat):Bool:=(l.take i).any fun r=>r a b
def Q9 (c:Cs) (a b:Nat):Bool:=orU (rul c) 13 a b&&poP c a b
theorem zO8 {l:List (Nat->Nat->Bool)} {i:Nat} {r:Nat->Nat->Bool} (h:l[i]?=some r) (a b:Nat):orU l (i+1) a b=(orU l i a b||r a b):=by simp [orU,M1 h]
def opX (t:Tst) (k:Nat):Ins:=Yi_ t ((M5 0 t.ths).getD k (0,0))
def G5 (t:Tst) (k:Nat):Nat:=((M5 0 t.ths).getD k (0,0)).1
def nO (t:Tst):Nat:=(M5 0 t.ths).length
def zCs (t:Tst) (k i:Nat):Bool:=!decide (i=k)&&(wrB (opX t i).op&&(decide ((opX t i).loc=(opX t k).loc)&&(!decide (G5 t i=G5 t k)||decide (i<k))))
def JO_ (t:Tst) (k m:Nat):List Int:=-1::((List.range m).filter (zCs t k)).map fun i:Nat=>(i:Int)
def YU_ (t:Tst) (k:Nat):List Int:=if rdB (opX t k).op then JO_ t k (nO t) else [-1]
def zA6 (t:Tst):Nat->Nat->List Bool->List (List Bool)
 | 0,_,w=>[w]
 | f+1,k,w=>zA6 t f (k+1) w++if (opX t k).op=14 then zA6 t f (k+1) (w.set k true) else []
def Wc_ (t:Tst):Nat->Nat->List Int->List (List Int)
 | 0,_,p=>[p]
 | f+1,k,p=>(YU_ t k).flatMap fun i=>Wc_ t f (k+1) (p++[i])
def knV (t:Tst) (f:Fl) (fr:List Int) (k:Nat):Vl :=
 if rdB (opX t k).op then (if fr.getD k 0<0 then ⟨true,(t.locs.getD (opX t k).loc.toNat ⟨ByteArray.empty,0⟩).v⟩ else if f.state.getD (fr.getD k 0).toNat 0=1 then f.write.getD (fr.getD k 0).toNat zV else zV) else zV
def knT (t:Tst) (f:Fl) (fr:List Int):List Vl:=tab (nO t) (knV t f fr)
def z8 (t:Tst) (w:List Bool) (fr:List Int):Nat->Os'
 | 0=>C9 t (List.replicate (nO t) zV) w
 | i+1=>C9 t (knT t (z8 t w fr i).f fr) w
def JP_ (f:Fl) (w:List Bool) (fr:List Int) (k:Nat):Bool :=
 let r:=decide (f.state.getD k 0=1)
 let i:=fr.getD k 0
 (!r&&(decide (0<=i)||w.getD k false))||(r&&(decide (0<=i)&&!decide (f.state.getD i.toNat 0=1)))||(r&&(w.getD k false&&decide (f.pair.getD k 0=0)))
def U6 (t:Tst) (w:List Bool) (fr:List Int):Option Os' :=
 let f:=z8 t w fr (nO t)
 if f.whole then (if (List.range (nO t)).any (JP_ f.f w fr) then none else some f) else none
def zIy:Nat->List Nat->List Nat->List (List Nat)
 | 0,a,_=>[a]
 | f+1,a,l=>(List.range l.length).flatMap fun i=>zIy f (a++[l.getD i 0]) (l.eraseIdx i)
def W8 (c:Cs) (loc m:Nat):List Nat:=(List.range m).filter fun k=>c.wr k&&decide ((c.x k).loc=(loc:Nat))
def X3_:List Nat->Nat->Nat->Bool
 | [],_,_=>false
 | x::l,a,b=>(decide (x=a)&&decide (b∈l))||X3_ l a b
abbrev Rl:=Nat->Nat->Bool
def zA7 (l:List Int) (loc:Nat) (p:List Nat):List Int:=match p.getLast? with|none=>l|some k=>l.set loc ((k:Int)+1)
def zLq (c:Cs):Nat->Nat->List Int->Rl->List (List Int × Rl)
 | 0,_,l,co=>[(l,co)]
 | f+1,loc,l,co=>(zIy (W8 c loc c.n).length [] (W8 c loc c.n)).flatMap fun p=>zLq c f (loc+1) (zA7 l loc p) fun a b=>co a b||X3_ p a b
def O3 (c:Cs) (co:Rl) (a b:Nat):Bool:=decide (a<c.n)&&(decide (b<c.n)&&(c.rd a&&(!decide (b=a)&&(c.wr b&&(decide ((c.x b).loc=(c.x a).loc)&&(decide (c.fr.getD a 0<0)||co (c.fr.getD a 0).toNat b))))))
def zIz (c:Cs) (co:Rl) (k:Nat):Bool :=
 if c.f.f.pair.getD k 0=0\/c.wr k=false then true
 else
  let i:=c.fr.getD (c.f.f.pair.getD k 0-1).toNat 0
  !(decide (0<=i)&&!co i.toNat k)&&!((List.range c.n).any fun w=>c.wr w&&(!c.th w k&&(co w k&&(decide (i<0)||co i.toNat w))))
def zA8 (c:Cs) (co:Rl):Bool:=(List.range c.n).all (zIz c co)
def zLr (c:Cs) (a b:Nat):Bool:=decide (b<c.n)&&(decide (c.fr.getD b 0=(a:Int))&&!c.th a b)
def WU_ (ord:Cs->Rl) (c:Cs):Rl:=fun a b=>ord c a b||zLr c a b
def Zc_ (kept co fr:Rl):Rl:=fun a b=>(kept a b||co a b)||fr a b
def X4_ (c:Cs):List (Nat->Int):=c.f.regs.map fun g r=>(g r).v
def zFq (c:Cs) (las:List Int) (i:Nat):Int:=if 0<las.getD i 0 then (c.f.f.write.getD (las.getD i 0-1).toNat zV).v else (c.t.locs.getD i ⟨ByteArray.empty,0⟩).v
def Zd_ (c:Cs) (las:List Int):List Int:=(List.range 8).map fun i=>if i<c.t.locs.length then zFq c las i else 0
structure Rn where
 c:Cs
 co:Rl
 ah:Rl
 st:List Int
def zEx (p:Rl):Bool:=i7 fun a=>i7 fun b=>p a b
def V8_ (kept:Rl) (c:Cs) (las:List Int) (co:Rl):List Rn :=
 if zEx (fun a b=>O3 c co a b&&poP c b a)||(a8 (Zc_ kept co (O3 c co))||!zA8 c co) then []
 else [⟨c,co,Zc_ kept co (O3 c co),W5 c.t (X4_ c) fun i=>(Zd_ c las).getD i 0⟩]
def Yj_ (ord:Cs->Rl) (t:Tst) (w:List Bool) (fr:List Int):List Rn :=
 match U6 t w fr with
 | none=>[]
 | some f=>(zLq ⟨t,f,fr⟩ t.locs.length 0 (List.replicate 8 0) fun _ _=>false).flatMap fun p=>V8_ (WU_ ord ⟨t,f,fr⟩) ⟨t,f,fr⟩ p.1 p.2
def O8 (ord:Cs->Rl) (t:Tst):List Rn :=
 (zA6 t (nO t) 0 (List.replicate (nO t) false)).flatMap fun w=>(Wc_ t (nO t) 0 []).flatMap fun fr=>Yj_ ord t w fr
def zLs (l:List Rn):List (List Int):=l.foldl (fun s r=>if r.st∈s then s else s++[r.st]) []
def I0 (ord:Cs->Rl) (t:Tst):List (List Int):=zLs (O8 ord t)
def zO9 (k:List Int) (i:Nat) (loc:Int):Nat->Int
 | 0=>gt k (104+loc.toNat)
 | n+1=>if gt k (i*26+10+n*2)=loc then gt k (i*26+10+n*2+1) else zO9 k i loc n
def WV_ (x:Ins) (i:Nat) (k:List Int):Option (List Int) :=
 if x.op=9 then some (k.set (i*26+2+x.rd.toNat) (zO9 k i x.loc (gt k (i*26+1)).toNat))
 else if x.op=10 then some (((k.set (i*26+10+(gt k (i*26+1)).toNat*2) x.loc).set (i*26+10+(gt k (i*26+1)).toNat*2+1) (Qc_ k i x.aR x.aN)).set (i*26+1) (gt k (i*26+1)+1))
 else if x.op=11\/x.op=12 then
  if 0<gt k (i*26+1) then none
  else some ((k.set (104+x.loc.toNat) (if x.op=12 then IntKind.u64.wrap (Qc_ k i x.aR x.aN+gt k (104+x.loc.toNat)) else Qc_ k i x.aR x.aN)).set (i*26+2+x.rd.toNat) (gt k (104+x.loc.toNat)))
 else none
def N0 (l:List Ins) (i:Nat) (k:List Int):Option (List Int) :=
 match l[(gt k (i*26)).toNat]? with
 | none=>none
 | some x=>(WV_ x i k).map fun q=>locT l i (l.length+1) (WT_ q i)
theorem zCt {x:Ins} {i:Nat} {k q:List Int} (h:WV_ x i k=some q):q.length=k.length:=by
 unfold WV_ at h
 split at h
 .cases h;exact length_set
 split at h
 .cases h;simp
 split at h
 .split at h
  .cases h
  cases h;simp
 cases h
theorem zJ0 {x:Ins} {i:Nat} {k q:List Int} (hi:i<4) (hr0:0<=x.rd) (hl:M2 x.op=true->x.loc<8) (h:WV_ x i k=some q):gt q (i*26)=gt k (i*26):=by
 unfold WV_ at h
 split at h
 .cases h;exact H9 (by omega)
 split at h
 .cases h;rw [H9 (by omega),H9 (by omega),H9 (by omega)]
 split at h
 .rename_i h4
  have:=hl (by rcases h4 with h4|h4<;>simp [M2,rdB,wrB,h4])
  split at h
  .cases h
  cases h;rw [H9 (by omega),H9 (by omega)]
 cases h
def gM (k:List Int) (i:Nat):Nat->Int:=fun r=>gt k (i*26+2+r)
def fM (k:List Int):Nat->Int:=fun x=>gt k (104+x)
def gI (k:List Int) (n i:Nat):List (Nat->Int):=(List.range n).map fun q=>if q<i then gM k q else fun _=>0
def gA (k:List Int) (n:Nat):List (Nat->Int):=(List.range n).map (gM k)
theorem zQm (k:List Int) (n i:Nat):(gI k n i).length=n:=by simp [gI]
theorem zQn (k:List Int) (n:Nat):(gA k n).length=n:=by simp [gA]
theorem zda (k:List Int) (n:Nat):gI k n n=gA k n:=map_congr_left fun q hq=>if_pos (List.mem_range.1 hq)
theorem zJ1 (k:List Int) (n:Nat):E1 (gI k n 0)=List.replicate n (.agg (List.replicate 8 (uV 0))):=by
 apply List.ext_getElem?
 intro q
 simp only [E1,gI,map_map,List.getElem?_map,List.getElem?_range,List.getElem?_replicate]
 by_cases h:q<n
 .simp [h]
  rfl
 simp [h]
theorem zdb {k:List Int} {n i:Nat} (hi:i<n):(E1 (gI k n i)).set i (.agg (I4 (gM k i)))=E1 (gI k n (i+1)):=by
 apply List.ext_getElem?
 intro q
 rw [List.getElem?_set,Z6_,zQm]
 by_cases h:i=q
 .subst h
  rw [if_pos rfl,if_pos hi]
  simp [E1,gI,hi]
 rw [if_neg h]
 simp only [E1,gI,map_map,List.getElem?_map,List.getElem?_range]
 by_cases hq:q<n
 .simp [hq]
  by_cases h1:q<i
  .rw [if_pos h1,if_pos (by omega)]
  rw [if_neg h1,if_neg (by omega)]
 simp [hq]
theorem Qd_ {k:List Int} {p:Nat} (hp:p+8<=k.length) (hd:∀ r,r<8->tkd (p+r)=false):((mV k).drop p).take 8=I4 fun r=>gt k (p+r):=by
 have hm:=Qa_ k
 apply List.ext_getElem?
 intro q
 by_cases h:q<8
 .rw [List.getElem?_take_of_lt h,List.getElem?_drop,zA3 (by omega),X0_ (hd q h)]
  rcases lt8 h with rfl|rfl|rfl|rfl|rfl|rfl|rfl|rfl<;>rfl
 rw [List.getElem?_eq_none (by rw [length_take,length_drop];omega),List.getElem?_eq_none (by rw [zIh];omega)]
theorem zVw {k:List Int} (hk:k.length=112) {i:Nat} (hi:i<4):((mV k).drop (i*26+2)).take 8=I4 (gM k i):=Qd_ (by omega) fun r hr=>zA1 hi hr
theorem zVx {k:List Int} (hk:k.length=112):((mV k).drop 104).take 8=I4 (fM k):=Qd_ (by omega) fun r hr=>zA2 hr
def zFr (t:Tst) (k:List Int):List Int:=W5 t (gA k t.ths.length) (fM k)
def zQo (x:List Int) (l:List (List Int)):List (List Int):=if x∈l then l else l++[x]
theorem zEy {x:List Int} {l:List (List Int)} (h:l.Nodup):(zQo x l).Nodup:=by
 unfold zQo;split
 .exact h
 rename_i hx
 exact List.nodup_append.2 ⟨h,by simp,by intro a ha b hb;simp at hb;subst hb;exact fun e=>hx (e▸ha)⟩
theorem zOa {x y:List Int} {l:List (List Int)}:y∈zQo x l↔y=x\/y∈l:=by
 unfold zQo;split
 .rename_i h;exact ⟨.inr,fun h'=>h'.elim (fun e=>e▸h) id⟩
 simp [or_comm]
theorem S5 (k:List Int):∀ v∈stK k,∃ x,v=.val x:=by
 intro v hv
 cases k with
 | nil=>cases hv
 | cons n r =>
  rw [stK] at hv
  cases hv with
  | head=>exact ⟨_,rfl⟩
  | tail _ h=>obtain ⟨m,_,rfl⟩:=List.mem_map.1 h;exact ⟨_,rfl⟩
def lth (t:Tst) (i:Nat):List Ins:=t.ths.getD i []
structure TTOk (t:Tst):Prop where
 ths:t.ths.length<=4
 locs:t.locs.length<=8
 thr:∀ (i:Nat) (l:List Ins),t.ths[i]?=some l->zIs l
structure MOk (t:Tst) (k:List Int):Prop where
 len:k.length=112
 th:∀ i,i<4->∃ p w:Nat,gt k (i*26)=(p:Nat)/\gt k (i*26+1)=(w:Nat)/\w<=p/\p<=(lth t i).length
 loc:∀ i,i<4->∀ s,s<8->0<=gt k (i*26+10+s*2)/\gt k (i*26+10+s*2)<8
theorem VD_ {t:Tst} {i:Nat} {l:List Ins} (h:t.ths[i]?=some l):lth t i=l:=by simp [lth,List.getD,h]
theorem MOk.of {t : Tst} {k k' : List Int} (h : MOk t k) (i : Nat) (hl : k'.length = 112) (ho : ∀ j, j < 4 → j ≠ i → ∀ c, c < 26 → gt k' (j * 26 + c) = gt k (j * 26 + c))
    (ht:∃ p w:Nat,gt k' (i*26)=(p:Nat)/\gt k' (i*26+1)=(w:Nat)/\w<=p/\p<=(lth t i).length) (hs:∀ s,s<8->0<=gt k' (i*26+10+s*2)/\gt k' (i*26+10+s*2)<8):MOk t k':=by
  refine ⟨hl,fun j hj=>?_,fun j hj s hs'=>?_⟩
  . by_cases hji:j=i
    . subst hji;exact ht
    have h0:=ho j hj hji 0 (by omega)
    have h1:=ho j hj hji 1 (by omega)
    rw [Nat.add_zero] at h0
    rw [h0,h1];exact h.th j hj
  by_cases hji:j=i
  . subst hji;exact hs s hs'
  have h0:=ho j hj hji (10+s*2) (by omega)
  rw [<-Nat.add_assoc] at h0
  rw [h0];exact h.loc j hj s hs'
theorem Y5 {l : List Ins} (hl : zIs l) {i : Nat} (hi : i < 4) : ∀ (n : Nat) {k : List Int} {p : Nat}, k.length = 112 → gt k (i * 26) = (p : Nat) → p ≤ l.length →
    ∃ p':Nat,gt (locT l i n k) (i*26)=(p':Nat)/\p<=p'/\p'<=l.length/\∀ q,¬ zIt i q->gt (locT l i n k) q=gt k q
  | 0,k,p,_,hp,hpl=>⟨p,hp,Nat.le_refl _,hpl,fun _ _=>rfl⟩
  | n+1,k,p,hk,hp,hpl=>by
    unfold locT
    rw [hp,Int.toNat_natCast]
    cases hx:l[p]? with
    | none=>exact ⟨p,hp,Nat.le_refl _,hpl,fun _ _=>rfl⟩
    | some x =>
      dsimp only
      have hok:=hl.2 p x hx
      by_cases hs:X2_ x i k=true
      . rw [if_pos hs];exact ⟨p,hp,Nat.le_refl _,hpl,fun _ _=>rfl⟩
      rw [if_neg hs]
      obtain ⟨p1,_,h2,h3,h4⟩:=zIu hk hi hp hok
      obtain ⟨p',e1,e2,e3,e4⟩:=Y5 hl hi n (k:=WT_ (j8 x i k) i) (p:=p1+1) (by rw [Zb_,Za_,hk]) h4 (by omega)
      refine ⟨p',e1,by omega,e3,fun q hq=>?_⟩
      rw [e4 q hq,S9 (fun e=>hq (.inl e)),zEv hok.rd0 hok.rd8 hq]
theorem V9_ {i j c:Nat} (hj:j≠i) (hc:c<26):¬ zIt i (j*26+c):=by unfold zIt;omega
theorem MOk.locT {t:Tst} {k:List Int} (h:MOk t k) {i:Nat} (hi:i<4) {l:List Ins} (hx:t.ths[i]?=some l) (hl:zIs l) (n:Nat):MOk t (locT l i n k):=by
 obtain ⟨p,w,h1,h2,h3,h4⟩:=h.th i hi
 rw [VD_ hx] at h4
 obtain ⟨p',e1,e2,e3,e4⟩:=Y5 hl hi n h.len h1 h4
 refine h.of i ((zCp l i n k).trans h.len) (fun j hj hji c hc=>e4 _ (V9_ hji hc)) ⟨p',w,e1,?_,by omega,by rw [VD_ hx];exact e3⟩ fun s hs=>?_
 .rw [e4 _ (by unfold zIt;omega),h2]
 rw [e4 _ (by unfold zIt;omega)];exact h.loc i hi s hs
def y1 (l:List Ins) (p:Nat):Nat:=((l.drop p).filter fun x=>M2 x.op).length
theorem VE_ (l:List Ins) {p q:Nat} (h:p<=q):y1 l q<=y1 l p:=by
 obtain ⟨d,rfl⟩:∃ d,q=p+d:=⟨q-p,by omega⟩
 unfold y1
 rw [<-drop_drop]
 exact ((drop_sublist d (l.drop p)).filter _).length_le
theorem zEz {l:List Ins} {p:Nat} {x:Ins} (h:l[p]?=some x) (hm:M2 x.op=true):y1 l (p+1)+1=y1 l p:=by
 unfold y1
 rw [M3 h,filter_cons,if_pos hm,length_cons]
def muI (t:Tst) (k:List Int) (i:Nat):Nat:=2*y1 (lth t i) (gt k (i*26)).toNat+(gt k (i*26+1)).toNat
def muT (t:Tst) (k:List Int):Nat:=muI t k 0+muI t k 1+muI t k 2+muI t k 3
theorem zQp {t:Tst} {k k':List Int} {i:Nat} (hi:i<4) (ho:∀ j,j<4->j≠i->∀ c,c<26->gt k' (j*26+c)=gt k (j*26+c)) (h:muI t k' i<muI t k i):muT t k'<muT t k:=by
 have e:∀ j,j<4->j≠i->muI t k' j=muI t k j:=fun j hj hji=>by
  have h0:=ho j hj hji 0 (by omega)
  have h1:=ho j hj hji 1 (by omega)
  rw [Nat.add_zero] at h0
  simp only [muI,h0,h1]
 unfold muT
 rcases lt4 hi with rfl|rfl|rfl|rfl
 .rw [e 1 (by omega) (by omega),e 2 (by omega) (by omega),e 3 (by omega) (by omega)];omega
 .rw [e 0 (by omega) (by omega),e 2 (by omega) (by omega),e 3 (by omega) (by omega)];omega
 .rw [e 0 (by omega) (by omega),e 1 (by omega) (by omega),e 3 (by omega) (by omega)];omega
 rw [e 0 (by omega) (by omega),e 1 (by omega) (by omega),e 2 (by omega) (by omega)];omega
theorem zOb {x:Ins} {i:Nat} {k q:List Int} (h:WV_ x i k=some q):M2 x.op=true:=by
 unfold WV_ at h
 split at h
 .rename_i e;simp [M2,rdB,wrB,e]
 split at h
 .rename_i e;simp [M2,rdB,wrB,e]
 split at h
 .rename_i e;rcases e with e|e<;>simp [M2,rdB,wrB,e]
 cases h
theorem zJ2 {x : Ins} {i : Nat} {k q : List Int} {w : Nat} (hk : k.length = 112) (hi : i < 4) (hr0 : 0 ≤ x.rd) (hr8 : x.rd < 8) (hlo : 0 ≤ x.loc ∧ x.loc < 8) (hw : gt k (i * 26 + 1) = (w : Nat)) (hw8 : w < 8) (h : WV_ x i k = some q) :
    (∀ j,j<4->j≠i->∀ c,c<26->gt q (j*26+c)=gt k (j*26+c))/\(∃ w':Nat,gt q (i*26+1)=(w':Nat)/\w'<=w+1)/\∀ s,s<8->gt q (i*26+10+s*2)=gt k (i*26+10+s*2)\/gt q (i*26+10+s*2)=x.loc:=by
  unfold WV_ at h
  split at h
  . cases h
    exact ⟨fun j hj hji c hc=>H9 (by omega),⟨w,by rw [H9 (by omega),hw],by omega⟩,fun s hs=>.inl (H9 (by omega))⟩
  split at h
  . cases h
    rw [hw,Int.toNat_natCast]
    refine ⟨fun j hj hji c hc=>by rw [H9 (by omega),H9 (by omega),H9 (by omega)],⟨w+1,by rw [d8 (by simp;omega)];rfl,by omega⟩,fun s hs=>?_⟩
    rw [H9 (by omega),H9 (by omega)]
    by_cases e:w=s
    . subst e;rw [d8 (by omega)];exact .inr rfl
    rw [H9 (by omega)];exact .inl rfl
  split at h
  . split at h
    . cases h
    cases h
    exact ⟨fun j hj hji c hc=>by rw [H9 (by omega),H9 (by omega)],⟨w,by rw [H9 (by omega),H9 (by omega),hw],by omega⟩,fun s hs=>.inl (by rw [H9 (by omega),H9 (by omega)])⟩
  cases h
theorem Ze_ {t:Tst} (ht:TTOk t) {k q:List Int} (h:MOk t k) {i:Nat} {l:List Ins} (hx:t.ths[i]?=some l) (hq:N0 l i k=some q):MOk t q/\muT t q<muT t k:=by
 have hi:i<4:=by have:=(List.getElem?_eq_some_iff.1 hx).1;have:=ht.ths;omega
 have hl:=ht.thr i l hx
 obtain ⟨p,w,h1,h2,h3,h4⟩:=h.th i hi
 rw [VD_ hx] at h4
 unfold N0 at hq
 rw [h1,Int.toNat_natCast] at hq
 cases hg:l[p]? with
 | none=>rw [hg] at hq;cases hq
 | some x =>
  rw [hg] at hq
  dsimp only at hq
  cases ho:WV_ x i k with
  | none=>rw [ho] at hq;cases hq
  | some q1 =>
   rw [ho] at hq
   cases hq
   have hok:=hl.2 p x hg
   have hpl:=(List.getElem?_eq_some_iff.1 hg).1
   have hm:=zOb ho
   have hlo:=hok.loc hm
   have hl8:=hl.1
   obtain ⟨a1,⟨w',a2,a3⟩,a4⟩:=zJ2 h.len hi hok.rd0 hok.rd8 hlo h2 (by omega) ho
   have hq1:q1.length=112:=(zCt ho).trans h.len
   have hp1:gt q1 (i*26)=(p:Nat):=(zJ0 hi hok.rd0 (fun hh=>(hok.loc hh).2) ho).trans h1
   have hip:gt (WT_ q1 i) (i*26)=((p+1:Nat):Int):=by unfold WT_;rw [d8 (by omega),hp1];rfl
   have h2k:(WT_ q1 i).length=112:=(Zb_ q1 i).trans hq1
   have hM:MOk t (WT_ q1 i):=by
    refine h.of i h2k (fun j hj hji c hc=>?_) ⟨p+1,w',hip,?_,by omega,by rw [VD_ hx];omega⟩ fun s hs=>?_
    .rw [S9 (by omega)];exact a1 j hj hji c hc
    .rw [S9 (by omega)];exact a2
    rw [S9 (by omega)]
    rcases a4 s hs with e|e
    .rw [e];exact h.loc i hi s hs
    rw [e];exact hlo
   refine ⟨hM.locT hi hx hl _,zQp hi (fun j hj hji c hc=>?_) ?_⟩
   .obtain ⟨_,_,_,_,e4⟩:=Y5 hl hi (l.length+1) h2k hip hpl
    rw [e4 _ (V9_ hji hc),S9 (by omega)];exact a1 j hj hji c hc
   obtain ⟨p',e1,e2,e3,e4⟩:=Y5 hl hi (l.length+1) h2k hip hpl
   have hwl:gt (locT l i (l.length+1) (WT_ q1 i)) (i*26+1)=(w':Nat):=by rw [e4 _ (by unfold zIt;omega),S9 (by omega),a2]
   have m1:=zEz hg hm
   have m2:=VE_ l e2
   simp only [muI,VD_ hx,e1,hwl,h1,h2,Int.toNat_natCast]
   omega
def j5 (t:Tst) (k:List Int) (i:Nat):List Int:=locT (lth t i) i ((lth t i).length+1) (O1 k i ((gt k (i*26+1)).toNat-1))
theorem VF_ {k:List Int} (hk:k.length=112) {i:Nat} (hi:i<4) (w:Nat):(O1 k i w).length=112:=by
 unfold O1 Y4
 rw [length_set,length_set,length_set,Z8_ (by unfold P1;rw [length_set,hk]) hi]
theorem y2 {k : List Int} (hk : k.length = 112) {i : Nat} (hi : i < 4) {w : Nat} (hw8 : w < 8) (hlo : ∀ s, s < 8 → 0 ≤ gt k (i * 26 + 10 + s * 2) ∧ gt k (i * 26 + 10 + s * 2) < 8) :
    (∀ j,j<4->j≠i->∀ c,c<26->gt (O1 k i w) (j*26+c)=gt k (j*26+c))/\gt (O1 k i w) (i*26)=gt k (i*26)/\gt (O1 k i w) (i*26+1)=(w:Nat) ∧
    ∀ s,s<8->0<=gt (O1 k i w) (i*26+10+s*2)/\gt (O1 k i w) (i*26+10+s*2)<8:=by
  have h1:(P1 k i).length=112:=by unfold P1;rw [length_set,hk]
  have h2:(j4 (P1 k i) i).length=112:=Z8_ h1 hi
  have hd:∀ q,q<104->gt (P1 k i) q=gt k q:=fun q hq=>by unfold P1;exact H9 (by omega)
  refine ⟨fun j hj hji c hc=>?_,?_,?_,fun s hs=>?_⟩
  . unfold O1 Y4
    rw [H9 (by omega),H9 (by omega),H9 (by omega),Y4_ h1 hi,if_neg (by omega),hd _ (by omega)]
  . unfold O1 Y4
    rw [H9 (by omega),H9 (by omega),H9 (by omega),Y4_ h1 hi,if_neg (by omega),hd _ (by omega)]
  . unfold O1 Y4
    rw [H9 (by omega),H9 (by omega),d8 (by omega)]
  unfold O1
  rw [H9 (by omega)]
  by_cases e:w=s
  . subst e
    rw [d8 (by unfold Y4;rw [length_set];omega)];omega
  rw [H9 (by omega)]
  unfold Y4
  rw [H9 (by omega),Y4_ h1 hi]
  by_cases h7:s<7
  . rw [if_pos (by omega),hd _ (by omega),show i*26+10+s*2+2=i*26+10+(s+1)*2 by omega]
    exact hlo (s+1) (by omega)
  rw [if_neg (by omega),hd _ (by omega)]
  exact hlo s hs
theorem zJ3 {t:Tst} {k:List Int} (h:MOk t k) {i:Nat} (hi:i<4) (hw:0<gt k (i*26+1)) (hl8:(lth t i).length<=8):MOk t (O1 k i ((gt k (i*26+1)).toNat-1)):=by
 obtain ⟨p,w,h1,h2,h3,h4⟩:=h.th i hi
 rw [h2,Int.toNat_natCast]
 obtain ⟨a1,a2,a3,a4⟩:=y2 (w:=w-1) h.len hi (by omega) (h.loc i hi)
 exact h.of i (VF_ h.len hi _) a1 ⟨p,w-1,a2.trans h1,a3,by omega,h4⟩ a4
theorem Zf_ {t:Tst} (ht:TTOk t) {k:List Int} (h:MOk t k) {i:Nat} {l:List Ins} (hx:t.ths[i]?=some l) (hw:0<gt k (i*26+1)):MOk t (j5 t k i)/\muT t (j5 t k i)<muT t k:=by
 have hi:i<4:=by have:=(List.getElem?_eq_some_iff.1 hx).1;have:=ht.ths;omega
 have hl:=ht.thr i l hx
 have hlt:=VD_ hx
 have hM:=zJ3 h hi hw (by rw [hlt];exact hl.1)
 obtain ⟨p,w,h1,h2,h3,h4⟩:=h.th i hi
 unfold j5
 rw [hlt]
 rw [hlt] at h4
 refine ⟨hM.locT hi hx hl _,?_⟩
 rw [h2,Int.toNat_natCast] at hM ⊢
 have hl8:=hl.1
 obtain ⟨a1,a2,a3,a4⟩:=y2 (w:=w-1) h.len hi (by omega) (h.loc i hi)
 obtain ⟨p',e1,e2,e3,e4⟩:=Y5 hl hi (l.length+1) hM.len (a2.trans h1) h4
 refine zQp hi (fun j hj hji c hc=>?_) ?_
 .rw [e4 _ (V9_ hji hc)];exact a1 j hj hji c hc
 have hwl:gt (locT l i (l.length+1) (O1 k i (w-1))) (i*26+1)=((w-1:Nat):Int):=by rw [e4 _ (by unfold zIt;omega),a3]
 have m2:=VE_ l e2
 simp only [muI,hlt,e1,hwl,h1,h2,Int.toNat_natCast]
 omega
abbrev Ex:=List (List Int) × List (List Int)
def UA_ (t:Tst) (k:List Int) (n:Nat):Bool:=(List.range n).all fun i=>(N0 (lth t i) i k).isNone&&decide (gt k (i*26+1)<=0)
def zA9 (f:List Int->Ex->Ex) (t:Tst) (k:List Int) (i:Nat) (s:Ex):Ex:=match N0 (lth t i) i k with|some q=>f q s|none=>s
def zQq (f:List Int->Ex->Ex) (t:Tst) (k:List Int) (i:Nat) (s:Ex):Ex:=if 0<gt k (i*26+1) then f (j5 t k i) (zA9 f t k i s) else zA9 f t k i s
def Zx_ (f:List Int->Ex->Ex) (t:Tst) (k:List Int):Nat->Ex->Ex
 | 0,s=>s
 | n+1,s=>zQq f t k n (Zx_ f t k n s)
def G9 (t:Tst):Nat->List Int->Ex->Ex
 | 0,_,s=>s
 | n+1,k,s =>
  if k∈s.1 then s
  else
   let s2:=Zx_ (G9 t n) t k t.ths.length (s.1++[k],s.2)
   if UA_ t k t.ths.length=true then (s2.1,zQo (zFr t k) s2.2) else s2
structure ExOk (s:Ex):Prop where
 seen:∀ q∈s.1,q.length=112
 ends:∀ q∈s.2,q.length=41
theorem zAa {f:List Int->Ex->Ex} {t:Tst} (ht:TTOk t) {k:List Int} (hM:MOk t k) {i:Nat} (hi:i<t.ths.length) (hf:∀ q s,MOk t q->ExOk s->ExOk (f q s)) {s:Ex} (h:ExOk s):ExOk (zA9 f t k i s):=by
 have hx:t.ths[i]?=some (lth t i):=by rw [lth,List.getD,List.getElem?_eq_getElem hi];rfl
 unfold zA9
 split
 .rename_i q hq;exact hf _ _ (Ze_ ht hM hx hq).1 h
 exact h
theorem zVy {f:List Int->Ex->Ex} {t:Tst} (ht:TTOk t) {k:List Int} (hM:MOk t k) {i:Nat} (hi:i<t.ths.length) (hf:∀ q s,MOk t q->ExOk s->ExOk (f q s)) {s:Ex} (h:ExOk s):ExOk (zQq f t k i s):=by
 have hx:t.ths[i]?=some (lth t i):=by rw [lth,List.getD,List.getElem?_eq_getElem hi];rfl
 unfold zQq
 split
 .rename_i hw;exact hf _ _ (Zf_ ht hM hx hw).1 (zAa ht hM hi hf h)
 exact zAa ht hM hi hf h
theorem zAb {f:List Int->Ex->Ex} {t:Tst} (ht:TTOk t) {k:List Int} (hM:MOk t k) (hf:∀ q s,MOk t q->ExOk s->ExOk (f q s)):∀ (n:Nat),n<=t.ths.length->∀ {s:Ex},ExOk s->ExOk (Zx_ f t k n s)
 | 0,_,_,h=>h
 | n+1,hn,_,h=>zVy ht hM (by omega) hf (zAb ht hM hf n (by omega) h)
theorem zOc {t:Tst} (ht:TTOk t) (k:List Int):(zFr t k).length=41:=ZY_ ht.ths ht.locs _ _
theorem Zg_ {t:Tst} (ht:TTOk t):∀ (n:Nat) (k:List Int) (s:Ex),MOk t k->ExOk s->ExOk (G9 t n k s)
 | 0,_,_,_,h=>h
 | n+1,k,s,hM,h=>by
  unfold G9
  split
  .exact h
  dsimp only
  have h1:ExOk (s.1++[k],s.2):=⟨fun q hq=>by rcases List.mem_append.1 hq with hq|hq;exact h.seen q hq;simp at hq;subst hq;exact hM.len,h.ends⟩
  have h2:=zAb ht hM (fun q s hq hs=>Zg_ ht n q s hq hs) t.ths.length (Nat.le_refl _) h1
  split
  .exact ⟨h2.seen,fun q hq=>by rcases zOa.1 hq with rfl|hq;exact zOc ht k;exact h2.ends q hq⟩
  exact h2
theorem VG_ (t:Tst) (k:List Int) (n:Nat):UA_ t k (n+1)=(UA_ t k n&&((N0 (lth t n) n k).isNone&&decide (gt k (n*26+1)<=0))):=by
 unfold UA_;rw [range_succ,all_append];simp
def zdc:List Int:=List.replicate 112 0
def X5_ (t:Tst):Nat->List Int
 | 0=>zdc
 | i+1=>(X5_ t i).set (104+i) ((t.locs.getD i ⟨.empty,0⟩).v)
def Y6 (t:Tst):Nat->List Int
 | 0=>X5_ t t.locs.length
 | i+1=>locT (lth t i) i ((lth t i).length+1) (Y6 t i)
def zAc (t:Tst):List Int:=Y6 t t.ths.length
def P9 (t:Tst):List (List Int):=(G9 t (muT t (zAc t)+1) (zAc t) ([],[])).2
theorem Zh_ (t:Tst):∀ i,(X5_ t i).length=112
 | 0=>length_replicate
 | i+1=>by rw [X5_,length_set,Zh_ t i]
theorem Y7 (t:Tst):∀ (i q:Nat),q<104->gt (X5_ t i) q=0
 | 0,q,h=>by
  unfold X5_ zdc gt
  rw [List.getD,List.getElem?_replicate]
  split<;>rfl
 | i+1,q,h=>by rw [X5_,H9 (by omega),Y7 t i q h]
theorem X6_ {t:Tst} (ht:TTOk t):∀ i,i<=t.ths.length->MOk t (Y6 t i)/\(∀ j,j<4->gt (Y6 t i) (j*26+1)=0)/\∀ j,i<=j->j<4->gt (Y6 t i) (j*26)=0
 | 0,_=>⟨⟨Zh_ t _,fun j hj=>⟨0,0,Y7 t _ _ (by omega),Y7 t _ _ (by omega),Nat.le_refl _,Nat.zero_le _⟩,fun j hj s hs=>by rw [Y6,Y7 t _ _ (by omega)];omega⟩,fun j hj=>Y7 t _ _ (by omega),fun j _ hj=>Y7 t _ _ (by omega)⟩
 | i+1,h=>by
  obtain ⟨h1,h2,h3⟩:=X6_ ht i (by omega)
  have hi:i<4:=by have:=ht.ths;omega
  have hx:t.ths[i]?=some (lth t i):=by rw [lth,List.getD,List.getElem?_eq_getElem (by omega)];rfl
  have hl:=ht.thr i _ hx
  obtain ⟨p,w,e1,e2,e3,e4⟩:=h1.th i hi
  obtain ⟨p',a1,a2,a3,a4⟩:=Y5 hl hi ((lth t i).length+1) h1.len e1 e4
  refine ⟨h1.locT hi hx hl _,fun j hj=>?_,fun j hj hj4=>?_⟩
  .rw [Y6,a4 _ (by unfold zIt;omega)];exact h2 j hj
  rw [Y6,a4 _ (by unfold zIt;omega)];exact h3 j (by omega) hj4
theorem zAd {t:Tst} (ht:TTOk t):MOk t (zAc t):=(X6_ ht _ (Nat.le_refl _)).1
section
variable {f:List Int->Ex->Ex} {t:Tst} {k:List Int}
theorem zCu {R:Ex->Ex->Prop} (ht:TTOk t) (hM:MOk t k) (hr:∀ s,R s s) (htr:∀ a b c,R a b->R b c->R a c) (hf:∀ q s,MOk t q->muT t q<muT t k->R s (f q s)):∀ (n:Nat),n<=t.ths.length->∀ s,R s (Zx_ f t k n s)
 | 0,_,s=>hr s
 | n+1,hn,s=>by
  have hx:t.ths[n]?=some (lth t n):=by rw [lth,List.getD,List.getElem?_eq_getElem (by omega)];rfl
  have h1:=zCu ht hM hr htr hf n (by omega) s
  have h2:R (Zx_ f t k n s) (zA9 f t k n (Zx_ f t k n s)):=by
   unfold zA9
   split
   .rename_i q hq;exact hf _ _ (Ze_ ht hM hx hq).1 (Ze_ ht hM hx hq).2
   exact hr _
  rw [Zx_,zQq]
  split
  .rename_i hw;exact htr _ _ _ (htr _ _ _ h1 h2) (hf _ _ (Zf_ ht hM hx hw).1 (Zf_ ht hM hx hw).2)
  exact htr _ _ _ h1 h2
end
theorem y3 {t:Tst} (ht:TTOk t):∀ (n:Nat) (k:List Int) (s:Ex),MOk t k->s.2.Nodup->(G9 t n k s).2.Nodup
 | 0,k,s,hM,h=>h
 | n+1,k,s,hM,h=>by
  have h1:=zCu (f:=G9 t n) (R:=fun a b=>a.2.Nodup->b.2.Nodup) ht hM (fun _ h=>h) (fun _ _ _ h h' x=>h' (h x)) (fun q s hq _ hs=>y3 ht n q s hq hs) t.ths.length (Nat.le_refl _) (s.1++[k],s.2) h
  unfold G9
  split
  .exact h
  dsimp only
  split
  .exact zEy h1
  exact h1
def Qe_ (loc:Int):Ins:={ op:=10,rd:=0,loc:=loc,aR:=false,aN:=1,bR:=false,bN:=0,acq:=false,rel:=false,dep:=0,pred:=0,succ:=0,skip:=0 }
def Qf_ (loc:Int):Ins:={ op:=9,rd:=0,loc:=loc,aR:=false,aN:=0,bR:=false,bN:=0,acq:=false,rel:=false,dep:=0,pred:=0,succ:=0,skip:=0 }
def zdd:Ins:={ op:=15,rd:=0,loc:=0,aR:=false,aN:=0,bR:=false,bN:=0,acq:=false,rel:=false,dep:=0,pred:=2,succ:=1,skip:=0 }
def zQr (f:Bool) (i:Int):List Ins:=if f then [Qe_ i,zdd,Qf_ (1-i)] else [Qe_ i,Qf_ (1-i)]
def nmX:ByteArray:=⟨#[120]⟩
def nmY:ByteArray:=⟨#[121]⟩
def zF0:List Ini:=[⟨nmX,0⟩,⟨nmY,0⟩]
def Wd_ (f:Bool):Tst:={ locs:=zF0,ths:=[zQr f 0,zQr f 1],asks:=[] }
def zOd (f:Bool) (i:Nat):List (List Ins):=(Wd_ f).ths.take i
theorem UB_ {f:Bool} {i:Nat} (h:i<=2):(zOd f i).length=i:=by unfold zOd Wd_;simp;omega
theorem Qg_ {f:Bool} {i:Nat} (h:i<2):zOd f (i+1)=zOd f i++[zQr f (i:Nat)]:=by
 have:i=0\/i=1:=by omega
 rcases this with rfl|rfl<;>rfl
theorem zOe (f:Bool):zOd f 2=(Wd_ f).ths:=rfl
theorem zJ4 (f:Bool):(Wd_ f).cs=[.ro 2 (W7 zF0),.ro 1 (N3 (Wd_ f).ths),.ro 3 []]:=rfl
theorem YA_ (f:Bool):TTOk (Wd_ f):=by
 refine ⟨by cases f<;>decide,by cases f<;>decide,fun i l h=>?_⟩
 have hi:i<2:=(List.getElem?_eq_some_iff.1 h).1
 have hc:i=0\/i=1:=by omega
 have ok:∀ (len p:Nat) (x:Ins),x=Qe_ 0\/x=Qe_ 1\/x=zdd\/x=Qf_ 0\/x=Qf_ 1->p+1<=len->TOk len p x:=by
  intro len p x hx hp
  rcases hx with rfl|rfl|rfl|rfl|rfl<;>exact ⟨by decide,by decide,by decide,by decide,by decide,by decide,by decide,by decide,by decide,by simp [Qe_,Qf_,zdd];omega⟩
 have hl:l=zQr f (i:Nat):=by rcases hc with rfl|rfl<;>exact (Option.some.inj h).symm
 subst hl
 refine ⟨by cases f<;>simp [zQr],fun p x hx=>?_⟩
 have hp:=(List.getElem?_eq_some_iff.1 hx).1
 refine ok _ p x ?_ hp
 have hm:=List.mem_of_getElem? hx
 rcases hc with rfl|rfl<;>cases f<;>simp only [zQr,Bool.false_eq_true,if_false,if_true,mem_cons,not_mem_nil,or_false] at hm
 .rcases hm with h|h<;>subst h<;>simp
 .rcases hm with h|h|h<;>subst h<;>simp
 .rcases hm with h|h<;>subst h<;>simp
 rcases hm with h|h|h<;>subst h<;>simp
theorem zVz:P9 (Wd_ false)=[4::([0,1,1,1]++List.replicate 36 0),4::([0,0,1,1]++List.replicate 36 0),4::([1,1,1,1]++List.replicate 36 0),4::([1,0,1,1]++List.replicate 36 0)]:=by kernel_rfl
theorem zW0:P9 (Wd_ true)=[4::([0,1,1,1]++List.replicate 36 0),4::([1,1,1,1]++List.replicate 36 0),4::([1,0,1,1]++List.replicate 36 0)]:=by kernel_rfl
def st4:List Int:=4::([0,0,1,1]++List.replicate 36 0)
def Qh_ (l:List Ins) (b:Nat):Nat:=((l.take b).filter fun x=>M2 x.op).length
def y4:List (List Ins)->Nat->Nat
 | _,0=>0
 | ths,i+1=>y4 ths i+Qh_ (ths.getD i []) (ths.getD i []).length
def Zi_ (t:Tst):Nat:=y4 t.ths t.ths.length
theorem Qi_ {l:List Ins} {b:Nat} {x:Ins} (h:l[b]?=some x):Qh_ l (b+1)=Qh_ l b+if M2 x.op=true then 1 else 0:=by
 unfold Qh_
 rw [M1 h,filter_append,length_append,filter_cons]
 split<;>simp
theorem zJ5 (l:List Ins) (b:Nat):Qh_ l b<=b:=by
 unfold Qh_
 have:=length_filter_le (fun x:Ins=>M2 x.op) (l.take b)
 rw [length_take] at this;omega
theorem zCv {t:Tst} (h:∀ x∈t.ths,x.length<=8):∀ i,i<=t.ths.length->y4 t.ths i<=8*i
 | 0,_=>by simp [y4]
 | i+1,hi=>by
  have h1:=zCv h i (by omega)
  have h2:=zJ5 (t.ths.getD i []) (t.ths.getD i []).length
  have h3:(t.ths.getD i []).length<=8:=by
   rw [List.getD,List.getElem?_eq_getElem (by omega)]
   exact h _ (List.getElem_mem _)
  simp only [y4];omega
def o9 (t:Tst) (n:Int):Int:=if H5 t≠0 then 0 else if n<(Zi_ t:Int) then 0 else 1
theorem UC_ {t:Tst} (h:H5 t=0) (hw:Z4_ t):TTOk t:=by
 have hz:=P8.1 h
 have hs:=M9 hz.1
 refine ⟨hs.2.1,hs.2.2.1,fun i l hl=>⟨hs.2.2.2.2.1 l (List.mem_of_getElem? hl),fun p x hx=>?_⟩⟩
 have h4:=(Z0_ _ _).1 hz.2.2.1 i l hl
 have h5:=(Z0_ _ _).1 h4 p x hx
 obtain ⟨e1,e2,e3,_,e5,_,e7⟩:=x5.1 h5
 obtain ⟨⟨w1,_⟩,w2,_⟩:=hw l (List.mem_of_getElem? hl) x (List.mem_of_getElem? hx)
 simp only [zN9,Bool.or_eq_false_iff,decide_eq_false_iff_not] at e1
 simp only [zBu,Bool.or_eq_false_iff,decide_eq_false_iff_not] at e2
 simp only [zNb,Bool.or_eq_false_iff,decide_eq_false_iff_not] at e7
 obtain ⟨a1,a2,a3,a4,a5,a6⟩:=e2
 refine ⟨by omega,by omega,by omega,by omega,fun hr=>⟨w1,?_⟩,fun hr=>⟨w2,?_⟩,fun ho=>?_,fun hm=>?_,by omega,by omega⟩
 .simp only [Yg_,hr,Bool.not_true,Bool.false_or,Bool.not_eq_false',decide_eq_true_eq] at a3;exact a3
 .simp only [Yg_,hr,Bool.not_true,Bool.false_or,Bool.not_eq_false',decide_eq_true_eq] at a4;exact a4
 .simp only [zEi,ho,decide_true,Bool.true_and,Bool.or_eq_false_iff,decide_eq_false_iff_not] at e5
  omega
 simp only [Jx_,hm,Bool.true_and,Bool.or_eq_false_iff,decide_eq_false_iff_not] at e3
 have:=hs.2.2.1
 omega
def X7_:Go.Shelf.Ren:=⟨fun|14=>148|20=>179|21=>180|22=>181|23=>182|24=>183|25=>184|26=>185|27=>186|46=>206|47=>207|48=>208|49=>209|50=>210|15=>149|57=>224|28=>187|29=>188|n=>n,fun|24=>73|22=>30|3=>3|25=>194|4=>4|0=>0|46=>262|45=>261|50=>209|66=>284|39=>232|55=>54|70=>288|76=>303|77=>304|53=>268|5=>5|9=>9|n=>n,fun|n=>n⟩
theorem sortLay:Go.Proofs.SlLaysF0.n14 Tryz.prog X7_ where
 mixed:=by kernel_rfl
 f14:=⟨ "slices.pdqsortCmpFunc[ordeal/outcome.State]",by decide,Tryz.func148.trans (congrArg some (by kernel_rfl))⟩
 f15:=Tryz.func149.trans (congrArg some (by kernel_rfl))
 f20:=⟨ "slices.insertionSortCmpFunc[ordeal/outcome.State]",by decide,Tryz.func179.trans (congrArg some (by kernel_rfl))⟩
 f21:=⟨ "slices.heapSortCmpFunc[ordeal/outcome.State]",by decide,Tryz.func180.trans (congrArg some (by kernel_rfl))⟩
 f22:=⟨ "slices.breakPatternsCmpFunc[ordeal/outcome.State]",by decide,Tryz.func181.trans (congrArg some (by kernel_rfl))⟩
 f23:=⟨ "slices.choosePivotCmpFunc[ordeal/outcome.State]",by decide,Tryz.func182.trans (congrArg some (by kernel_rfl))⟩
 f24:=⟨ "slices.reverseRangeCmpFunc[ordeal/outcome.State]",by decide,Tryz.func183.trans (congrArg some (by kernel_rfl))⟩
 f25:=⟨ "slices.partialInsertionSortCmpFunc[ordeal/outcome.State]",by decide,Tryz.func184.trans (congrArg some (by kernel_rfl))⟩
 f26:=⟨ "slices.partitionEqualCmpFunc[ordeal/outcome.State]",by decide,Tryz.func185.trans (congrArg some (by kernel_rfl))⟩
 f27:=⟨ "slices.partitionCmpFunc[ordeal/outcome.State]",by decide,Tryz.func186.trans (congrArg some (by kernel_rfl))⟩
 f28:=Tryz.func187.trans (congrArg some (by kernel_rfl))
 f29:=Tryz.func188.trans (congrArg some (by kernel_rfl))
 f46:=⟨ "slices.siftDownCmpFunc[ordeal/outcome.State]",by decide,Tryz.func206.trans (congrArg some (by kernel_rfl))⟩
 f47:=Tryz.func207.trans (congrArg some (by kernel_rfl))
 f48:=Tryz.func208.trans (congrArg some (by kernel_rfl))
 f49:=⟨ "slices.medianAdjacentCmpFunc[ordeal/outcome.State]",by decide,Tryz.func209.trans (congrArg some (by kernel_rfl))⟩
 f50:=⟨ "slices.medianCmpFunc[ordeal/outcome.State]",by decide,Tryz.func210.trans (congrArg some (by kernel_rfl))⟩
 f57:=⟨ "slices.order2CmpFunc[ordeal/outcome.State]",by decide,Tryz.func224.trans (congrArg some (by kernel_rfl))⟩
 t0:=Tryz.underlying0
 a0:=Tryz.isAgg0
 z0:=Tryz.sizeOf0
 v0:=Tryz.zeroValue0
 t3:=Tryz.underlying3
 a3:=Tryz.isAgg3
 z3:=Tryz.sizeOf3
 v3:=Tryz.zeroValue3
 t4:=Tryz.underlying4
 a4:=Tryz.isAgg4
 z4:=Tryz.sizeOf4
 v4:=Tryz.zeroValue4
 t5:=Tryz.underlying5
 a5:=Tryz.isAgg5
 z5:=Tryz.sizeOf5
 v5:=Tryz.zeroValue5
 t9:=Tryz.underlying9
 a9:=Tryz.isAgg9
 z9:=Tryz.sizeOf9
 v9:=Tryz.zeroValue9
 t22:=Tryz.underlying30
 a22:=Tryz.isAgg30
 z22:=Tryz.sizeOf30
 v22:=Tryz.zeroValue30
 t25:=Tryz.underlying194
 a25:=Tryz.isAgg194
 z25:=Tryz.sizeOf194
 v25:=Tryz.zeroValue194
 t39:=Tryz.underlying232
 a39:=Tryz.isAgg232
 z39:=Tryz.sizeOf232
 v39:=Tryz.zeroValue232
 t45:=Tryz.underlying261
 a45:=Tryz.isAgg261
 z45:=Tryz.sizeOf261
 v45:=Tryz.zeroValue261
 t46:=Tryz.underlying262
 a46:=Tryz.isAgg262
 z46:=Tryz.sizeOf262
 v46:=Tryz.zeroValue262
 t50:=Tryz.underlying209
 a50:=Tryz.isAgg209
 z50:=Tryz.sizeOf209
 v50:=Tryz.zeroValue209
 t53:=Tryz.underlying268
 a53:=Tryz.isAgg268
 z53:=Tryz.sizeOf268
 v53:=Tryz.zeroValue268
 t55:=Tryz.underlying54
 a55:=Tryz.isAgg54
 z55:=Tryz.sizeOf54
 v55:=Tryz.zeroValue54
 t66:=Tryz.underlying284
 a66:=Tryz.isAgg284
 z66:=Tryz.sizeOf284
 v66:=Tryz.zeroValue284
 t70:=Tryz.underlying288
 a70:=Tryz.isAgg288
 z70:=Tryz.sizeOf288
 v70:=Tryz.zeroValue288
 t76:=Tryz.underlying303
 a76:=Tryz.isAgg303
 z76:=Tryz.sizeOf303
 v76:=Tryz.zeroValue303
 t77:=Tryz.underlying304
 a77:=Tryz.isAgg304
 z77:=Tryz.sizeOf304
 v77:=Tryz.zeroValue304
abbrev zJ6:={l:List Int // l.length=41}
instance:Inhabited zJ6:=⟨⟨List.replicate 41 0,rfl⟩⟩
def zde:List Int->List Value
 | []=>[]
 | n::r=>.int .i64 n::r.map fun m=>.int .u64 m
theorem zdf (k:List Int):(zde k).map V.val=stK k:=by
 cases k with
 | nil=>rfl
 | cons n r=>simp only [zde,map_cons,map_map,stK];rfl
theorem zOf (k:List Int):(zde k).length=k.length:=by cases k<;>simp [zde]
def zZ1 (k:zJ6):List Value:=zde k.1
theorem zga (k:zJ6):o4 zZ1 k=.agg (stK k.1):=by simp only [o4,zZ1,zdf]
def stR (l:List (List Int)):List V:=l.map fun k=>.agg (stK k)
theorem UD_ (l:List (List Int)):(stR l).length=l.length:=length_map ..
theorem zF1 (l:List (List Int)) (h:∀ q∈l,q.length=41):(l.attach.map fun q=>(⟨q.1,h q.1 q.2⟩:zJ6)).map (o4 zZ1)=stR l:=by
 rw [map_map]
 have:(o4 zZ1 ∘ fun q:{x // x∈l}=>(⟨q.1,h q.1 q.2⟩:zJ6))=fun q=>V.agg (stK q.1):=funext fun q=>zga _
 rw [this]
 exact attach_map_val (f:=fun k=>V.agg (stK k)) ..
theorem zdg:Go.Sort.SWO (Go.Proofs.ltOf fun a b:zJ6=>s0 a.1 b.1) where
 irrefl x:=Xu_ x.1
 trans x y z:=Y3
 ntrans x y z h h':=by
  show ltL x.1 z.1=false
  cases hxz:ltL x.1 z.1 with
  | false=>rfl
  | true =>
   have h1:ltL x.1 y.1=false:=h
   have h2:ltL y.1 z.1=false:=h'
   cases hyx:ltL y.1 x.1 with
   | true=>rw [Y3 hyx hxz] at h2;cases h2
   | false =>
    have:=Xv_ h1 hyx
    rw [this,h2] at hxz;cases hxz
theorem zF2 {l:List (List Int)} (hn:l.Nodup) {l':List zJ6} (hp:(l'.map (·.1)).Perm l) (hs:l'.Pairwise fun a b=>Go.Proofs.ltOf (fun a b:zJ6=>s0 a.1 b.1) b a=false):l'.map (o4 zZ1)=stR (J4 l):=by
 have e:l'.map (·.1)=J4 l:=by
  refine zCg ?_ fun x=>hp.mem_iff
  have hnd:(l'.map (·.1)).Nodup:=hp.nodup_iff.2 hn
  rw [R9,pairwise_map]
  rw [List.Nodup,pairwise_map] at hnd
  refine (hs.and hnd).imp fun {a b} ⟨h1,h2⟩=>?_
  have h1':ltL b.1 a.1=false:=h1
  cases h:ltL a.1 b.1 with
  | true=>rfl
  | false=>exact absurd (Xv_ h h1') h2
 rw [<-e,stR,map_map]
 exact map_congr_left fun q _=>zga q
theorem zF3 (n:Nat) (h:n<4611686018427387904):Pf Tryz.prog 149 [.val (.int .u64 (n:Nat))] (iV (Go.Lib.bitLen n:Nat)):=by
 refine ⟨⟨_,sortLay.f15,by kernel_rfl,rfl⟩,fun ι O w cargs _ hv=>?_⟩
 rcases hv with _|⟨v0,_|_⟩
 cases v0
 have h':=Go.Proofs.Any.bits_Len (Go.Proofs.SlLaysF0.n15.bits (P:=Tryz.prog) (ρ:=X7_) { sortLay with }) (n:Int) w (by omega) (by omega)
 rw [Int.toNat_natCast] at h'
 refine (show Calls Tryz.prog 149 _ w _ from h').mono ?_
 rintro e w' ⟨he,rfl⟩
 exact ⟨_,he,.val _ rfl,rfl,Tp.refl _,rfl,Nat.le_refl _,fun _ _=>rfl⟩
theorem zJ7 (r k:Nat):Sl.Fn Tryz.prog 179 [.sl r 0 0,iV 0,iV 0,.fn (.func 108) [] []] [(r,.rows 41 [])] k fun v H' _=>v=.tup []/\H'=[(r,.rows 41 [])]:=by
 refine B7 T_ok func179 rfl rfl ntmps179 rfl (by simp) ?_
 refine rG ?_
 apply A0
 refine A9 (α:=Unit) (fun u=>⟨53,[(8,iV 1),(2,iV 0)],[(r,.rows 41 [])],k⟩) (fun u=>True) (fun u=>0) () ?_ ?_ ?_
 .trivial
 .refine Weaker.fw 1 0 ?_ ?_<;>simp [go_sem]
 rintro _ _
 try dsimp only
 refine A3 fun K1 hK1=>?_
 refine rG ?_
 refine cK (fun h=>?_) fun h=>?_
 .simp at h
 clear h
 apply A6
 refine ⟨.inl rfl,?_⟩
 simp [go_sem]
theorem zJ8 (r k:Nat):Sl.Fn Tryz.prog 148 [.sl r 0 0,iV 0,iV (0:Nat),iV (Go.Lib.bitLen 0:Nat),.fn (.func 108) [] []] [(r,.rows 41 [])] k fun v H' _=>v=.tup []/\H'=[(r,.rows 41 [])]:=by
 refine B7 T_ok func148 rfl rfl ntmps148 rfl (by simp) ?_
 refine rG ?_
 refine rG ?_
 apply A0
 refine A9 (α:=Unit) (fun u=>⟨148,[(0,.sl r 0 0),(1,iV 0),(2,iV 0),(4,.fn (.func 108) [] [])],[(r,.rows 41 [])],k⟩) (fun u=>True) (fun u=>0) () ?_ ?_ ?_
 .trivial
 .refine Weaker.fw 1 0 ?_ ?_<;>simp [go_sem]
 rintro _ _
 try dsimp only
 apply A0
 refine rG ?_
 refine A3 fun K1 hK1=>?_
 refine rG ?_
 refine cJ (fun h=>?_) fun h=>?_
 .simp at h
 clear h
 refine rK fun K hK=>?_
 simp [go_sem]
 refine D5 (zJ7 r k) rfl (by simp) (by simp [go_sem]) fun k' hk'=>?_
 simp [go_sem,W1_]
 apply hK
 refine A4 ?_
 simp [go_sem]
theorem zOg (l : List (List Int)) (h41 : ∀ q ∈ l, q.length = 41) (hn : l.Nodup) (hl : l.length < 4611686018427387904) (r k : Nat) :
    Sl.Fn Tryz.prog 148 [.sl r 0 l.length,iV 0,iV (l.length:Nat),iV (Go.Lib.bitLen l.length:Nat),.fn (.func 108) [] []] [(r,.rows 41 (stR l))] k fun v H' _=>v=.tup []/\H'=[(r,.rows 41 (stR (J4 l)))]:=by
  by_cases he:l=[]
  . subst he
    exact zJ8 r k
  have hb:Go.Lib.bitLen l.length<4611686018427387904:=Nat.lt_of_le_of_lt (Go.Lib.bitLen_le l.length 62 (by omega) (by omega)) (by omega)
  have := zci (enc := zZ1) (K := 41) sortLay Tryz.isAgg73 Tryz.sizeOf73 (fun x => (zOf x.1).trans x.2) (fun x v hv => by
      obtain ⟨q,hq⟩:=x
      cases q with
      | nil=>cases hv
      | cons n q =>
        cases hv with
        | head=>rfl
        | tail _ hv=>obtain ⟨m,_,rfl⟩:=List.mem_map.1 hv;rfl) (fun a b=>s0 a.1 b.1) zdg 108 (fun x y=>by rw [zga,zga];exact Z5_ x.1 y.1 x.2 y.2) r k
      (l.attach.map fun q=>(⟨q.1,h41 q.1 q.2⟩:zJ6)) (by simpa using he) (by simpa using hl) _ hb
  rw [zF1,length_map,length_attach] at this
  refine (show Sl.Fn Tryz.prog 148 _ _ k _ from this).mono ?_
  rintro v H' k' ⟨rfl,l',hp,hs,rfl⟩
  refine ⟨rfl,?_⟩
  rw [zF2 hn ?_ hs]
  have:=hp.map (·.1)
  rwa [map_map,show ((fun x:zJ6=>x.1) ∘ fun q:{x // x∈l}=>(⟨q.1,h41 q.1 q.2⟩:zJ6))=fun q=>q.1 from rfl,attach_map_subtype_val] at this
theorem zAe (l:List (List Int)) (h41:∀ q∈l,q.length=41) (hn:l.Nodup) (hl:l.length<4611686018427387904) (r k:Nat):Sl.Fn Tryz.prog 107 [.sl r 0 l.length,.fn (.func 108) [] []] [(r,.rows 41 (stR l))] k fun v H' _=>v=.tup []/\H'=[(r,.rows 41 (stR (J4 l)))]:=by
 have hw:IntKind.u64.wrap (l.length:Int)=(l.length:Nat):=by simp [IntKind.wrap,IntKind.bits,IntKind.signed];omega
 refine B7 T_ok func107 rfl rfl ntmps107 rfl (by simp) ?_
 refine rG ?_
 refine rE fun K hK=>?_
 simp [go_sem,hw]
 refine A2 (zF3 l.length hl) ?_
 simp [go_sem,hw]
 refine D5 (zOg l h41 hn hl r k) rfl (by simp) (by simp [go_sem]) fun k' hk'=>?_
 simp [go_sem,W1_]
 apply hK
 refine ⟨.inl rfl,?_⟩
 simp [go_sem]
end Go.Proofs.YtmpbalepefpllaaGreat
