/- Texts put together, in order: Gppoa, Gppob, Grvwa, Grvwb, Grvwd, Grvwc, Gppoc, Gppod, Gppoe, W23. -/
import Derived.Test.YtmpbalepefpllaaGreatD6
open List
set_option maxRecDepth 100000
set_option maxHeartbeats 16000000
set_option linter.unusedVariables false
set_option linter.unusedSimpArgs false
namespace Go.Proofs.YtmpbalepefpllaaGreat
open Go Go.Sl Go.Proofs.Tryz
@[go_sem] theorem zjz (l:List (Nat × Nat)) (i:Nat) (h:i<(j3 l).length):(j3 l)[i]=.agg [iV ((l[i]'(by simpa [j3] using h)).1:Nat),iV ((l[i]'(by simpa [j3] using h)).2:Nat)]:=by simp [j3,opC]
abbrev fnV (f:FuncId):V:=.fn (.func f) [] []
theorem zTe (f:FuncId):NL (fnV f):=fun ι ι' O w cv h=>by
 cases h with
 | fn h1 h2=>cases h1;cases h2;exact .fn .nil .nil
theorem WS_ (x:Ins):B5 x=.agg x.cs:=rfl
theorem opF {c:Cs} (hc:CsOk c) {k:Nat} (hk:k<c.n):∃ l,(c.ops[k]?=some (c.op k)/\∀ h,c.ops[k]'h=c.op k)/\((c.op k).1<c.t.ths.length/\c.t.ths[(c.op k).1]?=some l/\∀ h,c.t.ths[(c.op k).1]'h=l)/\((c.op k).2<l.length/\l[(c.op k).2]?=some (c.x k)/\∀ h,l[(c.op k).2]'h=c.x k):=by
 obtain ⟨l,h1,h2,h3,_⟩:=Cs.opAt hk
 obtain ⟨a1,a2⟩:=List.getElem?_eq_some_iff.1 h1
 obtain ⟨b1,b2⟩:=List.getElem?_eq_some_iff.1 h2
 obtain ⟨c1,c2⟩:=List.getElem?_eq_some_iff.1 h3
 exact ⟨l,⟨h1,fun _=>a2⟩,⟨b1,h2,fun _=>b2⟩,⟨c1,h3,fun _=>c2⟩⟩
def zH1 (c:Cs) (i k:Nat):Bool:=decide (k<i)&&c.run k
theorem zL7 (c:Cs):F3 (zH1 c 0)=0:=F2.2 fun i _=>by simp [zH1]
theorem zQv {c:Cs} (hc:CsOk c):zH1 c c.n=c.run:=by
 funext k
 unfold zH1
 cases h:c.run k with
 | false=>simp
 | true=>simp [Cs.run_lt hc h]
theorem zQw {c:Cs} {i:Nat} (h:c.run i=true) (hi:i<16):F3 (zH1 c i) ||| pw i=F3 (zH1 c (i+1)):=by
 rw [Xm_ hi,Y0]
 refine N0 fun k _=>?_
 unfold zH1
 rw [Bool.eq_iff_iff]
 simp only [Bool.or_eq_true,Bool.and_eq_true,decide_eq_true_eq,beq_iff_eq]
 constructor
 .rintro (⟨h1,h2⟩|rfl)
  .exact ⟨by omega,h2⟩
  exact ⟨by omega,h⟩
 rintro ⟨h1,h2⟩
 by_cases e:k=i
 .exact .inr e
 exact .inl ⟨by omega,h2⟩
theorem zZc {c:Cs} {i:Nat} (h:c.run i=false):F3 (zH1 c i)=F3 (zH1 c (i+1)):=N0 fun k _=>by
 unfold zH1
 rw [Bool.eq_iff_iff]
 simp only [Bool.and_eq_true,decide_eq_true_eq]
 constructor
 .rintro ⟨h1,h2⟩;exact ⟨by omega,h2⟩
 rintro ⟨h1,h2⟩
 refine ⟨?_,h2⟩
 by_cases e:k=i
 .subst e;rw [h] at h2;cases h2
 omega
def zH2 (c:Cs) (q:Ins->Bool) (i k:Nat):Bool:=c.run k&&(decide (i<=k)||q (c.x k))
theorem zL8 (c:Cs) (q:Ins->Bool):zH2 c q 0=c.run:=by funext k;simp [zH2]
theorem zQx {c:Cs} (hc:CsOk c) (q:Ins->Bool):zH2 c q c.n=c.at_ q:=by
 funext k
 unfold zH2 Cs.at_
 cases h:c.run k with
 | false=>rfl
 | true =>
  have:=Cs.run_lt hc h
  simp only [Bool.true_and]
  rw [decide_eq_false (by omega)];rfl
theorem zZd {c:Cs} {q:Ins->Bool} {i:Nat} (h:q (c.x i)=false) (hi:i<16):F3 (zH2 c q i) ^^^ (F3 (zH2 c q i) &&& pw i)=F3 (zH2 c q (i+1)):=by
 rw [Xm_ hi,u5,Qc_]
 refine N0 fun k _=>?_
 unfold zH2
 rw [Bool.eq_iff_iff]
 simp only [Bool.or_eq_true,Bool.and_eq_true,decide_eq_true_eq,beq_iff_eq,Bool.not_eq_true',beq_eq_false_iff_ne]
 constructor
 .rintro ⟨⟨h1,h2⟩,h3⟩;exact ⟨h1,h2.imp (fun h=>by omega) id⟩
 rintro ⟨h1,h2⟩
 refine ⟨⟨h1,h2.imp (fun h=>by omega) id⟩,fun e=>?_⟩
 subst e;rcases h2 with h2|h2
 .omega
 rw [h] at h2;cases h2
theorem zQy {c:Cs} {q:Ins->Bool} {i:Nat} (h:q (c.x i)=true):F3 (zH2 c q i)=F3 (zH2 c q (i+1)):=N0 fun k _=>by
 unfold zH2
 rw [Bool.eq_iff_iff]
 simp only [Bool.or_eq_true,Bool.and_eq_true,decide_eq_true_eq]
 constructor
 .rintro ⟨h1,h2⟩
  by_cases e:k=i
  .subst e;exact ⟨h1,.inr h⟩
  exact ⟨h1,h2.imp (fun h=>by omega) id⟩
 rintro ⟨h1,h2⟩;exact ⟨h1,h2.imp (fun h=>by omega) id⟩
theorem Un_ (c:Cs) (hc:CsOk c) (k:Nat) (hk:k<c.n):Pf Tryz.prog 102 [.rp c.cs 0,iV k] (B5 (c.x k)):=by
 refine Pf.of_fn (.cons (YF_ c) (.cons (.val _) .nil)) (p6 _) ?_
 obtain ⟨l,⟨o1,o2⟩,⟨a1,a2,a3⟩,⟨b1,b2,b3⟩⟩:=opF hc hk
 have g88:((c.op k).1:Int)<(c.t.ths.length:Nat)/\((c.op k).2:Int)<(l.length:Nat)/\(0:Int)<=((c.op k).1:Nat)/\(0:Int)<=((c.op k).2:Nat)/\(0:Int)<=(k:Nat):=by and_intros<;>omega
 have hcn:c.ops.length=c.n:=rfl
 have kI:(k:Int)<(c.n:Nat):=by omega
 have kN:k<c.n:=hk
 have o3:(j3 c.ops)[k]?=some (.agg [iV ((c.op k).1:Nat),iV ((c.op k).2:Nat)]):=by rw [P3,o1];rfl
 refine B7 T_ok func102 rfl rfl ntmps102 rfl (by simp) ?_
 refine rG ?_
 refine dK 25 [[],[0],[0,1],[0,1,2],[0,1,2,3],[0,1,2,3,4],[0,1,2,3,4,5],[],[7],[7,8],[7,8,9],[],[7,8,9,10,11],[7,8,9,10,11,12],[7,8,9,10,11,12,13],[0,1,2,3,4,5,6,7,8,9,10,11,12,13,14],[0,1,2,3,4,5,6,7,8,9,10,11,12,13,14,15],[],[17],[17,18],[17,18,19],[],[17,18,19,20,21],[17,18,19,20,21,22],[17,18,19,20,21,22,23],[0,1,2,3,4,5,6,7,8,9,10,11,12,13,14,15,16,17,18,19,20,21,22,23,24],[0,1,2,3,4,5,6,7,8,9,10,11,12,13,14,15,16,17,18,19,20,21,22,23,24,25],[0,1,2,3,4,5,6,7,8,9,10,11,12,13,14,15,16,17,18,19,20,21,22,23,24,25,26]] fun K hK=>?_
 first|dsimp only [List.take,List.drop]|dsimp [List.take,List.drop]
 simp [go_sem,Cs.cs,Tst.cs,B5,o1,o2,o3,a1,a2,a3,b1,b2,b3,g88,kI,kN,hcn]
 apply hK
 refine A4 ?_
 simp [go_sem]
 rfl
theorem Uo_ (c:Cs) (hc:CsOk c):Pf Tryz.prog 47 [.rp c.cs 0] (.val (.int .u16 (F3 c.run))):=by
 refine Pf.of_fn (.cons (YF_ c) .nil) (.val _) ?_
 have hn8:=hc.n8
 have hl:=hc.fl.l1
 refine B7 T_ok func47 rfl rfl ntmps47 rfl (by simp) ?_
 refine rG ?_
 refine rG ?_
 refine A3 fun K1 hK1=>?_
 refine rG ?_ fun K h=>by simp [go_sem,Cs.cs,Os'.cs];exact h
 apply A0
 refine A9 (α:=Nat) (fun i=>⟨27,[(0,.rp c.cs 0),(12,.ro 1 (iVs c.f.f.state)),(13,iV (c.n:Nat)),(14,iV (i:Nat)),(3,.val (.int .u16 (F3 (zH1 c i))))],[],0⟩) (fun i=>i<=c.n) (fun i=>c.n-i) 0 ?_ ?_ ?_
 .exact Nat.zero_le _
 .refine Weaker.fw 1 0 ?_ ?_
  .simp [go_sem,Cs.cs,Os'.cs,hl,zL7]
  simp [go_sem]
 rintro i hi
 skip
 refine rG ?_
 refine A3 fun K2 hK2=>?_
 refine cJ (fun h=>?_) fun h=>?_
 .simp at h
  obtain rfl:i=c.n:=by omega
  apply A6
  apply hK1
  refine rG ?_
  refine A4 ?_
  simp [go_sem,zQv hc]
 simp at h
 have hin:i<c.n:=by omega
 clear h
 have hi16:i<16:=by omega
 have hi16I:(i:Int)<16:=by omega
 have hsN:i<c.f.f.state.length:=by omega
 obtain ⟨s,hs,hs'⟩:=E0 hsN
 have g89:(i:Int)<(c.f.f.state.length:Nat)/\(0:Int)<=(i:Nat):=by and_intros<;>omega
 have hw:=wI i
 have hre:c.run i=decide (s=1):=by unfold Cs.run;rw [List.getD,hs];rfl
 apply A1
 apply hK2
 refine A3 fun K3 hK3=>?_
 apply A0
 refine rG ?_ fun K h=>by simp [go_sem,hsN,hs,hs',g89];exact h
 refine rG ?_
 refine cJ (fun h=>?_) fun h=>?_
 .have hrun:c.run i=false:=by rw [hre];simpa using h
  apply A1
  apply hK3
  refine rF ?_ fun K h=>by simp [go_sem,hw];exact h
  refine ⟨i+1,?_,?_,?_⟩
  .omega
  .omega
  refine Weaker.fw 1 0 ?_ ?_
  .simp [go_sem,Cs.cs,zZc hrun]
  simp [go_sem]
 have hrun:c.run i=true:=by rw [hre];simpa using h
 have hmr:=U5 (zH1 c i)
 have hmr2:=zI3 hi16
 have g90:((pw i:Nat):Int)<65536/\(0:Int)<=((pw i:Nat):Int):=by and_intros<;>omega
 refine rF ?_ fun K h=>by simp [go_sem,g89,hi16,hi16I,g90,zQw hrun hi16];exact h
 apply hK3
 refine rF ?_ fun K h=>by simp [go_sem,hw];exact h
 refine ⟨i+1,?_,?_,?_⟩
 .omega
 .omega
 refine Weaker.fw 1 0 ?_ ?_
 .simp [go_sem,Cs.cs]
 simp [go_sem]
theorem zh8 (x:Ins):Pf Tryz.prog 146 [B5 x] (bV (rdB x.op)):=by
 rw [WS_]
 refine Pf.of_fn (.cons (.agg (y5 x)) .nil) (.val _) ?_
 refine B7 T_ok func146 rfl rfl ntmps146 rfl (by simp) ?_
 refine rG ?_
 refine rK fun K hK=>?_
 simp [go_sem,Ins.cs]
 refine A2 (p9 x) ?_
 simp [go_sem]
 apply hK
 refine A4 ?_
 simp [go_sem]
theorem zh9 (x:Ins):Pf Tryz.prog 101 [B5 x] (bV (wrB x.op)):=by
 rw [WS_]
 refine Pf.of_fn (.cons (.agg (y5 x)) .nil) (.val _) ?_
 refine B7 T_ok func101 rfl rfl ntmps101 rfl (by simp) ?_
 refine rG ?_
 refine rK fun K hK=>?_
 simp [go_sem,Ins.cs]
 refine A2 (p9 x) ?_
 simp [go_sem]
 apply hK
 refine A4 ?_
 simp [go_sem]
theorem zZe (x:Ins):Pf Tryz.prog 93 [B5 x] (bV (x.acq)):=by
 rw [WS_]
 refine Pf.of_fn (.cons (.agg (y5 x)) .nil) (.val _) ?_
 refine B7 T_ok func93 rfl rfl ntmps93 rfl (by simp) ?_
 refine rG ?_
 refine rG ?_ fun K h=>by simp [go_sem,Ins.cs];exact h
 refine A4 ?_
 simp [go_sem]
theorem zZf (x:Ins):Pf Tryz.prog 94 [B5 x] (bV (x.rel)):=by
 rw [WS_]
 refine Pf.of_fn (.cons (.agg (y5 x)) .nil) (.val _) ?_
 refine B7 T_ok func94 rfl rfl ntmps94 rfl (by simp) ?_
 refine rG ?_
 refine rG ?_ fun K h=>by simp [go_sem,Ins.cs];exact h
 refine A4 ?_
 simp [go_sem]
theorem zZg (x:Ins):Pf Tryz.prog 95 [B5 x] (bV (decide (x.op=11)||(decide (x.op=12)||decide (x.op=14)))):=by
 rw [WS_]
 refine Pf.of_fn (.cons (.agg (y5 x)) .nil) (.val _) ?_
 refine B7 T_ok func95 rfl rfl ntmps95 rfl (by simp) ?_
 refine rG ?_
 refine D8 T_ok (by decide) ⟨16,[(2,bV (decide (x.op=11)||(decide (x.op=12)||decide (x.op=14))))],[(0,.rows 13 [.agg x.cs])],1⟩ ?_ ?_
 .by_cases c1:x.op=11
  .simp [go_sem,c1,Ins.cs]
   refine Weaker.fw 1 0 ?_ ?_<;>simp [go_sem,c1]
  by_cases c2:x.op=12
  .simp [go_sem,c1,c2,Ins.cs]
   refine Weaker.fw 1 0 ?_ ?_<;>simp [go_sem,c1,c2]
  by_cases c3:x.op=14
  .simp [go_sem,c1,c2,c3,Ins.cs]
   refine Weaker.fw 1 0 ?_ ?_<;>simp [go_sem,c1,c2,c3]
  simp [go_sem,c1,c2,c3,Ins.cs]
  refine Weaker.fw 1 0 ?_ ?_<;>simp [go_sem,c1,c2,c3]
 skip
 refine A4 ?_
 simp [go_sem]
theorem Zx_ (c:Cs) (hc:CsOk c) (f:FuncId) (q:Ins->Bool) (hf:∀ x,Pf Tryz.prog f [B5 x] (bV (q x))):Pf Tryz.prog 92 [.rp c.cs 0,fnV f] (.val (.int .u16 (F3 (c.at_ q)))):=by
 refine Pf.of_fn (.cons (YF_ c) (.cons (zTe f) .nil)) (.val _) ?_
 have hn8:=hc.n8
 refine B7 T_ok func92 rfl rfl ntmps92 rfl (by simp) ?_
 refine rG ?_
 refine rK fun K hK=>?_
 simp [go_sem]
 refine A2 (Uo_ c hc) ?_
 simp [go_sem]
 apply hK
 refine A3 fun K1 hK1=>?_
 refine rG ?_ fun K h=>by simp [go_sem,Cs.cs];exact h
 apply A0
 refine A9 (α:=Nat) (fun i=>⟨29,[(0,.rp c.cs 0),(1,fnV f),(13,iV (c.n:Nat)),(14,iV (i:Nat)),(5,.val (.int .u16 (F3 (zH2 c q i))))],[],0⟩) (fun i=>i<=c.n) (fun i=>c.n-i) 0 ?_ ?_ ?_
 .exact Nat.zero_le _
 .refine Weaker.fw 1 0 ?_ ?_
  .simp [go_sem,Cs.n,Cs.cs,zL8]
  simp [go_sem]
 rintro i hi
 skip
 refine rG ?_
 refine A3 fun K2 hK2=>?_
 refine cJ (fun h=>?_) fun h=>?_
 .simp at h
  obtain rfl:i=c.n:=by omega
  apply A6
  apply hK1
  refine rG ?_
  refine A4 ?_
  simp [go_sem,zQx hc]
 simp at h
 have hin:i<c.n:=by omega
 clear h
 have hi16:i<16:=by omega
 have g91:(i:Int)<16/\(0:Int)<=(i:Nat):=by and_intros<;>omega
 have hw:=wI i
 have hmr2:=zI3 hi16
 have g92:((pw i:Nat):Int)<65536/\(0:Int)<=((pw i:Nat):Int):=by and_intros<;>omega
 apply A1
 apply hK2
 refine A3 fun K3 hK3=>?_
 apply A0
 refine rG ?_
 refine rK fun K hK=>?_
 simp [go_sem]
 refine A2 (Un_ c hc i hin) ?_
 simp [go_sem]
 refine A2 (hf _) ?_
 simp [go_sem]
 apply hK
 refine cK (fun h=>?_) fun h=>?_
 .have hq:q (c.x i)=false:=by simpa using h
  refine rF ?_ fun K h=>by simp [go_sem,g91,hi16,g92,zZd hq hi16];exact h
  apply hK3
  refine rF ?_ fun K h=>by simp [go_sem,hw];exact h
  refine ⟨i+1,?_,?_,?_⟩
  .omega
  .omega
  refine Weaker.fw 1 0 ?_ ?_<;>simp [go_sem]
 have hq:q (c.x i)=true:=by simpa using h
 apply A1
 apply hK3
 refine rF ?_ fun K h=>by simp [go_sem,hw];exact h
 refine ⟨i+1,?_,?_,?_⟩
 .omega
 .omega
 refine Weaker.fw 1 0 ?_ ?_
 .simp [go_sem,zQy hq]
 simp [go_sem]
theorem XJ_ (c:Cs) (hc:CsOk c):Pf Tryz.prog 91 [.rp c.cs 0] (.val (.int .u16 (F3 (c.at_ fun x=>rdB x.op)))):=by
 refine Pf.of_fn (.cons (YF_ c) .nil) (.val _) ?_
 refine B7 T_ok func91 rfl rfl ntmps91 rfl (by simp) ?_
 refine rG ?_
 refine rK fun K hK=>?_
 simp [go_sem]
 refine A2 (Zx_ c hc 146 (fun x=>rdB x.op) (fun x=>zh8 x)) ?_
 simp [go_sem]
 apply hK
 refine A4 ?_
 simp [go_sem]
theorem d0 (c:Cs) (hc:CsOk c):Pf Tryz.prog 40 [.rp c.cs 0] (.val (.int .u16 (F3 (c.at_ fun x=>wrB x.op)))):=by
 refine Pf.of_fn (.cons (YF_ c) .nil) (.val _) ?_
 refine B7 T_ok func40 rfl rfl ntmps40 rfl (by simp) ?_
 refine rG ?_
 refine rK fun K hK=>?_
 simp [go_sem]
 refine A2 (Zx_ c hc 101 (fun x=>wrB x.op) (fun x=>zh9 x)) ?_
 simp [go_sem]
 apply hK
 refine A4 ?_
 simp [go_sem]
theorem zL9 {q:Nat->Nat->Bool} {s:Nat} (h:∀ y,y<s->q 0 y=false):B6 (fun _ _=>false)=B6 (upR q 0 s):=C3 fun x y=>by
 unfold upR
 by_cases hx:x=0
 .subst hx
  by_cases hy:y<s
  .simp [h y hy]
  simp [hy]
 simp [hx]
theorem Up_ {q:Nat->Nat->Bool} {a b:Nat} (h:∀ x y,a<=x->q x y=false) (x y:Nat):upR q a b x y=q x y:=by
 unfold upR
 by_cases e:x<a
 .simp [e]
 rw [h x y (by omega)];rfl
theorem zTf {c:Cs} {i b:Nat} (h:i<b) (hb:b<c.n):po0 c i b=decide (((c.op i).1:Int)=((c.op b).1:Nat)):=by
 unfold po0 Cs.th
 rw [decide_eq_true h,decide_eq_true hb]
 simp
 omega
theorem zBf {c:Cs} {i y:Nat} (h:y<=i):po0 c i y=false:=by unfold po0;simp [show ¬ i<y by omega]
theorem zEc {c:Cs} {i y:Nat} (h:c.n<=y):po0 c i y=false:=by unfold po0;simp [show ¬ y<c.n by omega]
theorem zZh {c:Cs} (x y:Nat) (h:c.n<=x):po0 c x y=false:=by
 rcases Nat.lt_or_ge x y with h1|h1
 .exact zEc (by omega)
 exact zBf h1
theorem zTg {c:Cs} {i b:Nat} (h:i<c.n) (hb:b<c.n):lcP c i b=decide ((c.x i).loc=(c.x b).loc):=by
 unfold lcP
 rw [decide_eq_true h,decide_eq_true hb];rfl
theorem zQz {c:Cs} {i y:Nat} (h:c.n<=y):lcP c i y=false:=by unfold lcP;simp [show ¬ y<c.n by omega]
theorem zZi {c:Cs} {i y:Nat} (h:c.n<=i):lcP c i y=false:=by unfold lcP;simp [show ¬ i<c.n by omega]
theorem zZj {c:Cs} {i m:Nat} (hi:i<c.n) (h:c.fr[i]?=some (m:Int)) (ht:((c.op m).1:Int)=((c.op i).1:Nat)) (x:Nat):zGx c x i=decide (x=m):=by
 unfold zGx Cs.th
 rw [decide_eq_true hi,List.getD,h]
 rw [Bool.eq_iff_iff]
 simp only [Option.getD_some,Bool.true_and,Bool.and_eq_true,decide_eq_true_eq]
 constructor
 .rintro ⟨h1,_⟩;omega
 rintro rfl;exact ⟨rfl,by omega⟩
theorem zha {c:Cs} {i m:Nat} (h:c.fr[i]?=some (m:Int)) (ht:¬ ((c.op m).1:Int)=((c.op i).1:Nat)) (x:Nat):zGx c x i=false:=by
 unfold zGx Cs.th
 rw [List.getD,h,Bool.eq_false_iff]
 simp only [Option.getD_some,ne_eq,Bool.and_eq_true,decide_eq_true_eq,not_and]
 intro _ h1 h2
 obtain rfl:m=x:=by omega
 exact ht (by omega)
theorem zZk {c:Cs} {i:Nat} {a:Int} (h:c.fr[i]?=some a) (ha:¬ 0<=a) (x:Nat):zGx c x i=false:=by
 unfold zGx Cs.th
 rw [List.getD,h,Bool.eq_false_iff]
 simp only [Option.getD_some,ne_eq,Bool.and_eq_true,decide_eq_true_eq,not_and]
 intro _ h1 h2
 omega
theorem zR0 {c:Cs} (x y:Nat) (h:c.n<=y):zGx c x y=false:=by unfold zGx;simp [show ¬ y<c.n by omega]
theorem Uq_ {q:Nat->Nat->Bool} {a b:Nat} (h:∀ x y,b<=y->q x y=false) (x y:Nat):upC q b a x y=q x y:=by
 unfold upC
 by_cases e:y<b
 .simp [e]
 rw [h x y (by omega)];rfl
theorem zTh {l:List Int} {b:Nat} {m:Int} (h:l[b]?=some m) (a:Nat):QB_ l a b=P8 m a:=by
 unfold QB_
 rw [decide_eq_true (List.getElem?_eq_some_iff.1 h).1,List.getD,h];rfl
theorem zR1 {l:List Int} (x y:Nat) (h:l.length<=y):QB_ l x y=false:=by unfold QB_;simp [show ¬ y<l.length by omega]
theorem zEd {m:Int} (h0:0<=m) (h1:m<18446744073709551616) {a:Nat} (ha:a<64):n64 (zPi m (a:Nat)) 1=((P8 m a).toNat:Nat):=by
 obtain ⟨x,rfl⟩:=Int.eq_ofNat_of_zero_le h0
 rw [zQ0 ha]
 have h2:x >>> a<=x:=by rw [Nat.shiftRight_eq_div_pow];exact Nat.div_le_self _ _
 have e:=zXv (a:=x >>> a) (b:=1) (by omega) (by omega)
 rw [show ((1:Nat):Int)=1 from rfl] at e
 rw [e]
 unfold P8
 rw [Int.toNat_natCast,Nat.and_one_is_mod,Nat.testBit_eq_decide_div_mod_eq,Nat.shiftRight_eq_div_pow]
 rcases Nat.mod_two_eq_zero_or_one (x / 2 ^ a) with e2|e2<;>simp [e2]
theorem zZl {c:Cs} {i m:Nat} {p:Int} (h:c.f.f.pair[i]?=some p) (hp:p=(m:Int)+1) (hr:c.run i=true) (x:Nat):zKa c x i=decide (x=m):=by
 unfold zKa
 rw [hr,List.getD,h,Bool.eq_iff_iff]
 simp only [Option.getD_some,Bool.true_and,decide_eq_true_eq]
 omega
theorem zLa {c:Cs} {i:Nat} (hr:c.run i=false) (x:Nat):zKa c x i=false:=by unfold zKa;rw [hr];rfl
theorem zhb {c:Cs} {i:Nat} {p:Int} (h:c.f.f.pair[i]?=some p) (hp:¬ 0<p) (x:Nat):zKa c x i=false:=by
 unfold zKa
 rw [List.getD,h,Bool.eq_false_iff]
 simp only [Option.getD_some,ne_eq,Bool.and_eq_true,decide_eq_true_eq,not_and]
 omega
theorem zR2 {c:Cs} (hc:CsOk c) (x y:Nat) (h:c.n<=y):zKa c x y=false:=zLa (Cs.run_out hc h) x
theorem zZm (c:Cs) (hc:CsOk c):Pf Tryz.prog 89 [.rp c.cs 0] (.agg (B6 (poP c))):=by
 refine Pf.of_fn (.cons (YF_ c) .nil) (.agg (D9 _)) ?_
 have hn8:=hc.n8
 have hcn:c.ops.length=c.n:=rfl
 refine B7 T_ok func89 rfl rfl ntmps89 rfl (by simp) ?_
 refine rG ?_
 refine rG ?_
 refine A3 fun K1 hK1=>?_
 refine rG ?_ fun K h=>by simp [go_sem,Cs.cs,hcn];exact h
 apply A0
 refine A9 (α:=Nat × Nat) (fun a=>⟨55,[(0,.rp c.cs 0),(2,.ptr 0 0 0),(3,.ptr 1 0 0),(11,iV (c.n:Nat)),(12,iV (a.1:Nat))],[(1,.rows 16 [.agg (B6 (upR (po0 c) a.1 (a.1+1)))]),(0,.rows 16 [.agg (B6 fun _ _=>false)])],a.2⟩) (fun a=>a.1<=c.n/\1<a.2) (fun a=>c.n-a.1) (0,2) ?_ ?_ ?_
 .exact ⟨Nat.zero_le _,by dsimp only;omega⟩
 .refine Weaker.fy 1 0 ?_ ?_
  .simp [go_sem,Cs.cs,Cs.n]
  simp [go_sem,<-zL9 (q:=po0 c) (s:=1) fun y hy=>zBf (by omega)]
 rintro ⟨i,j⟩ ⟨hi,hj⟩
 dsimp only at hi hj ⊢
 refine rG ?_
 refine A3 fun K2 hK2=>?_
 refine cJ (fun h=>?_) fun h=>?_
 .simp at h
  obtain rfl:i=c.n:=by omega
  apply A6
  apply hK1
  refine rK fun K hK=>?_
  simp [go_sem]
  refine A2 (Uo_ c hc) ?_
  simp [go_sem]
  apply hK
  refine dK 4 [[],[],[],[1,2],[0,1,2,3],[0,1,2,3,4]] fun K hK=>?_
  first|dsimp only [List.take,List.drop]|dsimp [List.take,List.drop]
  simp [go_sem]
  refine A5 (H7 _ _) ?_
  simp [go_sem]
  refine A2 (M4 _ _) ?_
  simp [go_sem]
  apply hK
  refine A4 ?_
  simp [go_sem]
  exact C3 fun x y=>by unfold poP;rw [Up_ zZh]
 simp at h
 have hin:i<c.n:=by omega
 clear h
 have hw:=wI i
 apply A1
 apply hK2
 refine A3 fun K3 hK3=>?_
 apply A0
 refine rG ?_
 refine rG ?_ fun K h=>by simp [go_sem,hw];exact h
 apply A0
 refine A9 (α:=Nat × Nat) (fun b=>⟨55,[(0,.rp c.cs 0),(2,.ptr 0 0 0),(3,.ptr 1 0 0),(11,iV (c.n:Nat)),(12,iV (i:Nat)),(4,iV (i:Nat)),(5,iV (b.1:Nat))],[(1,.rows 16 [.agg (B6 (upR (po0 c) i b.1))]),(0,.rows 16 [.agg (B6 fun _ _=>false)])],b.2⟩) (fun b=>i<b.1/\b.1<=c.n/\1<b.2) (fun b=>c.n-b.1) (i+1,j) ?_ ?_ ?_
 .exact ⟨by dsimp only;omega,by dsimp only;omega,hj⟩
 .refine Weaker.fy 1 0 ?_ ?_
  .simp [go_sem,Cs.cs]
  simp [go_sem]
 rintro ⟨b,jj⟩ ⟨hb1,hb,hjj⟩
 dsimp only at hb1 hb hjj ⊢
 refine A3 fun K4 hK4=>?_
 refine rG ?_ fun K h=>by simp [go_sem,Cs.cs,hcn];exact h
 refine cJ (fun h=>?_) fun h=>?_
 .simp at h
  obtain rfl:b=c.n:=by omega
  clear h
  apply A6
  apply hK3
  refine rF ?_ fun K h=>by simp [go_sem,hw];exact h
  refine ⟨(i+1,jj),?_,?_,?_⟩
  .exact ⟨by dsimp only;omega,by dsimp only;omega⟩
  .dsimp only;omega
  refine Weaker.fy 1 0 ?_ ?_
  .simp [go_sem,Cs.cs]
  simp [go_sem,UW_ (q:=po0 c) (a:=i) (b:=c.n) (s:=i+1+1) (fun y hy=>zEc hy) (fun y hy=>zBf (by omega))]
 simp at h
 have hbn:b<c.n:=by omega
 clear h
 have hwb:=wI b
 obtain ⟨l,⟨o1,o2⟩,⟨a1,a2,a3⟩,⟨b1,b2,b3⟩⟩:=opF hc hin
 have g93:((c.op i).1:Int)<(c.t.ths.length:Nat)/\((c.op i).2:Int)<(l.length:Nat)/\(0:Int)<=((c.op i).1:Nat)/\(0:Int)<=((c.op i).2:Nat)/\(0:Int)<=(i:Nat):=by and_intros<;>omega
 have hcn:c.ops.length=c.n:=rfl
 have kI:(i:Int)<(c.n:Nat):=by omega
 have kN:i<c.n:=hin
 have o3:(j3 c.ops)[i]?=some (.agg [iV ((c.op i).1:Nat),iV ((c.op i).2:Nat)]):=by rw [P3,o1];rfl
 obtain ⟨lq,⟨o1q,o2q⟩,⟨a1q,a2q,a3q⟩,⟨b1q,b2q,b3q⟩⟩:=opF hc hbn
 have g94:((c.op b).1:Int)<(c.t.ths.length:Nat)/\((c.op b).2:Int)<(lq.length:Nat)/\(0:Int)<=((c.op b).1:Nat)/\(0:Int)<=((c.op b).2:Nat)/\(0:Int)<=(b:Nat):=by and_intros<;>omega
 have hcnq:c.ops.length=c.n:=rfl
 have kIq:(b:Int)<(c.n:Nat):=by omega
 have kNq:b<c.n:=hbn
 have o3q:(j3 c.ops)[b]?=some (.agg [iV ((c.op b).1:Nat),iV ((c.op b).2:Nat)]):=by rw [P3,o1q];rfl
 apply A1
 apply hK4
 refine A3 fun K5 hK5=>?_
 apply A0
 refine dK 16 [[],[0],[0,1],[0,1,2],[],[0,1,2,3,4],[0,1,2,3,4,5],[0,1,2,3,4,5,6],[],[8],[8,9],[8,9,10],[],[8,9,10,11,12],[8,9,10,11,12,13],[8,9,10,11,12,13,14],[0,1,2,3,4,5,6,7,8,9,10,11,12,13,14,15]] fun K hK=>?_
 first|dsimp only [List.take,List.drop]|dsimp [List.take,List.drop]
 simp [go_sem,Cs.cs,o1,o2,o3,a1,a2,a3,b1,b2,b3,g93,kI,kN,hcn,o1q,o2q,o3q,a1q,a2q,a3q,b1q,b2q,b3q,g94,kIq,kNq,hcnq]
 apply hK
 refine cJ (fun h=>?_) fun h=>?_
 .have hpo:po0 c i b=false:=by rw [zTf hb1 hbn];simpa using h
  apply A1
  apply hK5
  refine rF ?_ fun K h=>by simp [go_sem,hwb];exact h
  refine ⟨(b+1,jj+16),?_,?_,?_⟩
  .exact ⟨by dsimp only;omega,by dsimp only;omega,by dsimp only;omega⟩
  .dsimp only;omega
  refine Weaker.fy 1 0 ?_ ?_
  .simp [go_sem,Cs.cs]
  simp [go_sem,zDu hpo]
 have hpo:po0 c i b=true:=by rw [zTf hb1 hbn];simpa using h
 refine rE fun K hK=>?_
 simp [go_sem]
 refine A2 (j1 _ _ _) ?_
 simp [go_sem]
 apply hK
 apply hK5
 refine rF ?_ fun K h=>by simp [go_sem,hwb];exact h
 refine ⟨(b+1,jj+16),?_,?_,?_⟩
 .exact ⟨by dsimp only;omega,by dsimp only;omega,by dsimp only;omega⟩
 .dsimp only;omega
 refine Weaker.fy 1 0 ?_ ?_
 .simp [go_sem,Cs.cs]
 simp [go_sem,zAz hpo]
theorem zTi (c:Cs) (hc:CsOk c):Pf Tryz.prog 44 [.rp c.cs 0] (.agg (B6 (lcP c))):=by
 refine Pf.of_fn (.cons (YF_ c) .nil) (.agg (D9 _)) ?_
 have hn8:=hc.n8
 have hcn:c.ops.length=c.n:=rfl
 refine B7 T_ok func44 rfl rfl ntmps44 rfl (by simp) ?_
 refine rG ?_
 refine rG ?_
 refine A3 fun K1 hK1=>?_
 refine rG ?_ fun K h=>by simp [go_sem,Cs.cs,hcn];exact h
 apply A0
 refine A9 (α:=Nat × Nat) (fun a=>⟨38,[(0,.rp c.cs 0),(2,.ptr 0 0 0),(3,.ptr 1 0 0),(10,iV (c.n:Nat)),(11,iV (a.1:Nat))],[(1,.rows 16 [.agg (B6 (upR (lcP c) a.1 0))]),(0,.rows 16 [.agg (B6 fun _ _=>false)])],a.2⟩) (fun a=>a.1<=c.n/\1<a.2) (fun a=>c.n-a.1) (0,2) ?_ ?_ ?_
 .exact ⟨Nat.zero_le _,by dsimp only;omega⟩
 .refine Weaker.fy 1 0 ?_ ?_
  .simp [go_sem,Cs.cs]
  simp [go_sem,zDt]
 rintro ⟨i,j⟩ ⟨hi,hj⟩
 dsimp only at hi hj ⊢
 refine rG ?_
 refine A3 fun K2 hK2=>?_
 refine cJ (fun h=>?_) fun h=>?_
 .simp at h
  obtain rfl:i=c.n:=by omega
  apply A6
  apply hK1
  refine rG ?_
  refine A4 ?_
  simp [go_sem]
  exact C3 fun x y=>Up_ (fun x y h=>zZi h) x y
 simp at h
 have hin:i<c.n:=by omega
 clear h
 have hw:=wI i
 apply A1
 apply hK2
 refine A3 fun K3 hK3=>?_
 apply A0
 refine rG ?_
 refine rG ?_ fun K h=>by simp [go_sem,Cs.cs,hcn];exact h
 apply A0
 refine A9 (α:=Nat × Nat) (fun b=>⟨38,[(0,.rp c.cs 0),(2,.ptr 0 0 0),(3,.ptr 1 0 0),(10,iV (c.n:Nat)),(11,iV (i:Nat)),(4,iV (i:Nat)),(18,iV (c.n:Nat)),(19,iV (b.1:Nat))],[(1,.rows 16 [.agg (B6 (upR (lcP c) i b.1))]),(0,.rows 16 [.agg (B6 fun _ _=>false)])],b.2⟩) (fun b=>b.1<=c.n/\1<b.2) (fun b=>c.n-b.1) (0,j) ?_ ?_ ?_
 .exact ⟨Nat.zero_le _,hj⟩
 .refine Weaker.fy 1 0 ?_ ?_
  .simp [go_sem,Cs.cs]
  simp [go_sem]
 rintro ⟨b,jj⟩ ⟨hb,hjj⟩
 dsimp only at hb hjj ⊢
 refine rG ?_
 refine A3 fun K4 hK4=>?_
 refine cJ (fun h=>?_) fun h=>?_
 .simp at h
  obtain rfl:b=c.n:=by omega
  clear h
  apply A6
  apply hK3
  refine rF ?_ fun K h=>by simp [go_sem,hw];exact h
  refine ⟨(i+1,jj),?_,?_,?_⟩
  .exact ⟨by dsimp only;omega,by dsimp only;omega⟩
  .dsimp only;omega
  refine Weaker.fy 1 0 ?_ ?_
  .simp [go_sem,Cs.cs]
  simp [go_sem,UW_ (q:=lcP c) (a:=i) (b:=c.n) (s:=0) (fun y hy=>zQz hy) (fun y hy=>absurd hy (Nat.not_lt_zero _))]
 simp at h
 have hbn:b<c.n:=by omega
 clear h
 have hwb:=wI b
 apply A1
 apply hK4
 refine A3 fun K5 hK5=>?_
 apply A0
 refine rG ?_
 refine rK fun K hK=>?_
 simp [go_sem]
 refine A2 (Un_ c hc i hin) ?_
 simp [go_sem,B5]
 refine A2 (Un_ c hc b hbn) ?_
 simp [go_sem,B5]
 apply hK
 refine cJ (fun h=>?_) fun h=>?_
 .have hpo:lcP c i b=false:=by rw [zTg hin hbn];simpa using h
  apply A1
  apply hK5
  refine rF ?_ fun K h=>by simp [go_sem,hwb];exact h
  refine ⟨(b+1,jj),?_,?_,?_⟩
  .exact ⟨by dsimp only;omega,by dsimp only;omega⟩
  .dsimp only;omega
  refine Weaker.fy 1 0 ?_ ?_
  .simp [go_sem,Cs.cs]
  simp [go_sem,zDu hpo]
 have hpo:lcP c i b=true:=by rw [zTg hin hbn];simpa using h
 refine rE fun K hK=>?_
 simp [go_sem]
 refine A2 (j1 _ _ _) ?_
 simp [go_sem]
 apply hK
 apply hK5
 refine rF ?_ fun K h=>by simp [go_sem,hwb];exact h
 refine ⟨(b+1,jj),?_,?_,?_⟩
 .exact ⟨by dsimp only;omega,by dsimp only;omega⟩
 .dsimp only;omega
 refine Weaker.fy 1 0 ?_ ?_
 .simp [go_sem,Cs.cs]
 simp [go_sem,zAz hpo]
theorem zR3 (c:Cs) (hc:CsOk c):Pf Tryz.prog 90 [.rp c.cs 0] (.agg (B6 (zgd c))):=by
 refine Pf.of_fn (.cons (YF_ c) .nil) (.agg (D9 _)) ?_
 have hn8:=hc.n8
 have hcn:c.ops.length=c.n:=rfl
 have hfl:=hc.frl
 refine B7 T_ok func90 rfl rfl ntmps90 rfl (by simp) ?_
 refine rG ?_
 refine rG ?_
 refine A3 fun K1 hK1=>?_
 refine rG ?_ fun K h=>by simp [go_sem,Cs.cs,hcn];exact h
 apply A0
 refine A9 (α:=Nat × Nat) (fun a=>⟨50,[(0,.rp c.cs 0),(2,.ptr 0 0 0),(3,.ptr 1 0 0),(10,.ro 1 (iVs c.fr)),(11,iV (c.n:Nat)),(12,iV (a.1:Nat))],[(1,.rows 16 [.agg (B6 (upC (zGx c) a.1 0))]),(0,.rows 16 [.agg (B6 fun _ _=>false)])],a.2⟩) (fun a=>a.1<=c.n/\1<a.2) (fun a=>c.n-a.1) (0,2) ?_ ?_ ?_
 .exact ⟨Nat.zero_le _,by dsimp only;omega⟩
 .refine Weaker.fy 1 0 ?_ ?_
  .simp [go_sem,Cs.cs,hfl]
  simp [go_sem,UX_]
 rintro ⟨i,j⟩ ⟨hi,hj⟩
 dsimp only at hi hj ⊢
 refine rG ?_
 refine A3 fun K2 hK2=>?_
 refine cJ (fun h=>?_) fun h=>?_
 .simp at h
  obtain rfl:i=c.n:=by omega
  apply A6
  apply hK1
  refine rK fun K hK=>?_
  simp [go_sem]
  refine A2 (Uo_ c hc) ?_
  simp [go_sem]
  apply hK
  refine dK 4 [[],[],[],[1,2],[0,1,2,3],[0,1,2,3,4]] fun K hK=>?_
  first|dsimp only [List.take,List.drop]|dsimp [List.take,List.drop]
  simp [go_sem]
  refine A5 (H7 _ _) ?_
  simp [go_sem]
  refine A2 (M4 _ _) ?_
  simp [go_sem]
  apply hK
  refine A4 ?_
  simp [go_sem]
  exact C3 fun x y=>by unfold zgd;rw [Uq_ zR0]
 simp at h
 have hin:i<c.n:=by omega
 clear h
 have hw:=wI i
 have hiL:i<c.fr.length:=by omega
 have hiI:(i:Int)<(c.fr.length:Nat):=by omega
 obtain ⟨x,hx,hx'⟩:=E0 hiL
 have hxr:=hc.fr1 i x hx
 obtain ⟨l,⟨o1,o2⟩,⟨a1,a2,a3⟩,⟨b1,b2,b3⟩⟩:=opF hc hin
 have g95:((c.op i).1:Int)<(c.t.ths.length:Nat)/\((c.op i).2:Int)<(l.length:Nat)/\(0:Int)<=((c.op i).1:Nat)/\(0:Int)<=((c.op i).2:Nat)/\(0:Int)<=(i:Nat):=by and_intros<;>omega
 have hcn:c.ops.length=c.n:=rfl
 have kI:(i:Int)<(c.n:Nat):=by omega
 have kN:i<c.n:=hin
 have o3:(j3 c.ops)[i]?=some (.agg [iV ((c.op i).1:Nat),iV ((c.op i).2:Nat)]):=by rw [P3,o1];rfl
 apply A1
 apply hK2
 refine A3 fun K3 hK3=>?_
 apply A0
 refine rG ?_ fun K h=>by simp [go_sem,hiL,hiI,hx,hx',g95];exact h
 refine dK 19 [[],[0],[0,1],[0,1,2],[0,1,2,3],[0,1,2,3,4],[0,1,2,3,4,5],[0,1,2],[0,1,2,3,4,5,6,7],[0,1,2,3,4,5,6,7,8],[0,1,2,3,4,5,6,7,8,9],[0,1,2],[0,1,2,11],[0,1,2,11,12],[0,1,2,11,12,13],[0,1,2],[0,1,2,11,12,13,14,15],[0,1,2,11,12,13,14,15,16],[0,1,2,11,12,13,14,15,16,17],[0,1,2,3,4,5,6,7,8,9,10,11,12,13,14,15,16,17,18],[0,1,2,3,4,5,6,7,8,9,10,11,12,13,14,15,16,17,18,19]] fun K hK=>?_
 first|dsimp only [List.take,List.drop]|dsimp [List.take,List.drop]
 by_cases hx0:0<=x
 .obtain ⟨m,rfl⟩:=Int.eq_ofNat_of_zero_le hx0
  have hm:m<c.n:=by omega
  obtain ⟨lq,⟨o1q,o2q⟩,⟨a1q,a2q,a3q⟩,⟨b1q,b2q,b3q⟩⟩:=opF hc hm
  have g96:((c.op m).1:Int)<(c.t.ths.length:Nat)/\((c.op m).2:Int)<(lq.length:Nat)/\(0:Int)<=((c.op m).1:Nat)/\(0:Int)<=((c.op m).2:Nat)/\(0:Int)<=(m:Nat):=by and_intros<;>omega
  have hcnq:c.ops.length=c.n:=rfl
  have kIq:(m:Int)<(c.n:Nat):=by omega
  have kNq:m<c.n:=hm
  have o3q:(j3 c.ops)[m]?=some (.agg [iV ((c.op m).1:Nat),iV ((c.op m).2:Nat)]):=by rw [P3,o1q];rfl
  simp [go_sem,Cs.cs,o1,o2,o3,a1,a2,a3,b1,b2,b3,g95,kI,kN,hcn,o1q,o2q,o3q,a1q,a2q,a3q,b1q,b2q,b3q,g96,kIq,kNq,hcnq]
  apply hK
  refine cJ (fun h=>?_) fun h=>?_
  .have hcol:=zha hx (by simpa using h)
   apply A1
   apply hK3
   refine rF ?_ fun K h=>by simp [go_sem,hw];exact h
   refine ⟨(i+1,j+19),?_,?_,?_⟩
   .exact ⟨by dsimp only;omega,by dsimp only;omega⟩
   .dsimp only;omega
   refine Weaker.fy 1 0 ?_ ?_
   .simp [go_sem,Cs.cs]
   simp [go_sem,XE_ hcol]
  have hcol:=zZj hin hx (by simpa using h)
  refine rE fun K hK=>?_
  simp [go_sem]
  refine A2 (j1 _ _ _) ?_
  simp [go_sem]
  apply hK
  apply hK3
  refine rF ?_ fun K h=>by simp [go_sem,hw];exact h
  refine ⟨(i+1,j+19),?_,?_,?_⟩
  .exact ⟨by dsimp only;omega,by dsimp only;omega⟩
  .dsimp only;omega
  refine Weaker.fy 1 0 ?_ ?_
  .simp [go_sem,Cs.cs]
  simp [go_sem,zK8 hcol]
 have hx1:x<0:=by omega
 simp [go_sem,Cs.cs,hx0,hx1]
 apply hK
 refine cK (fun h=>?_) fun h=>?_
 .simp at h
 have hcol:=zZk hx hx0
 apply A1
 apply hK3
 refine rF ?_ fun K h=>by simp [go_sem,hw];exact h
 refine ⟨(i+1,j+19),?_,?_,?_⟩
 .exact ⟨by dsimp only;omega,by dsimp only;omega⟩
 .dsimp only;omega
 refine Weaker.fy 1 0 ?_ ?_
 .simp [go_sem,Cs.cs]
 simp [go_sem,XE_ hcol]
theorem Ur_ (l:List Int) (hl:l.length<=1000) (hu:∀ (i:Nat) (x:Int),l[i]?=some x->0<=x/\x<18446744073709551616):Pf Tryz.prog 96 [.ro 1 (uVs l)] (.agg (B6 (QB_ l))):=by
 refine Pf.of_fn (.cons (X1_ l) .nil) (.agg (D9 _)) ?_
 refine B7 T_ok func96 rfl rfl ntmps96 rfl (by simp) ?_
 refine rG ?_
 refine rG ?_
 refine A3 fun K1 hK1=>?_
 refine rG ?_
 apply A0
 refine A9 (α:=Nat × Nat) (fun a=>⟨29,[(2,.ptr 0 0 0),(3,.ptr 1 0 0),(7,.ro 1 (uVs l)),(8,iV (l.length:Nat)),(9,iV (a.1:Nat))],[(1,.rows 16 [.agg (B6 (upC (QB_ l) a.1 0))]),(0,.rows 16 [.agg (B6 fun _ _=>false)])],a.2⟩) (fun a=>a.1<=l.length/\1<a.2) (fun a=>l.length-a.1) (0,2) ?_ ?_ ?_
 .exact ⟨Nat.zero_le _,by dsimp only;omega⟩
 .refine Weaker.fy 1 0 ?_ ?_
  .simp [go_sem]
  simp [go_sem,UX_]
 rintro ⟨i,j⟩ ⟨hi,hj⟩
 dsimp only at hi hj ⊢
 refine rG ?_
 refine A3 fun K2 hK2=>?_
 refine cJ (fun h=>?_) fun h=>?_
 .simp at h
  obtain rfl:i=l.length:=by omega
  apply A6
  apply hK1
  refine rG ?_
  refine A4 ?_
  simp [go_sem]
  exact C3 fun x y=>Uq_ (fun x y h=>zR1 x y h) x y
 simp at h
 have hin:i<l.length:=by omega
 have hiI:(i:Int)<(l.length:Nat):=by omega
 clear h
 have hw:=wI i
 obtain ⟨x,hx,hx'⟩:=E0 hin
 obtain ⟨hx0,hx1⟩:=hu i x hx
 have hi0:(0:Int)<=(i:Nat):=by omega
 apply A1
 apply hK2
 refine A3 fun K3 hK3=>?_
 apply A0
 refine rG ?_ fun K h=>by simp [go_sem,hin,hiI,hx,hx',hi0];exact h
 refine rG ?_
 apply A0
 refine A9 (α:=Nat × Nat) (fun b=>⟨29,[(2,.ptr 0 0 0),(3,.ptr 1 0 0),(7,.ro 1 (uVs l)),(8,iV (l.length:Nat)),(9,iV (i:Nat)),(4,iV (i:Nat)),(5,uV x),(14,iV (b.1:Nat))],[(1,.rows 16 [.agg (B6 (upC (QB_ l) i b.1))]),(0,.rows 16 [.agg (B6 fun _ _=>false)])],b.2⟩) (fun b=>b.1<=16/\1<b.2) (fun b=>16-b.1) (0,j) ?_ ?_ ?_
 .exact ⟨Nat.zero_le _,hj⟩
 .refine Weaker.fy 1 0 ?_ ?_<;>simp [go_sem]
 rintro ⟨b,jj⟩ ⟨hb,hjj⟩
 dsimp only at hb hjj ⊢
 refine rG ?_
 refine A3 fun K4 hK4=>?_
 refine cJ (fun h=>?_) fun h=>?_
 .simp at h
  obtain rfl:b=16:=by omega
  clear h
  apply A6
  apply hK3
  refine rF ?_ fun K h=>by simp [go_sem,hw];exact h
  refine ⟨(i+1,jj),?_,?_,?_⟩
  .exact ⟨by dsimp only;omega,by dsimp only;omega⟩
  .dsimp only;omega
  refine Weaker.fy 1 0 ?_ ?_
  .simp [go_sem]
  simp [go_sem,zYc (q:=QB_ l) (b:=i) (a:=16) (fun x h1 h2=>absurd h1 (by omega))]
 simp at h
 have hbn:b<16:=by omega
 clear h
 have hwb:=wI b
 have hbt:=zEd hx0 hx1 (show b<64 by omega)
 have hb0:(0:Int)<=(b:Nat):=by omega
 apply A1
 apply hK4
 refine A3 fun K5 hK5=>?_
 apply A0
 refine rG ?_
 refine rG ?_ fun K h=>by simp [go_sem,hbt,hb0];exact h
 refine cJ (fun h=>?_) fun h=>?_
 .have hpo:QB_ l b i=false:=by rw [zTh hx];cases hB:P8 x b with|true=>(rw [hB] at h;simp at h)|false=>rfl
  apply A1
  apply hK5
  refine rF ?_ fun K h=>by simp [go_sem,hwb];exact h
  refine ⟨(b+1,jj),?_,?_,?_⟩
  .exact ⟨by dsimp only;omega,by dsimp only;omega⟩
  .dsimp only;omega
  refine Weaker.fy 1 0 ?_ ?_
  .simp [go_sem]
  simp [go_sem,zgc hpo]
 have hpo:QB_ l b i=true:=by rw [zTh hx];cases hB:P8 x b with|false=>(rw [hB] at h;simp at h)|true=>rfl
 refine rE fun K hK=>?_
 simp [go_sem]
 refine A2 (j1 _ _ _) ?_
 simp [go_sem]
 apply hK
 apply hK5
 refine rF ?_ fun K h=>by simp [go_sem,hwb];exact h
 refine ⟨(b+1,jj),?_,?_,?_⟩
 .exact ⟨by dsimp only;omega,by dsimp only;omega⟩
 .dsimp only;omega
 refine Weaker.fy 1 0 ?_ ?_
 .simp [go_sem]
 simp [go_sem,zYb hpo]
theorem zR4 (c:Cs) (hc:CsOk c):Pf Tryz.prog 98 [.rp c.cs 0] (.agg (B6 (zKa c))):=by
 refine Pf.of_fn (.cons (YF_ c) .nil) (.agg (D9 _)) ?_
 have hn8:=hc.n8
 have hpl:=hc.fl.l3
 have hsl:=hc.fl.l1
 refine B7 T_ok func98 rfl rfl ntmps98 rfl (by simp) ?_
 refine rG ?_
 refine rG ?_
 refine A3 fun K1 hK1=>?_
 refine rG ?_ fun K h=>by simp [go_sem,Cs.cs,Os'.cs];exact h
 apply A0
 refine A9 (α:=Nat × Nat) (fun a=>⟨41,[(0,.rp c.cs 0),(2,.ptr 0 0 0),(3,.ptr 1 0 0),(12,.ro 1 (iVs c.f.f.pair)),(13,iV (c.n:Nat)),(14,iV (a.1:Nat))],[(1,.rows 16 [.agg (B6 (upC (zKa c) a.1 0))]),(0,.rows 16 [.agg (B6 fun _ _=>false)])],a.2⟩) (fun a=>a.1<=c.n/\1<a.2) (fun a=>c.n-a.1) (0,2) ?_ ?_ ?_
 .exact ⟨Nat.zero_le _,by dsimp only;omega⟩
 .refine Weaker.fy 1 0 ?_ ?_
  .simp [go_sem,Cs.cs,Os'.cs,hpl]
  simp [go_sem,UX_]
 rintro ⟨i,j⟩ ⟨hi,hj⟩
 dsimp only at hi hj ⊢
 refine rG ?_
 refine A3 fun K2 hK2=>?_
 refine cJ (fun h=>?_) fun h=>?_
 .simp at h
  obtain rfl:i=c.n:=by omega
  apply A6
  apply hK1
  refine rG ?_
  refine A4 ?_
  simp [go_sem]
  exact C3 fun x y=>Uq_ (fun x y h=>zR2 hc x y h) x y
 simp at h
 have hin:i<c.n:=by omega
 clear h
 have hw:=wI i
 have hpL:i<c.f.f.pair.length:=by omega
 have hpI:(i:Int)<(c.f.f.pair.length:Nat):=by omega
 obtain ⟨p,hp,hp'⟩:=E0 hpL
 have hpr:=hc.pr1 i p hp
 have hsL:i<c.f.f.state.length:=by omega
 have hsI:(i:Int)<(c.f.f.state.length:Nat):=by omega
 obtain ⟨s,hs,hs'⟩:=E0 hsL
 have hi0:(0:Int)<=(i:Nat):=by omega
 have hre:c.run i=decide (s=1):=by unfold Cs.run;rw [List.getD,hs];rfl
 apply A1
 apply hK2
 refine A3 fun K3 hK3=>?_
 apply A0
 refine rG ?_ fun K h=>by simp [go_sem,hpL,hpI,hp,hp',hi0];exact h
 refine rK fun K hK=>?_
 by_cases hp0:0<p
 .simp [go_sem,Cs.cs,Os'.cs,hp0,hsL,hsI,hs,hs',hi0]
  apply hK
  refine cJ (fun h=>?_) fun h=>?_
  .have hcol:=zLa (c:=c) (i:=i) (by rw [hre];simpa using h)
   apply A1
   apply hK3
   refine rF ?_ fun K h=>by simp [go_sem,hw];exact h
   refine ⟨(i+1,j),?_,?_,?_⟩
   .exact ⟨by dsimp only;omega,by dsimp only;omega⟩
   .dsimp only;omega
   refine Weaker.fy 1 0 ?_ ?_
   .simp [go_sem,Cs.cs,Os'.cs]
   simp [go_sem,XE_ hcol]
  obtain ⟨m,hm⟩:∃ m:Nat,p=(m:Int)+1:=⟨(p-1).toNat,by omega⟩
  have hcol:=zZl hp hm (by rw [hre];simpa using h)
  have hwp:IntKind.i64.wrap (p-1)=(m:Nat):=by rw [E4 (by omega) (by omega)];omega
  refine rE fun K hK=>?_
  simp [go_sem,hwp]
  refine A2 (j1 _ _ _) ?_
  simp [go_sem]
  apply hK
  apply hK3
  refine rF ?_ fun K h=>by simp [go_sem,hw];exact h
  refine ⟨(i+1,j),?_,?_,?_⟩
  .exact ⟨by dsimp only;omega,by dsimp only;omega⟩
  .dsimp only;omega
  refine Weaker.fy 1 0 ?_ ?_
  .simp [go_sem,Cs.cs,Os'.cs]
  simp [go_sem,zK8 hcol]
 simp [go_sem,Cs.cs,Os'.cs,hp0]
 apply hK
 refine cK (fun h=>?_) fun h=>?_
 .simp at h
 have hcol:=zhb hp hp0
 apply A1
 apply hK3
 refine rF ?_ fun K h=>by simp [go_sem,hw];exact h
 refine ⟨(i+1,j),?_,?_,?_⟩
 .exact ⟨by dsimp only;omega,by dsimp only;omega⟩
 .dsimp only;omega
 refine Weaker.fy 1 0 ?_ ?_
 .simp [go_sem,Cs.cs,Os'.cs]
 simp [go_sem,XE_ hcol]
theorem zZn (l:List Int) (n:Int):iVs l++[iV n]=iVs (l++[n]):=by simp [iVs]
theorem zTj:iVs [-1]=[iV (-1)]:=rfl
theorem YL_ (t:Tst) (k m:Nat):zGy t k m=(!decide ((m:Int)=(k:Nat))&&(wrB (opX t m).op&&(decide ((opX t m).loc=(opX t k).loc)&&(!decide (((opQ t m).1:Int)=((opQ t k).1:Nat))||decide ((m:Int)<(k:Nat)))))):=by
 unfold zGy E5 opQ
 have e1:decide (m=k)=decide ((m:Int)=(k:Nat)):=by rw [Bool.eq_iff_iff,decide_eq_true_eq,decide_eq_true_eq];omega
 have e2:decide (m<k)=decide ((m:Int)<(k:Nat)):=by rw [Bool.eq_iff_iff,decide_eq_true_eq,decide_eq_true_eq];omega
 have e3:decide (((O0 0 t.ths).getD m (0,0)).1=((O0 0 t.ths).getD k (0,0)).1)=decide ((((O0 0 t.ths).getD m (0,0)).1:Int)=(((O0 0 t.ths).getD k (0,0)).1:Nat)):=by rw [Bool.eq_iff_iff,decide_eq_true_eq,decide_eq_true_eq];omega
 rw [e1,e2,e3]
def knU (t:Tst) (f:Fl) (fr:List Int) (i q:Nat):Vl:=if q<i then knV t f fr q else zV
theorem zZo (t:Tst) (f:Fl) (fr:List Int):vls (tab (nO t) (knU t f fr 0))=List.replicate (nO t) (.agg [bV false,uV 0]):=by
 rw [X0_]
 congr 1
 apply List.ext_getElem?
 intro i
 by_cases h:i<nO t
 .rw [VR_ h,List.getElem?_replicate,if_pos h];rfl
 rw [List.getElem?_eq_none (by rw [U8];omega),List.getElem?_eq_none (by simp;omega)]
theorem zTk {t:Tst} {f:Fl} {fr:List Int} {i:Nat} {a:Bool} {b:Int} (h:knV t f fr i=⟨a,b⟩):vls ((tab (nO t) (knU t f fr i)).set i ⟨a,b⟩)=vls (tab (nO t) (knU t f fr (i+1))):=by
 rw [zJh]
 congr 2
 funext q
 unfold knU
 by_cases e:q=i
 .subst e;rw [if_pos rfl,if_pos (by omega),h]
 rw [if_neg e]
 by_cases e2:q<i
 .rw [if_pos e2,if_pos (by omega)]
 rw [if_neg e2,if_neg (by omega)]
theorem zLb {t:Tst} {f:Fl} {fr:List Int} {i:Nat} (h:knV t f fr i=zV):vls (tab (nO t) (knU t f fr i))=vls (tab (nO t) (knU t f fr (i+1))):=by
 congr 2
 funext q
 unfold knU
 by_cases e:q=i
 .subst e;rw [if_neg (by omega),if_pos (by omega),h]
 by_cases e2:q<i
 .rw [if_pos e2,if_pos (by omega)]
 rw [if_neg e2,if_neg (by omega)]
theorem zhc {t:Tst} {f:Fl} {fr:List Int}:tab (nO t) (knU t f fr (nO t))=knT t f fr:=zXr fun q hq=>by unfold knU;rw [if_pos hq]
theorem zTl (t:Tst) (f:Fl) (fr:List Int):(knT t f fr).length=nO t:=U8 ..
theorem zZp (t:Tst) (f:Fl) (fr:List Int):(knT t f fr).take (nO t)=knT t f fr:=take_of_length_le (by rw [zTl];omega)
theorem M6 (t:Tst) (hS:SeaOk t) (of:FuncId) (ws:List Bool) (fr:List Int) (vf:Value) (k:Nat) (hk:k<nO t):Pf Tryz.prog 145 [.rp (E8 t (fnV of) ws fr (.val vf)) 0,iV k] (B5 (opX t k)):=by
 refine Pf.of_fn (.cons (Vh_ t ws fr vf 0) (.cons (.val _) .nil)) (p6 _) ?_
 obtain ⟨l,⟨o1,o2⟩,⟨a1,a2,a3⟩,⟨b1,b2,b3⟩⟩:=zni hk
 have g97:((opQ t k).1:Int)<(t.ths.length:Nat)/\((opQ t k).2:Int)<(l.length:Nat)/\(0:Int)<=((opQ t k).1:Nat)/\(0:Int)<=((opQ t k).2:Nat)/\(0:Int)<=(k:Nat):=by and_intros<;>omega
 have hcn:(O0 0 t.ths).length=nO t:=rfl
 have kI:(k:Int)<(nO t:Nat):=by omega
 have kN:k<nO t:=hk
 have o3:(j3 (O0 0 t.ths))[k]?=some (.agg [iV ((opQ t k).1:Nat),iV ((opQ t k).2:Nat)]):=by rw [P3,o1];rfl
 refine B7 T_ok func145 rfl rfl ntmps145 rfl (by simp) ?_
 refine rG ?_
 refine dK 25 [[],[0],[0,1],[0,1,2],[0,1,2,3],[0,1,2,3,4],[0,1,2,3,4,5],[],[7],[7,8],[7,8,9],[],[7,8,9,10,11],[7,8,9,10,11,12],[7,8,9,10,11,12,13],[0,1,2,3,4,5,6,7,8,9,10,11,12,13,14],[0,1,2,3,4,5,6,7,8,9,10,11,12,13,14,15],[],[17],[17,18],[17,18,19],[],[17,18,19,20,21],[17,18,19,20,21,22],[17,18,19,20,21,22,23],[0,1,2,3,4,5,6,7,8,9,10,11,12,13,14,15,16,17,18,19,20,21,22,23,24],[0,1,2,3,4,5,6,7,8,9,10,11,12,13,14,15,16,17,18,19,20,21,22,23,24,25],[0,1,2,3,4,5,6,7,8,9,10,11,12,13,14,15,16,17,18,19,20,21,22,23,24,25,26]] fun K hK=>?_
 first|dsimp only [List.take,List.drop]|dsimp [List.take,List.drop]
 simp [go_sem,E8,Tst.cs,B5,o1,o2,o3,a1,a2,a3,b1,b2,b3,g97,kI,kN,hcn]
 apply hK
 refine A4 ?_
 simp [go_sem]
 rfl
theorem zGd (t:Tst) (hS:SeaOk t) (of:FuncId) (ws:List Bool) (fr:List Int) (vf:Value) (k:Nat) (hk:k<nO t):PfF Tryz.prog 178 [.rp (E8 t (fnV of) ws fr (.val vf)) 0,iV k] (.ro 1 (iVs (Yt_ t k))):=by
 refine PfF.of_fn 1 (.cons (Vh_ t ws fr vf 0) (.cons (.val _) .nil)) (Qs_ _) ?_
 have hn8:=hS.n8
 have hsl:=zEa t k
 obtain ⟨l,⟨o1,o2⟩,⟨a1,a2,a3⟩,⟨b1,b2,b3⟩⟩:=zni hk
 have g98:((opQ t k).1:Int)<(t.ths.length:Nat)/\((opQ t k).2:Int)<(l.length:Nat)/\(0:Int)<=((opQ t k).1:Nat)/\(0:Int)<=((opQ t k).2:Nat)/\(0:Int)<=(k:Nat):=by and_intros<;>omega
 have hcn:(O0 0 t.ths).length=nO t:=rfl
 have kI:(k:Int)<(nO t:Nat):=by omega
 have kN:k<nO t:=hk
 have o3:(j3 (O0 0 t.ths))[k]?=some (.agg [iV ((opQ t k).1:Nat),iV ((opQ t k).2:Nat)]):=by rw [P3,o1];rfl
 refine B7 T_ok func178 rfl rfl ntmps178 rfl (by simp) ?_
 refine rG ?_
 refine rG ?_
 refine rK fun K hK=>?_
 simp [go_sem]
 refine A2 (M6 t hS of ws fr vf k hk) ?_
 simp [go_sem,B5]
 apply hK
 refine A3 fun K1 hK1=>?_
 refine rK fun K hK=>?_
 simp [go_sem]
 refine A2 (p9 _) ?_
 simp [go_sem]
 apply hK
 refine cK (fun h=>?_) fun h=>?_
 .have hr:rdB (opX t k).op=false:=by simpa using h
  refine rG ?_
  refine A4 ?_
  simp [go_sem,Yt_,hr,zTj]
 have hr:rdB (opX t k).op=true:=by simpa using h
 apply A1
 apply hK1
 refine A3 fun K2 hK2=>?_
 refine rG ?_ fun K h=>by simp [go_sem,E8,hcn];exact h
 apply A0
 refine A9 (α:=Nat × Nat × Nat) (fun a=>⟨77,[(0,.rp (E8 t (fnV of) ws fr (.val vf)) 0),(1,iV (k:Nat)),(6,.ptr 1 0 0),(23,iV (nO t:Nat)),(5,.sl a.2.2 0 (Jv_ t k a.1).length),(24,iV (a.1:Nat))],[(a.2.2,.rows 1 (iVs (Jv_ t k a.1))),(1,.rows 13 [.agg (opX t k).cs])],a.2.1⟩) (fun a=>a.1<=nO t/\a.2.2<a.2.1/\a.2.2≠1/\1<a.2.1) (fun a=>nO t-a.1) (0,3,0) ?_ ?_ ?_
 .exact ⟨Nat.zero_le _,by dsimp only;omega,by dsimp only;omega,by dsimp only;omega⟩
 .refine Weaker.fy 1 0 ?_ ?_
  .simp [go_sem,E8,Tst.cs,Jv_]
  simp [go_sem,Jv_,zTj]
 rintro ⟨m,j,g⟩ ⟨hm,hg1,hg2,hj1⟩
 dsimp only at hm hg1 hg2 hj1 ⊢
 have g99:¬ g=1/\¬ 1=g/\¬ g=j/\¬ j=g/\¬ g=j+16/\¬ j+16=g/\¬ g=j+16+1/\¬ j+16+1=g/\¬ g=j+16+1+1/\¬ j+16+1+1=g/\¬ 1=j+16/\¬ j+16=1/\¬ 1=j+16+1/\¬ j+16+1=1/\¬ 1=j+16+1+1/\¬ j+16+1+1=1:=by and_intros<;>omega
 refine rG ?_
 refine A3 fun K3 hK3=>?_
 refine cJ (fun h=>?_) fun h=>?_
 .simp at h
  obtain rfl:m=nO t:=by omega
  clear h
  apply A6
  apply hK2
  refine rG ?_
  refine A4 ?_
  simp [go_sem,Yt_,hr,g99]
 simp at h
 have hmn:m<nO t:=by omega
 clear h
 have hw:=wI m
 obtain ⟨lq,⟨o1q,o2q⟩,⟨a1q,a2q,a3q⟩,⟨b1q,b2q,b3q⟩⟩:=zni hmn
 have g100:((opQ t m).1:Int)<(t.ths.length:Nat)/\((opQ t m).2:Int)<(lq.length:Nat)/\(0:Int)<=((opQ t m).1:Nat)/\(0:Int)<=((opQ t m).2:Nat)/\(0:Int)<=(m:Nat):=by and_intros<;>omega
 have hcnq:(O0 0 t.ths).length=nO t:=rfl
 have kIq:(m:Int)<(nO t:Nat):=by omega
 have kNq:m<nO t:=hmn
 have o3q:(j3 (O0 0 t.ths))[m]?=some (.agg [iV ((opQ t m).1:Nat),iV ((opQ t m).2:Nat)]):=by rw [P3,o1q];rfl
 have hsl2:=hsl m
 apply A1
 apply hK3
 refine A3 fun K4 hK4=>?_
 apply A0
 refine rG ?_
 refine dK 16 [[],[0],[0,1],[0,1,2],[],[0,1,2,3,4],[0,1,2,3,4,5],[0,1,2,3,4,5,6],[],[8],[8,9],[8,9,10],[],[8,9,10,11,12],[8,9,10,11,12,13],[8,9,10,11,12,13,14],[0,1,2,3,4,5,6,7,8,9,10,11,12,13,14,15],[0,1,2,3,4,5,6,7,8,9,10,11,12,13,14,15,16]] fun K hK=>?_
 first|dsimp only [List.take,List.drop]|dsimp [List.take,List.drop]
 simp [go_sem,E8,Tst.cs,o1,o2,o3,a1,a2,a3,b1,b2,b3,g98,kI,kN,hcn,o1q,o2q,o3q,a1q,a2q,a3q,b1q,b2q,b3q,g100,kIq,kNq,hcnq,g99]
 apply hK
 refine rK fun K hK=>?_
 simp [go_sem,g99]
 refine A2 (M6 t hS of ws fr vf m hmn) ?_
 simp [go_sem,B5,g99]
 apply hK
 refine D8 T_ok (by decide) ⟨77,[(0,.rp (E8 t (fnV of) ws fr (.val vf)) 0),(1,iV (k:Nat)),(6,.ptr 1 0 0),(23,iV (nO t:Nat)),(5,.sl g 0 (Jv_ t k m).length),(24,iV (m:Nat)),(7,iV (m:Nat)),(70,bV (zGy t k m))],[(g,.rows 1 (iVs (Jv_ t k m))),(1,.rows 13 [.agg (opX t k).cs])],j+16+1⟩ ?_ ?_
 .by_cases c1:(m:Int)=(k:Nat)
  .simp [go_sem,c1,g99,B5]
   refine Weaker.fw 1 0 ?_ ?_<;>simp [go_sem,c1,YL_,E8,Tst.cs,B5,g99]
  by_cases c2:wrB (opX t m).op=true
  .by_cases c3:(opX t m).loc=(opX t k).loc
   .by_cases c4:((opQ t m).1:Int)=((opQ t k).1:Nat)
    .by_cases c5:(m:Int)<(k:Nat)
     .simp [go_sem,c1,c2,c3,c4,c5,g99,B5]
      refine A2 (p9 _) ?_
      simp [go_sem,c1,c2,c3,c4,c5,g99,B5]
      refine Weaker.fw 1 0 ?_ ?_<;>simp [go_sem,c1,c2,c3,c4,c5,YL_,E8,Tst.cs,B5,g99]
     simp [go_sem,c1,c2,c3,c4,c5,g99,B5]
     refine A2 (p9 _) ?_
     simp [go_sem,c1,c2,c3,c4,c5,g99,B5]
     refine Weaker.fw 1 0 ?_ ?_<;>simp [go_sem,c1,c2,c3,c4,c5,YL_,E8,Tst.cs,B5,g99]
    simp [go_sem,c1,c2,c3,c4,g99,B5]
    refine A2 (p9 _) ?_
    simp [go_sem,c1,c2,c3,c4,g99,B5]
    refine Weaker.fw 1 0 ?_ ?_<;>simp [go_sem,c1,c2,c3,c4,YL_,E8,Tst.cs,B5,g99]
   simp [go_sem,c1,c2,c3,g99,B5]
   refine A2 (p9 _) ?_
   simp [go_sem,c1,c2,c3,g99,B5]
   refine Weaker.fw 1 0 ?_ ?_<;>simp [go_sem,c1,c2,c3,YL_,E8,Tst.cs,B5,g99]
  simp [go_sem,c1,c2,g99,B5]
  refine A2 (p9 _) ?_
  simp [go_sem,c1,c2,g99,B5]
  refine Weaker.fw 1 0 ?_ ?_<;>simp [go_sem,c1,c2,YL_,E8,Tst.cs,B5,g99]
 skip
 refine cJ (fun h=>?_) fun h=>?_
 .have hsB:zGy t k m=false:=by simpa using h
  apply A1
  apply hK4
  refine rF ?_ fun K h=>by simp [go_sem,hw];exact h
  refine ⟨(m+1,j+16+8,g),?_,?_,?_⟩
  .exact ⟨by dsimp only;omega,by dsimp only;omega,by dsimp only;omega,by dsimp only;omega⟩
  .dsimp only;omega
  refine Weaker.fy 1 0 ?_ ?_<;>simp [go_sem,WP_,hsB,E8,Tst.cs,g99]
 have hsB:zGy t k m=true:=h
 refine rE fun K hK=>?_
 simp [go_sem,g99,E8]
 refine ⟨by omega,?_⟩
 apply hK
 apply hK4
 refine rF ?_ fun K h=>by simp [go_sem,hw];exact h
 refine ⟨(m+1,j+16+8,j+16+1+1),?_,?_,?_⟩
 .exact ⟨by dsimp only;omega,by dsimp only;omega,by dsimp only;omega,by dsimp only;omega⟩
 .dsimp only;omega
 refine Weaker.fy 1 0 ?_ ?_
 .simp [go_sem,WP_,hsB,E8,Tst.cs,g99]
 simp [go_sem,WP_,hsB,E8,Tst.cs,zZn,g99]
theorem zR5 (t:Tst) (hS:SeaOk t) (of:FuncId) (ws:List Bool) (fr:List Int) (vf:Value) (f:Os') (hf:FlOk (nO t) f.f) (hfl:fr.length=nO t) (hfr:∀ (k:Nat) (x:Int),fr[k]?=some x->-1<=x/\x<nO t):PfF Tryz.prog 221 [.rp (E8 t (fnV of) ws fr (.val vf)) 0,.rp f.cs 0] (.ro 2 (vls (knT t f.f fr))):=by
 refine PfF.of_fn 1 (.cons (Vh_ t ws fr vf 0) (.cons (UK_ f) .nil)) (zJ6 _) ?_
 have hn8:=hS.n8
 have hcn:(O0 0 t.ths).length=nO t:=rfl
 have hm0:(0:Int)<=(nO t:Nat):=by omega
 have g101:(8:Int)*(nO t:Nat)<=281474976710656/\(16:Int)*(nO t:Nat)<=281474976710656/\((nO t:Nat):Int)<=9223372036854775807:=by and_intros<;>omega
 have hfs:=hf.l1
 have hfw:=hf.l2
 have hl8:=hS.locs
 refine B7 T_ok func221 rfl rfl ntmps221 rfl (by simp) ?_
 refine rG ?_
 refine rG ?_ fun K h=>by simp [go_sem,E8,hcn,hm0,g101];exact h
 refine A3 fun K1 hK1=>?_
 refine rG ?_ fun K h=>by simp [go_sem,E8];exact h
 apply A0
 refine A9 (α:=Nat × Nat) (fun a=>⟨73,[(0,.rp (E8 t (fnV of) ws fr (.val vf)) 0),(1,.rp f.cs 0),(5,.sl 0 0 (nO t)),(18,.ro 1 (iVs fr)),(19,iV (nO t:Nat)),(20,iV (a.1:Nat))],[(0,.rows 2 (vls (tab (nO t) (knU t f.f fr a.1))))],a.2⟩) (fun a=>a.1<=nO t/\0<a.2) (fun a=>nO t-a.1) (0,1) ?_ ?_ ?_
 .exact ⟨Nat.zero_le _,by dsimp only;omega⟩
 .refine Weaker.fy 1 0 ?_ ?_
  .simp [go_sem,E8,hfl]
  simp [go_sem,zZo]
 rintro ⟨i,j⟩ ⟨hi,hj⟩
 dsimp only at hi hj ⊢
 have g102:¬ j=0/\¬ 0=j/\¬ j+1=0/\¬ 0=j+1:=by and_intros<;>omega
 refine rG ?_
 refine A3 fun K2 hK2=>?_
 refine cJ (fun h=>?_) fun h=>?_
 .simp at h
  obtain rfl:i=nO t:=by omega
  clear h
  apply A6
  apply hK1
  refine rG ?_
  refine A4 ?_
  simp [go_sem,zhc,zTl,zZp]
 simp at h
 have hin:i<nO t:=by omega
 clear h
 have hw:=wI i
 have hiL:i<fr.length:=by omega
 have g103:(i:Int)<(fr.length:Nat)/\(0:Int)<=(i:Nat)/\(i:Int)<(nO t:Nat):=by and_intros<;>omega
 obtain ⟨x,hx,hx'⟩:=E0 hiL
 obtain ⟨hx1,hx2⟩:=hfr i x hx
 have hxd:fr.getD i 0=x:=by rw [List.getD,hx];rfl
 obtain ⟨hl0,hl1⟩:=hS.loc i hin
 apply A1
 apply hK2
 refine A3 fun K3 hK3=>?_
 apply A0
 refine rG ?_ fun K h=>by simp [go_sem,hiL,g103,hx,hx'];exact h
 refine rK fun K hK=>?_
 simp [go_sem]
 refine A2 (M6 t hS of ws fr vf i hin) ?_
 simp [go_sem,B5,g102]
 apply hK
 apply A0
 refine rK fun K hK=>?_
 simp [go_sem,g102]
 refine A2 (p9 _) ?_
 simp [go_sem,g102]
 apply hK
 refine cK (fun h=>?_) fun h=>?_
 .have hr:rdB (opX t i).op=false:=by simpa using h
  have hk:knV t f.f fr i=zV:=by unfold knV;rw [hr];rfl
  apply A1
  apply hK3
  refine rF ?_ fun K h=>by simp [go_sem,hw];exact h
  refine ⟨(i+1,j+30),?_,?_,?_⟩
  .exact ⟨by dsimp only;omega,by dsimp only;omega⟩
  .dsimp only;omega
  refine Weaker.fy 1 0 ?_ ?_
  .simp [go_sem,E8,Tst.cs,Os'.cs,g102]
  simp [go_sem,zLb hk,g102]
 have hr:rdB (opX t i).op=true:=by simpa using h
 refine rG ?_
 refine cK (fun h=>?_) fun h=>?_
 .have hxn:x<0:=by simpa using h
  have hlN:(opX t i).loc.toNat<t.locs.length:=by omega
  obtain ⟨q,hq,hq'⟩:=E0 hlN
  have hk:knV t f.f fr i=⟨true,q.v⟩:=by unfold knV;rw [hr,hxd,if_pos rfl,if_pos hxn,List.getD,hq];rfl
  refine dE 15 [[],[],[],[2],[2,3],[2,3,4],[2,3,4,5],[2,3,4,5,6],[2,3,4,5,6,7],[],[9],[2,3,4,5,6,7,8,9,10],[2,3,4,5,6,7,8,9,10,11],[2,3,4,5,6,7,8,9,10,11,12],[2,3,4,5,6,7,8,9,10,11,12,13],[0,1,2,3,4,5,6,7,8,9,10,11,12,13,14],[0,1,2,3,4,5,6,7,8,9,10,11,12,13,14,15]] fun K hK=>?_
  first|dsimp only [List.take,List.drop]|dsimp [List.take,List.drop]
  simp [go_sem,E8,Tst.cs,Wp_,Ini.cs,hl0,hl1,hlN,hq,hq',g103,hin,g102]
  apply hK
  apply hK3
  refine rF ?_ fun K h=>by simp [go_sem,hw];exact h
  refine ⟨(i+1,j+30),?_,?_,?_⟩
  .exact ⟨by dsimp only;omega,by dsimp only;omega⟩
  .dsimp only;omega
  refine Weaker.fy 1 0 ?_ ?_
  .simp [go_sem,E8,Tst.cs,Os'.cs,g102]
  simp [go_sem,zTk hk,g102]
 have hxn:¬ x<0:=by simpa using h
 obtain ⟨m,rfl⟩:=Int.eq_ofNat_of_zero_le (show 0<=x by omega)
 have hmS:m<f.f.state.length:=by omega
 have hmSI:(m:Int)<(f.f.state.length:Nat):=by omega
 obtain ⟨s,hs,hs'⟩:=E0 hmS
 have hmW:m<f.f.write.length:=by omega
 have hmWI:(m:Int)<(f.f.write.length:Nat):=by omega
 obtain ⟨u,hu,hu'⟩:=E0 hmW
 have hm0:(0:Int)<=(m:Nat):=by omega
 have hsd:f.f.state.getD m 0=s:=by rw [List.getD,hs];rfl
 have hud:f.f.write.getD m zV=u:=by rw [List.getD,hu];rfl
 refine rG ?_ fun K h=>by simp [go_sem,Os'.cs,hmS,hmSI,hs,hs',hm0];exact h
 refine cK (fun h=>?_) fun h=>?_
 .have hs1:s=1:=by simpa using h
  have hk:knV t f.f fr i=⟨u.k,u.v⟩:=by unfold knV;rw [hr,hxd,if_pos rfl,if_neg hxn,Int.toNat_natCast,hsd,if_pos hs1,hud]
  refine rF ?_ fun K h=>by simp [go_sem,Os'.cs,hmW,hmWI,hu,hu',hm0,g103,hin,g102];exact h
  apply hK3
  refine rF ?_ fun K h=>by simp [go_sem,hw];exact h
  refine ⟨(i+1,j+30),?_,?_,?_⟩
  .exact ⟨by dsimp only;omega,by dsimp only;omega⟩
  .dsimp only;omega
  refine Weaker.fy 1 0 ?_ ?_
  .simp [go_sem,E8,Tst.cs,Os'.cs,g102]
  simp [go_sem,zTk hk,g102]
 have hs1:¬ s=1:=by simpa using h
 have hk:knV t f.f fr i=zV:=by unfold knV;rw [hr,hxd,if_pos rfl,if_neg hxn,Int.toNat_natCast,hsd,if_neg hs1]
 apply A1
 apply hK3
 refine rF ?_ fun K h=>by simp [go_sem,hw];exact h
 refine ⟨(i+1,j+30),?_,?_,?_⟩
 .exact ⟨by dsimp only;omega,by dsimp only;omega⟩
 .dsimp only;omega
 refine Weaker.fy 1 0 ?_ ?_
 .simp [go_sem,E8,Tst.cs,Os'.cs,g102]
 simp [go_sem,zLb hk,g102]
theorem zZq {c:Cs} {co:Rl} {a b:Nat} (h:c.n<=b):S4 c co a b=false:=by unfold S4;simp [show ¬ b<c.n by omega]
theorem zR6 {c:Cs} {co:Rl} {a b:Nat} (h:c.n<=a):S4 c co a b=false:=by unfold S4;simp [show ¬ a<c.n by omega]
theorem zhd {c:Cs} {co:Rl} {a b:Nat} (h:c.at_ (fun x=>rdB x.op) a=false):S4 c co a b=false:=by unfold S4 Cs.rd;rw [h];simp
theorem zhe {c:Cs} {co:Rl} {a b:Nat} (ha:a<c.n) (hb:b<c.n) (h:c.at_ (fun x=>rdB x.op) a=true) {x:Int} (hx:c.fr[a]?=some x):S4 c co a b=(!decide ((b:Int)=(a:Nat))&&(c.at_ (fun x=>wrB x.op) b&&(decide ((opX c.t b).loc=(opX c.t a).loc)&&(decide (x<0)||co x.toNat b)))):=by
 unfold S4 Cs.rd Cs.wr
 have e1:decide (b=a)=decide ((b:Int)=(a:Nat)):=by rw [Bool.eq_iff_iff,decide_eq_true_eq,decide_eq_true_eq];omega
 rw [decide_eq_true ha,decide_eq_true hb,h,e1,show c.fr.getD a 0=x by rw [List.getD,hx];rfl]
 rfl
def zom (c:Cs) (co:Rl) (i:Nat):Prop:=∀ k,k<i->zNm c co k=true
theorem zR7 {c:Cs} {co:Rl} (h:zom c co c.n):zDw c co=true:=by
 unfold zDw
 rw [all_eq_true]
 exact fun k hk=>h k (List.mem_range.1 hk)
theorem WT_ {c:Cs} {co:Rl} {k:Nat} (hk:k<c.n) (h:zNm c co k=false):zDw c co=false:=by
 unfold zDw
 rw [all_eq_false]
 exact ⟨k,List.mem_range.2 hk,by simp [h]⟩
theorem zEe {c:Cs} {co:Rl} {k:Nat} {p:Int} (hp:c.f.f.pair[k]?=some p) (h:p=0\/c.at_ (fun x=>wrB x.op) k=false):zNm c co k=true:=by
 have e:c.f.f.pair.getD k 0=p:=by rw [List.getD,hp];rfl
 unfold zNm Cs.wr
 rw [e,if_pos h]
def Wu_ (c:Cs) (co:Rl) (k:Nat) (i:Int) (w:Nat):Bool:=c.at_ (fun x=>wrB x.op) w&&(!decide (((c.op w).1:Int)=((c.op k).1:Nat))&&(co w k&&(decide (i<0)||co i.toNat w)))
theorem zhf {c : Cs} {co : Rl} {k : Nat} {p i : Int} (hp : c.f.f.pair[k]? = some p) (h0 : ¬ p = 0) (hw : c.at_ (fun x => wrB x.op) k = true) (hi : c.fr[(p - 1).toNat]? = some i) :
    zNm c co k=(!(decide (0<=i)&&!co i.toNat k)&&!((List.range c.n).any (Wu_ c co k i))):=by
  have e:c.f.f.pair.getD k 0=p:=by rw [List.getD,hp];rfl
  have e2:c.fr.getD (p-1).toNat 0=i:=by rw [List.getD,hi];rfl
  unfold zNm Cs.wr
  rw [e,if_neg (by rw [hw];simp [h0]),e2]
  dsimp only
  congr 2
  apply congrArg (fun f=>(List.range c.n).any f)
  funext w
  unfold Wu_ Cs.th
  have e1:decide ((c.op w).1=(c.op k).1)=decide (((c.op w).1:Int)=((c.op k).1:Nat)):=by rw [Bool.eq_iff_iff,decide_eq_true_eq,decide_eq_true_eq];omega
  rw [e1]
theorem zBg (p:Rl) (a b:Int) (h0:0<=a) (h16:a<16):Pf Tryz.prog 48 [.agg (B6 p),iV a,iV b] (bV (decide (0<=b/\b<16)&&p a.toNat b.toNat)):=by
 obtain ⟨n,rfl⟩:=Int.eq_ofNat_of_zero_le h0
 exact y6 p n (by omega) b
theorem zEf {c:Cs} {co:Rl} {k:Nat} {i:Int} (h:∀ w,w<c.n->Wu_ c co k i w=false):(List.range c.n).any (Wu_ c co k i)=false:=by
 rw [any_eq_false]
 exact fun w hw=>by simp [h w (List.mem_range.1 hw)]
theorem zEg {c:Cs} {co:Rl} {k w:Nat} {i:Int} (hw:w<c.n) (h:Wu_ c co k i w=true):(List.range c.n).any (Wu_ c co k i)=true:=List.any_eq_true.2 ⟨w,List.mem_range.2 hw,h⟩
theorem zGe (c:Cs) (hc:CsOk c) (hS:SeaOk c.t) (of:FuncId) (ws:List Bool) (vf:Value) (kept po co:Rl) (las:List Int) (hl8:las.length=8):Pf Tryz.prog 225 [.rp (E8 c.t (fnV of) ws c.fr (.val vf)) 0,.agg (G5 c kept po las),.agg (B6 co)] (.agg (B6 (S4 c co))):=by
 refine Pf.of_fn (.cons (Vh_ c.t ws c.fr vf 0) (.cons (.agg (zTc c kept po las)) (.cons (.agg (D9 co)) .nil))) (.agg (D9 _)) ?_
 have hn8:=hc.n8
 have hfl:=hc.frl
 have hcn:(O0 0 c.t.ths).length=c.n:=rfl
 refine B7 T_ok func225 rfl rfl ntmps225 rfl (by simp) ?_
 refine rG ?_ fun K h=>by simp [go_sem,C0 hl8,B3 hl8,B1 hl8,C4 hl8,B0];exact h
 refine rG ?_
 refine dK 5 [[],[0],[0,1],[],[3],[0,1,2,3,4],[0,1,2,3,4,5],[0,1,2,3,4,5,6]] fun K hK=>?_
 first|dsimp only [List.take,List.drop]|dsimp [List.take,List.drop]
 simp [go_sem,C0 hl8,B3 hl8,B1 hl8,C4 hl8,B0]
 refine A5 (XJ_ c hc) ?_
 simp [go_sem,C0 hl8,B3 hl8,B1 hl8,C4 hl8,B0]
 refine A2 (d0 c hc) ?_
 simp [go_sem,C0 hl8,B3 hl8,B1 hl8,C4 hl8,B0]
 apply hK
 refine A3 fun K1 hK1=>?_
 refine rG ?_ fun K h=>by simp [go_sem,C0 hl8,B3 hl8,B1 hl8,C4 hl8,B0,Cs.cs];exact h
 apply A0
 refine A9 (α:=Nat × Nat) (fun a=>⟨81,[(0,.rp (E8 c.t (fnV of) ws c.fr (.val vf)) 0),(4,.ptr 0 0 0),(5,.ptr 1 0 0),(6,.ptr 2 0 0),(7,.ptr 3 0 0),(8,.val (.int .u16 (F3 (c.at_ fun x=>rdB x.op)))),(9,.val (.int .u16 (F3 (c.at_ fun x=>wrB x.op)))),(23,.ro 1 (iVs c.fr)),(24,iV (c.n:Nat)),(25,iV (a.1:Nat))],[(3,.rows 16 [.agg (B6 (upR (S4 c co) a.1 0))]),(2,.rows 16 [.agg (B6 fun _ _=>false)]),(1,.rows 16 [.agg (B6 co)]),(0,.rows 41 [.agg (G5 c kept po las)])],a.2⟩) (fun a=>a.1<=c.n/\3<a.2) (fun a=>c.n-a.1) (0,9) ?_ ?_ ?_
 .exact ⟨Nat.zero_le _,by dsimp only;omega⟩
 .refine Weaker.fy 1 0 ?_ ?_
  .simp [go_sem,Cs.cs,E8,hfl]
  simp [go_sem,zDt]
 rintro ⟨i,j⟩ ⟨hi,hj⟩
 dsimp only at hi hj ⊢
 refine rG ?_
 refine A3 fun K2 hK2=>?_
 refine cJ (fun h=>?_) fun h=>?_
 .simp at h
  obtain rfl:i=c.n:=by omega
  clear h
  apply A6
  apply hK1
  refine rG ?_
  refine A4 ?_
  simp [go_sem]
  exact C3 fun x y=>Up_ (fun x y h=>zR6 h) x y
 simp at h
 have hin:i<c.n:=by omega
 clear h
 have hwi:=wI i
 have hi16:i<16:=by omega
 have g104:(i:Int)<16/\i<=15/\(0:Int)<=(i:Nat)/\(i:Int)<(c.fr.length:Nat):=by and_intros<;>omega
 have hiF:i<c.fr.length:=by omega
 obtain ⟨x,hx,hx'⟩:=E0 hiF
 have hxr:=hc.fr1 i x hx
 apply A1
 apply hK2
 refine A3 fun K3 hK3=>?_
 apply A0
 refine rG ?_ fun K h=>by simp [go_sem,hiF,g104,hx,hx'];exact h
 refine A3 fun K4 hK4=>?_
 refine rG ?_ fun K h=>by simp [go_sem,hi16,g104,C7 hi16];exact h
 refine cK (fun h=>?_) fun h=>?_
 .have hrd:c.at_ (fun x=>rdB x.op) i=false:=by simpa using h
  apply A6
  apply hK3
  refine rF ?_ fun K h=>by simp [go_sem,hwi];exact h
  refine ⟨(i+1,j),?_,?_,?_⟩
  .exact ⟨by dsimp only;omega,by dsimp only;omega⟩
  .dsimp only;omega
  refine Weaker.fy 1 0 ?_ ?_
  .simp [go_sem,Cs.cs,E8]
  simp [go_sem,UW_ (q:=S4 c co) (a:=i) (b:=0) (s:=0) (fun y _=>zhd hrd) (fun y hy=>absurd hy (Nat.not_lt_zero _))]
 have hrd:c.at_ (fun x=>rdB x.op) i=true:=by simpa using h
 apply A1
 apply hK4
 refine rG ?_ fun K h=>by simp [go_sem,E8,hcn];exact h
 apply A0
 refine A9 (α:=Nat × Nat) (fun b=>⟨81,[(0,.rp (E8 c.t (fnV of) ws c.fr (.val vf)) 0),(4,.ptr 0 0 0),(5,.ptr 1 0 0),(6,.ptr 2 0 0),(7,.ptr 3 0 0),(8,.val (.int .u16 (F3 (c.at_ fun x=>rdB x.op)))),(9,.val (.int .u16 (F3 (c.at_ fun x=>wrB x.op)))),(23,.ro 1 (iVs c.fr)),(24,iV (c.n:Nat)),(25,iV (i:Nat)),(10,iV (i:Nat)),(11,iV x),(39,iV (c.n:Nat)),(40,iV (b.1:Nat))],[(3,.rows 16 [.agg (B6 (upR (S4 c co) i b.1))]),(2,.rows 16 [.agg (B6 fun _ _=>false)]),(1,.rows 16 [.agg (B6 co)]),(0,.rows 41 [.agg (G5 c kept po las)])],b.2⟩) (fun b=>b.1<=c.n/\3<b.2) (fun b=>c.n-b.1) (0,j) ?_ ?_ ?_
 .exact ⟨Nat.zero_le _,hj⟩
 .refine Weaker.fy 1 0 ?_ ?_
  .simp [go_sem,E8]
  simp [go_sem]
 rintro ⟨w,jj⟩ ⟨hb,hjj⟩
 dsimp only at hb hjj ⊢
 refine rG ?_
 refine A3 fun K5 hK5=>?_
 refine cJ (fun h=>?_) fun h=>?_
 .simp at h
  obtain rfl:w=c.n:=by omega
  clear h
  apply A6
  apply hK3
  refine rF ?_ fun K h=>by simp [go_sem,hwi];exact h
  refine ⟨(i+1,jj),?_,?_,?_⟩
  .exact ⟨by dsimp only;omega,by dsimp only;omega⟩
  .dsimp only;omega
  refine Weaker.fy 1 0 ?_ ?_
  .simp [go_sem,Cs.cs,E8]
  simp [go_sem,UW_ (q:=S4 c co) (a:=i) (b:=c.n) (s:=0) (fun y hy=>zZq hy) (fun y hy=>absurd hy (Nat.not_lt_zero _))]
 simp at h
 have hwn:w<c.n:=by omega
 clear h
 have hww:=wI w
 have hw16:w<16:=by omega
 have g105:(w:Int)<16/\w<=15/\(0:Int)<=(w:Nat):=by and_intros<;>omega
 have hbq:=zhe (co:=co) hin hwn hrd hx
 apply A1
 apply hK5
 refine A3 fun K6 hK6=>?_
 apply A0
 refine rG ?_
 refine D8 T_ok (by decide) ⟨81,[(0,.rp (E8 c.t (fnV of) ws c.fr (.val vf)) 0),(4,.ptr 0 0 0),(5,.ptr 1 0 0),(6,.ptr 2 0 0),(7,.ptr 3 0 0),(8,.val (.int .u16 (F3 (c.at_ fun x=>rdB x.op)))),(9,.val (.int .u16 (F3 (c.at_ fun x=>wrB x.op)))),(23,.ro 1 (iVs c.fr)),(24,iV (c.n:Nat)),(25,iV (i:Nat)),(10,iV (i:Nat)),(11,iV x),(39,iV (c.n:Nat)),(40,iV (w:Nat)),(12,iV (w:Nat)),(73,bV (S4 c co i w))],[(3,.rows 16 [.agg (B6 (upR (S4 c co) i w))]),(2,.rows 16 [.agg (B6 fun _ _=>false)]),(1,.rows 16 [.agg (B6 co)]),(0,.rows 41 [.agg (G5 c kept po las)])],jj⟩ ?_ ?_
 .by_cases c1:(w:Int)=(i:Nat)
  .simp [go_sem,c1,hw16,g105,C7 hw16]
   refine Weaker.fw 1 0 ?_ ?_<;>simp [go_sem,c1,hbq,E8,B5]
  by_cases c2:c.at_ (fun x=>wrB x.op) w=true
  .by_cases c3:(opX c.t w).loc=(opX c.t i).loc
   .by_cases c4:x<0
    .simp [go_sem,c1,c2,c3,c4,hw16,g105,C7 hw16]
     refine A2 (M6 c.t hS of ws c.fr vf w hwn) ?_
     simp [go_sem,B5,c1,c2,c3,c4,hw16,g105,C7 hw16]
     refine A2 (M6 c.t hS of ws c.fr vf i hin) ?_
     simp [go_sem,B5,c1,c2,c3,c4,hw16,g105,C7 hw16]
     refine Weaker.fw 1 0 ?_ ?_<;>simp [go_sem,c1,c2,c3,c4,hbq,E8,B5]
    obtain ⟨m,rfl⟩:=Int.eq_ofNat_of_zero_le (show 0<=x by omega)
    have hm16:m<16:=by omega
    simp [go_sem,c1,c2,c3,c4,hw16,g105,C7 hw16]
    refine A2 (M6 c.t hS of ws c.fr vf w hwn) ?_
    simp [go_sem,B5,c1,c2,c3,c4,hw16,g105,C7 hw16]
    refine A2 (M6 c.t hS of ws c.fr vf i hin) ?_
    simp [go_sem,B5,c1,c2,c3,c4,hw16,g105,C7 hw16]
    refine A2 (y6 co m hm16 _) ?_
    simp [go_sem,g105,c1,c2,c3,c4,hw16,C7 hw16]
    refine Weaker.fw 1 0 ?_ ?_<;>simp [go_sem,c1,c2,c3,c4,hbq,E8,B5]
   simp [go_sem,c1,c2,c3,hw16,g105,C7 hw16]
   refine A2 (M6 c.t hS of ws c.fr vf w hwn) ?_
   simp [go_sem,B5,c1,c2,c3,hw16,g105,C7 hw16]
   refine A2 (M6 c.t hS of ws c.fr vf i hin) ?_
   simp [go_sem,B5,c1,c2,c3,hw16,g105,C7 hw16]
   refine Weaker.fw 1 0 ?_ ?_<;>simp [go_sem,c1,c2,c3,hbq,E8,B5]
  simp [go_sem,c1,c2,hw16,g105,C7 hw16]
  refine Weaker.fw 1 0 ?_ ?_<;>simp [go_sem,c1,c2,hbq,E8,B5]
 skip
 refine cJ (fun h=>?_) fun h=>?_
 .have hbe:S4 c co i w=false:=by simpa using h
  apply A1
  apply hK6
  refine rF ?_ fun K h=>by simp [go_sem,hww];exact h
  refine ⟨(w+1,jj),?_,?_,?_⟩
  .exact ⟨by dsimp only;omega,by dsimp only;omega⟩
  .dsimp only;omega
  refine Weaker.fy 1 0 ?_ ?_
  .simp [go_sem,E8]
  simp [go_sem,zDu hbe]
 have hbe:S4 c co i w=true:=h
 refine rE fun K hK=>?_
 simp [go_sem]
 refine A2 (j1 _ _ _) ?_
 simp [go_sem]
 apply hK
 apply hK6
 refine rF ?_ fun K h=>by simp [go_sem,hww];exact h
 refine ⟨(w+1,jj),?_,?_,?_⟩
 .exact ⟨by dsimp only;omega,by dsimp only;omega⟩
 .dsimp only;omega
 refine Weaker.fy 1 0 ?_ ?_
 .simp [go_sem,E8]
 simp [go_sem,zAz hbe]
theorem zLc (c:Cs) (hc:CsOk c) (hS:SeaOk c.t) (of:FuncId) (ws:List Bool) (vf:Value) (kept po co:Rl) (las:List Int) (hl8:las.length=8):Pf Tryz.prog 227 [.rp (E8 c.t (fnV of) ws c.fr (.val vf)) 0,.agg (G5 c kept po las),.agg (B6 co)] (bV (zDw c co)):=by
 refine Pf.of_fn (.cons (Vh_ c.t ws c.fr vf 0) (.cons (.agg (zTc c kept po las)) (.cons (.agg (D9 co)) .nil))) (.val _) ?_
 have hn8:=hc.n8
 have hfl:=hc.frl
 have hpl:=hc.fl.l3
 have hops:O0 0 c.t.ths=c.ops:=rfl
 have hcn:c.ops.length=c.n:=rfl
 refine B7 T_ok func227 rfl rfl ntmps227 rfl (by simp) ?_
 refine rG ?_ fun K h=>by simp [go_sem,C0 hl8,B3 hl8,B1 hl8,C4 hl8,B0];exact h
 refine rK fun K hK=>?_
 simp [go_sem,C0 hl8,B3 hl8,B1 hl8,C4 hl8,B0]
 refine A2 (d0 c hc) ?_
 simp [go_sem,C0 hl8,B3 hl8,B1 hl8,C4 hl8,B0]
 apply hK
 refine A3 fun K1 hK1=>?_
 refine rG ?_ fun K h=>by simp [go_sem,C0 hl8,B3 hl8,B1 hl8,C4 hl8,B0,Cs.cs,Os'.cs];exact h
 apply A0
 refine A9 (α:=Nat × Nat) (fun a=>⟨105,[(0,.rp (E8 c.t (fnV of) ws c.fr (.val vf)) 0),(4,.ptr 0 0 0),(5,.ptr 1 0 0),(7,.val (.int .u16 (F3 (c.at_ fun x=>wrB x.op)))),(22,.ro 1 (iVs c.f.f.pair)),(23,iV (c.n:Nat)),(24,iV (a.1:Nat))],[(1,.rows 16 [.agg (B6 co)]),(0,.rows 41 [.agg (G5 c kept po las)])],a.2⟩) (fun a=>a.1<=c.n/\1<a.2/\zom c co a.1) (fun a=>c.n-a.1) (0,2) ?_ ?_ ?_
 .exact ⟨Nat.zero_le _,by dsimp only;omega,fun k h=>absurd h (Nat.not_lt_zero _)⟩
 .refine Weaker.fy 1 0 ?_ ?_
  .simp [go_sem,Cs.cs,Os'.cs,E8,hpl]
  simp [go_sem]
 rintro ⟨i,j⟩ ⟨hi,hj,hpu⟩
 dsimp only at hi hj hpu ⊢
 refine rG ?_
 refine A3 fun K2 hK2=>?_
 refine cJ (fun h=>?_) fun h=>?_
 .simp at h
  obtain rfl:i=c.n:=by omega
  clear h
  apply A6
  apply hK1
  refine rG ?_
  refine A4 ?_
  simp [go_sem,zR7 hpu]
 simp at h
 have hin:i<c.n:=by omega
 clear h
 have hwi:=wI i
 have hi16:i<16:=by omega
 have g106:(i:Int)<16/\i<=15/\(0:Int)<=(i:Nat)/\(i:Int)<(c.f.f.pair.length:Nat):=by and_intros<;>omega
 have hpF:i<c.f.f.pair.length:=by omega
 obtain ⟨p,hp,hp'⟩:=E0 hpF
 have hpr:=hc.pr1 i p hp
 apply A1
 apply hK2
 refine A3 fun K3 hK3=>?_
 apply A0
 refine rG ?_ fun K h=>by simp [go_sem,hpF,g106,hp,hp'];exact h
 refine A3 fun K4 hK4=>?_
 refine rK fun K hK=>?_
 by_cases hp0:p=0
 .simp [go_sem,hp0,hi16,g106,C7 hi16]
  apply hK
  refine cJ (fun h=>?_) fun h=>?_
  .simp at h
  have hpk:=zEe (co:=co) hp (.inl hp0)
  apply A6
  apply hK3
  refine rF ?_ fun K h=>by simp [go_sem,hwi];exact h
  refine ⟨(i+1,j),?_,?_,?_⟩
  .refine ⟨by dsimp only;omega,by dsimp only;omega,fun k h=>?_⟩
   by_cases e:k=i
   .subst e;exact hpk
   exact hpu k (by dsimp only at h;omega)
  .dsimp only;omega
  refine Weaker.fy 1 0 ?_ ?_
  .simp [go_sem,Cs.cs,Os'.cs,E8,hops]
  simp [go_sem]
 simp [go_sem,hp0,hi16,g106,C7 hi16]
 apply hK
 refine cK (fun h=>?_) fun h=>?_
 .have hpk:=zEe (co:=co) hp (.inr (by simpa using h))
  apply A6
  apply hK3
  refine rF ?_ fun K h=>by simp [go_sem,hwi];exact h
  refine ⟨(i+1,j),?_,?_,?_⟩
  .refine ⟨by dsimp only;omega,by dsimp only;omega,fun k h=>?_⟩
   by_cases e:k=i
   .subst e;exact hpk
   exact hpu k (by dsimp only at h;omega)
  .dsimp only;omega
  refine Weaker.fy 1 0 ?_ ?_
  .simp [go_sem,Cs.cs,Os'.cs,E8,hops]
  simp [go_sem]
 have hwr:c.at_ (fun x=>wrB x.op) i=true:=by simpa using h
 obtain ⟨q,hq⟩:∃ q:Nat,p=(q:Int)+1:=⟨(p-1).toNat,by omega⟩
 have hqn:q<c.n:=by omega
 have hwp:IntKind.i64.wrap (p-1)=(q:Nat):=by rw [E4 (by omega) (by omega)];omega
 have hqF:q<c.fr.length:=by omega
 have g107:(q:Int)<(c.fr.length:Nat)/\(0:Int)<=(q:Nat):=by and_intros<;>omega
 obtain ⟨y,hy,hy'⟩:=E0 hqF
 have hyr:=hc.fr1 q y hy
 have hpat:=zhf (co:=co) hp hp0 hwr (show c.fr[(p-1).toNat]?=some y by rw [show (p-1).toNat=q by omega];exact hy)
 obtain ⟨lk,⟨o1k,o2k⟩,⟨a1k,a2k,a3k⟩,⟨b1k,b2k,b3k⟩⟩:=opF hc hin
 have g108:((c.op i).1:Int)<(c.t.ths.length:Nat)/\((c.op i).2:Int)<(lk.length:Nat)/\(0:Int)<=((c.op i).1:Nat)/\(0:Int)<=((c.op i).2:Nat)/\(0:Int)<=(i:Nat):=by and_intros<;>omega
 have hcnk:c.ops.length=c.n:=rfl
 have kIk:(i:Int)<(c.n:Nat):=by omega
 have kNk:i<c.n:=hin
 have o3k:(j3 c.ops)[i]?=some (.agg [iV ((c.op i).1:Nat),iV ((c.op i).2:Nat)]):=by rw [P3,o1k];rfl
 apply A1
 apply hK4
 refine rG ?_ fun K h=>by simp [go_sem,E8,hwp,hqF,g107,hy,hy'];exact h
 refine A3 fun K5 hK5=>?_
 refine rK fun K hK=>?_
 by_cases hy0:0<=y
 .simp [go_sem,hy0]
  refine A2 (zBg co y i hy0 (by omega)) ?_
  simp [go_sem,hy0,g106]
  apply hK
  refine cK (fun h=>?_) fun h=>?_
  .have hpf0:zDw c co=false:=WT_ hin (by rw [hpat,decide_eq_true hy0,show co y.toNat i=false by simpa using h];rfl)
   refine rG ?_
   refine A4 ?_
   simp [go_sem,hpf0]
  have hg:(decide (0<=y)&&!co y.toNat i)=false:=by rw [decide_eq_true hy0,show co y.toNat i=true by simpa using h];rfl
  apply A1
  apply hK5
  refine rG ?_ fun K h=>by simp [go_sem,E8,hops,hcn];exact h
  apply A0
  refine A9 (α:=Nat × Nat) (fun b=>⟨105,[(0,.rp (E8 c.t (fnV of) ws c.fr (.val vf)) 0),(4,.ptr 0 0 0),(5,.ptr 1 0 0),(7,.val (.int .u16 (F3 (c.at_ fun x=>wrB x.op)))),(22,.ro 1 (iVs c.f.f.pair)),(23,iV (c.n:Nat)),(24,iV (i:Nat)),(8,iV (i:Nat)),(10,iV y),(59,iV (c.n:Nat)),(60,iV (b.1:Nat))],[(1,.rows 16 [.agg (B6 co)]),(0,.rows 41 [.agg (G5 c kept po las)])],b.2⟩) (fun b=>b.1<=c.n/\1<b.2/\∀ w,w<b.1->Wu_ c co i y w=false) (fun b=>c.n-b.1) (0,j) ?_ ?_ ?_
  .exact ⟨Nat.zero_le _,hj,fun w h=>absurd h (Nat.not_lt_zero _)⟩
  .refine Weaker.fy 1 0 ?_ ?_
   .simp [go_sem,E8,hops]
   simp [go_sem]
  rintro ⟨w,jj⟩ ⟨hb,hjj,hpw⟩
  dsimp only at hb hjj hpw ⊢
  refine rG ?_
  refine A3 fun K6 hK6=>?_
  refine cJ (fun h=>?_) fun h=>?_
  .simp at h
   obtain rfl:w=c.n:=by omega
   clear h
   have hpk:zNm c co i=true:=by rw [hpat,hg,zEf hpw];rfl
   apply A6
   apply hK3
   refine rF ?_ fun K h=>by simp [go_sem,hwi];exact h
   refine ⟨(i+1,jj),?_,?_,?_⟩
   .refine ⟨by dsimp only;omega,by dsimp only;omega,fun k h=>?_⟩
    by_cases e:k=i
    .subst e;exact hpk
    exact hpu k (by dsimp only at h;omega)
   .dsimp only;omega
   refine Weaker.fy 1 0 ?_ ?_
   .simp [go_sem,Cs.cs,Os'.cs,E8,hops]
   simp [go_sem]
  simp at h
  have hwn:w<c.n:=by omega
  clear h
  have hww:=wI w
  have hw16:w<16:=by omega
  have g109:(w:Int)<16/\w<=15/\(0:Int)<=(w:Nat):=by and_intros<;>omega
  obtain ⟨lq,⟨o1q,o2q⟩,⟨a1q,a2q,a3q⟩,⟨b1q,b2q,b3q⟩⟩:=opF hc hwn
  have g110:((c.op w).1:Int)<(c.t.ths.length:Nat)/\((c.op w).2:Int)<(lq.length:Nat)/\(0:Int)<=((c.op w).1:Nat)/\(0:Int)<=((c.op w).2:Nat)/\(0:Int)<=(w:Nat):=by and_intros<;>omega
  have hcnq:c.ops.length=c.n:=rfl
  have kIq:(w:Int)<(c.n:Nat):=by omega
  have kNq:w<c.n:=hwn
  have o3q:(j3 c.ops)[w]?=some (.agg [iV ((c.op w).1:Nat),iV ((c.op w).2:Nat)]):=by rw [P3,o1q];rfl
  apply A1
  apply hK6
  refine A3 fun K7 hK7=>?_
  apply A0
  refine rG ?_
  refine Q6 T_ok (by kernel_rfl) 37 [[],[],[0,1],[0,1,2],[0,1,2,3],[0,1,2,3,4],[0,1,2,3,4,5],[0,1,2,3,4,5,6],[0,1,2,3,4,5,6,7],[0,1,2,3,4,5,6,7,8],[0,1,2,3,4,5],[0,1,2,3,4,5,6,7,8,9,10],[0,1,2,3,4,5,6,7,8,9,10,11],[0,1,2,3,4,5,6,7,8,9,10,11,12],[0,1,2,3,4,5],[0,1,2,3,4,5,14],[0,1,2,3,4,5,14,15],[0,1,2,3,4,5,14,15,16],[0,1,2,3,4,5],[0,1,2,3,4,5,14,15,16,17,18],[0,1,2,3,4,5,14,15,16,17,18,19],[0,1,2,3,4,5,14,15,16,17,18,19,20],[0,1,2,3,4,5,6,7,8,9,10,11,12,13,14,15,16,17,18,19,20,21],[0,1,2,3,4,5,6,7,8,9,10,11,12,13,14,15,16,17,18,19,20,21,22],[0,1,2,3,4,5,6,7,8,9,10,11,12,13,14,15,16,17,18,19,20,21,22,23],[0,1,2,3,4,5,6,7,8,9,10,11,12,13,14,15,16,17,18,19,20,21,22,23,24],[0,1,2,3,4,5,6,7,8,9,10,11,12,13,14,15,16,17,18,19,20,21,22,23,24],[0,1,2,3,4,5,6,7,8,9,10,11,12,13,14,15,16,17,18,19,20,21,22,23,24],[0,1,2,3,4,5,6,7,8,9,10,11,12,13,14,15,16,17,18,19,20,21,22,23,24,25,26,27],[0,1,2,3,4,5,6,7,8,9,10,11,12,13,14,15,16,17,18,19,20,21,22,23,24,25,26,27,28],[0,1,2,3,4,5,6,7,8,9,10,11,12,13,14,15,16,17,18,19,20,21,22,23,24,25,26,27,28,29],[0,1,2,3,4,5,6,7,8,9,10,11,12,13,14,15,16,17,18,19,20,21,22,23,24,25,26,27,28,29,30],[0,1,2,3,4,5,6,7,8,9,10,11,12,13,14,15,16,17,18,19,20,21,22,23,24,25,26,27,28,29,30,31],[0,1,2,3,4,5,6,7,8,9,10,11,12,13,14,15,16,17,18,19,20,21,22,23,24,25,26,27,28,29,30,31,32],[0,1,2,3,4,5,6,7,8,9,10,11,12,13,14,15,16,17,18,19,20,21,22,23,24,25,26,27,28,29,30,31,32,33],[0,1,2,3,4,5,6,7,8,9,10,11,12,13,14,15,16,17,18,19,20,21,22,23,24,25,26,27,28,29,30,31,32,33],[0,1,2,3,4,5,6,7,8,9,10,11,12,13,14,15,16,17,18,19,20,21,22,23,24,25,26,27,28,29,30,31,32,33],[0,1,2,3,4,5,6,7,8,9,10,11,12,13,14,15,16,17,18,19,20,21,22,23,24,25,26,27,28,29,30,31,32,33,34,35,36],[0,1,2,3,4,5,6,7,8,9,10,11,12,13,14,15,16,17,18,19,20,21,22,23,24,25,26,27,28,29,30,31,32,33,34,35,36,37],[0,1,2,3,4,5,6,7,8,9,10,11,12,13,14,15,16,17,18,19,20,21,22,23,24,25,26,27,28,29,30,31,32,33,34,35,36,37,38]] [] (by decide) (by decide) (by decide) ⟨105,[(0,.rp (E8 c.t (fnV of) ws c.fr (.val vf)) 0),(4,.ptr 0 0 0),(5,.ptr 1 0 0),(7,.val (.int .u16 (F3 (c.at_ fun x=>wrB x.op)))),(22,.ro 1 (iVs c.f.f.pair)),(23,iV (c.n:Nat)),(24,iV (i:Nat)),(8,iV (i:Nat)),(10,iV y),(59,iV (c.n:Nat)),(60,iV (w:Nat)),(11,iV (w:Nat)),(102,bV (Wu_ c co i y w))],[(1,.rows 16 [.agg (B6 co)]),(0,.rows 41 [.agg (G5 c kept po las)])],jj+37⟩ ?_ ?_
  .first|dsimp only [List.take,List.drop]|dsimp [List.take,List.drop]
   by_cases c1:c.at_ (fun x=>wrB x.op) w=true
   .by_cases c2:((c.op w).1:Int)=((c.op i).1:Nat)
    .simp [go_sem,c1,c2,E8,hops,hw16,g109,C7 hw16,o1k,o2k,o3k,a1k,a2k,a3k,b1k,b2k,b3k,g108,kIk,kNk,hcnk,o1q,o2q,o3q,a1q,a2q,a3q,b1q,b2q,b3q,g110,kIq,kNq,hcnq,g106]
     refine Weaker.fw 1 0 ?_ ?_<;>simp [go_sem,c1,c2,Wu_]
    by_cases c3:co w i=true
    .by_cases c4:y<0
     .simp [go_sem,c1,c2,c3,c4,E8,hops,hw16,g109,C7 hw16,o1k,o2k,o3k,a1k,a2k,a3k,b1k,b2k,b3k,g108,kIk,kNk,hcnk,o1q,o2q,o3q,a1q,a2q,a3q,b1q,b2q,b3q,g110,kIq,kNq,hcnq,g106]
      refine A5 (y6 co w hw16 _) ?_
      simp [go_sem,c1,c2,c3,c4,E8,hops,hw16,g109,C7 hw16,o1k,o2k,o3k,a1k,a2k,a3k,b1k,b2k,b3k,g108,kIk,kNk,hcnk,o1q,o2q,o3q,a1q,a2q,a3q,b1q,b2q,b3q,g110,kIq,kNq,hcnq,g106]
      refine Weaker.fw 1 0 ?_ ?_<;>simp [go_sem,c1,c2,c3,c4,Wu_]
     have hy00:0<=y:=by omega
     simp [go_sem,c1,c2,c3,c4,E8,hops,hw16,g109,C7 hw16,o1k,o2k,o3k,a1k,a2k,a3k,b1k,b2k,b3k,g108,kIk,kNk,hcnk,o1q,o2q,o3q,a1q,a2q,a3q,b1q,b2q,b3q,g110,kIq,kNq,hcnq,g106]
     refine A5 (y6 co w hw16 _) ?_
     simp [go_sem,c1,c2,c3,c4,E8,hops,hw16,g109,C7 hw16,o1k,o2k,o3k,a1k,a2k,a3k,b1k,b2k,b3k,g108,kIk,kNk,hcnk,o1q,o2q,o3q,a1q,a2q,a3q,b1q,b2q,b3q,g110,kIq,kNq,hcnq,g106]
     refine A2 (zBg co y w hy00 (by omega)) ?_
     simp [go_sem,c1,c2,c3,c4,E8,hops,hw16,g109,C7 hw16,o1k,o2k,o3k,a1k,a2k,a3k,b1k,b2k,b3k,g108,kIk,kNk,hcnk,o1q,o2q,o3q,a1q,a2q,a3q,b1q,b2q,b3q,g110,kIq,kNq,hcnq,g106]
     refine Weaker.fw 1 0 ?_ ?_<;>simp [go_sem,c1,c2,c3,c4,Wu_]
    simp [go_sem,c1,c2,c3,E8,hops,hw16,g109,C7 hw16,o1k,o2k,o3k,a1k,a2k,a3k,b1k,b2k,b3k,g108,kIk,kNk,hcnk,o1q,o2q,o3q,a1q,a2q,a3q,b1q,b2q,b3q,g110,kIq,kNq,hcnq,g106]
    refine A5 (y6 co w hw16 _) ?_
    simp [go_sem,c1,c2,c3,E8,hops,hw16,g109,C7 hw16,o1k,o2k,o3k,a1k,a2k,a3k,b1k,b2k,b3k,g108,kIk,kNk,hcnk,o1q,o2q,o3q,a1q,a2q,a3q,b1q,b2q,b3q,g110,kIq,kNq,hcnq,g106]
    refine Weaker.fw 1 0 ?_ ?_<;>simp [go_sem,c1,c2,c3,Wu_]
   simp [go_sem,c1,E8,hops,hw16,g109,C7 hw16,o1k,o2k,o3k,a1k,a2k,a3k,b1k,b2k,b3k,g108,kIk,kNk,hcnk,o1q,o2q,o3q,a1q,a2q,a3q,b1q,b2q,b3q,g110,kIq,kNq,hcnq,g106]
   refine Weaker.fw 1 0 ?_ ?_<;>simp [go_sem,c1,Wu_]
  skip
  refine cK (fun h=>?_) fun h=>?_
  .have hpf0:zDw c co=false:=WT_ hin (by rw [hpat,zEg hwn h];simp)
   refine rG ?_
   refine A4 ?_
   simp [go_sem,hpf0]
  have hpf:Wu_ c co i y w=false:=by simpa using h
  apply A1
  apply hK7
  refine rF ?_ fun K h=>by simp [go_sem,hww];exact h
  refine ⟨(w+1,jj+37),?_,?_,?_⟩
  .refine ⟨by dsimp only;omega,by dsimp only;omega,fun q h=>?_⟩
   by_cases e:q=w
   .subst e;exact hpf
   exact hpw q (by dsimp only at h;omega)
  .dsimp only;omega
  refine Weaker.fy 1 0 ?_ ?_
  .simp [go_sem,E8,hops]
  simp [go_sem]
 simp [go_sem,hy0]
 apply hK
 refine cK (fun h=>?_) fun h=>?_
 .simp at h
 have hg:(decide (0<=y)&&!co y.toNat i)=false:=by rw [decide_eq_false hy0];rfl
 apply A1
 apply hK5
 refine rG ?_ fun K h=>by simp [go_sem,E8,hops,hcn];exact h
 apply A0
 refine A9 (α:=Nat × Nat) (fun b=>⟨105,[(0,.rp (E8 c.t (fnV of) ws c.fr (.val vf)) 0),(4,.ptr 0 0 0),(5,.ptr 1 0 0),(7,.val (.int .u16 (F3 (c.at_ fun x=>wrB x.op)))),(22,.ro 1 (iVs c.f.f.pair)),(23,iV (c.n:Nat)),(24,iV (i:Nat)),(8,iV (i:Nat)),(10,iV y),(59,iV (c.n:Nat)),(60,iV (b.1:Nat))],[(1,.rows 16 [.agg (B6 co)]),(0,.rows 41 [.agg (G5 c kept po las)])],b.2⟩) (fun b=>b.1<=c.n/\1<b.2/\∀ w,w<b.1->Wu_ c co i y w=false) (fun b=>c.n-b.1) (0,j) ?_ ?_ ?_
 .exact ⟨Nat.zero_le _,hj,fun w h=>absurd h (Nat.not_lt_zero _)⟩
 .refine Weaker.fy 1 0 ?_ ?_
  .simp [go_sem,E8,hops]
  simp [go_sem]
 rintro ⟨w,jj⟩ ⟨hb,hjj,hpw⟩
 dsimp only at hb hjj hpw ⊢
 refine rG ?_
 refine A3 fun K8 hK8=>?_
 refine cJ (fun h=>?_) fun h=>?_
 .simp at h
  obtain rfl:w=c.n:=by omega
  clear h
  have hpk:zNm c co i=true:=by rw [hpat,hg,zEf hpw];rfl
  apply A6
  apply hK3
  refine rF ?_ fun K h=>by simp [go_sem,hwi];exact h
  refine ⟨(i+1,jj),?_,?_,?_⟩
  .refine ⟨by dsimp only;omega,by dsimp only;omega,fun k h=>?_⟩
   by_cases e:k=i
   .subst e;exact hpk
   exact hpu k (by dsimp only at h;omega)
  .dsimp only;omega
  refine Weaker.fy 1 0 ?_ ?_
  .simp [go_sem,Cs.cs,Os'.cs,E8,hops]
  simp [go_sem]
 simp at h
 have hwn:w<c.n:=by omega
 clear h
 have hww:=wI w
 have hw16:w<16:=by omega
 have g111:(w:Int)<16/\w<=15/\(0:Int)<=(w:Nat):=by and_intros<;>omega
 obtain ⟨lq,⟨o1q,o2q⟩,⟨a1q,a2q,a3q⟩,⟨b1q,b2q,b3q⟩⟩:=opF hc hwn
 have g112:((c.op w).1:Int)<(c.t.ths.length:Nat)/\((c.op w).2:Int)<(lq.length:Nat)/\(0:Int)<=((c.op w).1:Nat)/\(0:Int)<=((c.op w).2:Nat)/\(0:Int)<=(w:Nat):=by and_intros<;>omega
 have hcnq:c.ops.length=c.n:=rfl
 have kIq:(w:Int)<(c.n:Nat):=by omega
 have kNq:w<c.n:=hwn
 have o3q:(j3 c.ops)[w]?=some (.agg [iV ((c.op w).1:Nat),iV ((c.op w).2:Nat)]):=by rw [P3,o1q];rfl
 apply A1
 apply hK8
 refine A3 fun K9 hK9=>?_
 apply A0
 refine rG ?_
 refine Q6 T_ok (by kernel_rfl) 37 [[],[],[0,1],[0,1,2],[0,1,2,3],[0,1,2,3,4],[0,1,2,3,4,5],[0,1,2,3,4,5,6],[0,1,2,3,4,5,6,7],[0,1,2,3,4,5,6,7,8],[0,1,2,3,4,5],[0,1,2,3,4,5,6,7,8,9,10],[0,1,2,3,4,5,6,7,8,9,10,11],[0,1,2,3,4,5,6,7,8,9,10,11,12],[0,1,2,3,4,5],[0,1,2,3,4,5,14],[0,1,2,3,4,5,14,15],[0,1,2,3,4,5,14,15,16],[0,1,2,3,4,5],[0,1,2,3,4,5,14,15,16,17,18],[0,1,2,3,4,5,14,15,16,17,18,19],[0,1,2,3,4,5,14,15,16,17,18,19,20],[0,1,2,3,4,5,6,7,8,9,10,11,12,13,14,15,16,17,18,19,20,21],[0,1,2,3,4,5,6,7,8,9,10,11,12,13,14,15,16,17,18,19,20,21,22],[0,1,2,3,4,5,6,7,8,9,10,11,12,13,14,15,16,17,18,19,20,21,22,23],[0,1,2,3,4,5,6,7,8,9,10,11,12,13,14,15,16,17,18,19,20,21,22,23,24],[0,1,2,3,4,5,6,7,8,9,10,11,12,13,14,15,16,17,18,19,20,21,22,23,24],[0,1,2,3,4,5,6,7,8,9,10,11,12,13,14,15,16,17,18,19,20,21,22,23,24],[0,1,2,3,4,5,6,7,8,9,10,11,12,13,14,15,16,17,18,19,20,21,22,23,24,25,26,27],[0,1,2,3,4,5,6,7,8,9,10,11,12,13,14,15,16,17,18,19,20,21,22,23,24,25,26,27,28],[0,1,2,3,4,5,6,7,8,9,10,11,12,13,14,15,16,17,18,19,20,21,22,23,24,25,26,27,28,29],[0,1,2,3,4,5,6,7,8,9,10,11,12,13,14,15,16,17,18,19,20,21,22,23,24,25,26,27,28,29,30],[0,1,2,3,4,5,6,7,8,9,10,11,12,13,14,15,16,17,18,19,20,21,22,23,24,25,26,27,28,29,30,31],[0,1,2,3,4,5,6,7,8,9,10,11,12,13,14,15,16,17,18,19,20,21,22,23,24,25,26,27,28,29,30,31,32],[0,1,2,3,4,5,6,7,8,9,10,11,12,13,14,15,16,17,18,19,20,21,22,23,24,25,26,27,28,29,30,31,32,33],[0,1,2,3,4,5,6,7,8,9,10,11,12,13,14,15,16,17,18,19,20,21,22,23,24,25,26,27,28,29,30,31,32,33],[0,1,2,3,4,5,6,7,8,9,10,11,12,13,14,15,16,17,18,19,20,21,22,23,24,25,26,27,28,29,30,31,32,33],[0,1,2,3,4,5,6,7,8,9,10,11,12,13,14,15,16,17,18,19,20,21,22,23,24,25,26,27,28,29,30,31,32,33,34,35,36],[0,1,2,3,4,5,6,7,8,9,10,11,12,13,14,15,16,17,18,19,20,21,22,23,24,25,26,27,28,29,30,31,32,33,34,35,36,37],[0,1,2,3,4,5,6,7,8,9,10,11,12,13,14,15,16,17,18,19,20,21,22,23,24,25,26,27,28,29,30,31,32,33,34,35,36,37,38]] [] (by decide) (by decide) (by decide) ⟨105,[(0,.rp (E8 c.t (fnV of) ws c.fr (.val vf)) 0),(4,.ptr 0 0 0),(5,.ptr 1 0 0),(7,.val (.int .u16 (F3 (c.at_ fun x=>wrB x.op)))),(22,.ro 1 (iVs c.f.f.pair)),(23,iV (c.n:Nat)),(24,iV (i:Nat)),(8,iV (i:Nat)),(10,iV y),(59,iV (c.n:Nat)),(60,iV (w:Nat)),(11,iV (w:Nat)),(102,bV (Wu_ c co i y w))],[(1,.rows 16 [.agg (B6 co)]),(0,.rows 41 [.agg (G5 c kept po las)])],jj+37⟩ ?_ ?_
 .first|dsimp only [List.take,List.drop]|dsimp [List.take,List.drop]
  by_cases c1:c.at_ (fun x=>wrB x.op) w=true
  .by_cases c2:((c.op w).1:Int)=((c.op i).1:Nat)
   .simp [go_sem,c1,c2,E8,hops,hw16,g111,C7 hw16,o1k,o2k,o3k,a1k,a2k,a3k,b1k,b2k,b3k,g108,kIk,kNk,hcnk,o1q,o2q,o3q,a1q,a2q,a3q,b1q,b2q,b3q,g112,kIq,kNq,hcnq,g106]
    refine Weaker.fw 1 0 ?_ ?_<;>simp [go_sem,c1,c2,Wu_]
   by_cases c3:co w i=true
   .by_cases c4:y<0
    .simp [go_sem,c1,c2,c3,c4,E8,hops,hw16,g111,C7 hw16,o1k,o2k,o3k,a1k,a2k,a3k,b1k,b2k,b3k,g108,kIk,kNk,hcnk,o1q,o2q,o3q,a1q,a2q,a3q,b1q,b2q,b3q,g112,kIq,kNq,hcnq,g106]
     refine A5 (y6 co w hw16 _) ?_
     simp [go_sem,c1,c2,c3,c4,E8,hops,hw16,g111,C7 hw16,o1k,o2k,o3k,a1k,a2k,a3k,b1k,b2k,b3k,g108,kIk,kNk,hcnk,o1q,o2q,o3q,a1q,a2q,a3q,b1q,b2q,b3q,g112,kIq,kNq,hcnq,g106]
     refine Weaker.fw 1 0 ?_ ?_<;>simp [go_sem,c1,c2,c3,c4,Wu_]
    have hy00:0<=y:=by omega
    simp [go_sem,c1,c2,c3,c4,E8,hops,hw16,g111,C7 hw16,o1k,o2k,o3k,a1k,a2k,a3k,b1k,b2k,b3k,g108,kIk,kNk,hcnk,o1q,o2q,o3q,a1q,a2q,a3q,b1q,b2q,b3q,g112,kIq,kNq,hcnq,g106]
    refine A5 (y6 co w hw16 _) ?_
    simp [go_sem,c1,c2,c3,c4,E8,hops,hw16,g111,C7 hw16,o1k,o2k,o3k,a1k,a2k,a3k,b1k,b2k,b3k,g108,kIk,kNk,hcnk,o1q,o2q,o3q,a1q,a2q,a3q,b1q,b2q,b3q,g112,kIq,kNq,hcnq,g106]
    refine A2 (zBg co y w hy00 (by omega)) ?_
    simp [go_sem,c1,c2,c3,c4,E8,hops,hw16,g111,C7 hw16,o1k,o2k,o3k,a1k,a2k,a3k,b1k,b2k,b3k,g108,kIk,kNk,hcnk,o1q,o2q,o3q,a1q,a2q,a3q,b1q,b2q,b3q,g112,kIq,kNq,hcnq,g106]
    refine Weaker.fw 1 0 ?_ ?_<;>simp [go_sem,c1,c2,c3,c4,Wu_]
   simp [go_sem,c1,c2,c3,E8,hops,hw16,g111,C7 hw16,o1k,o2k,o3k,a1k,a2k,a3k,b1k,b2k,b3k,g108,kIk,kNk,hcnk,o1q,o2q,o3q,a1q,a2q,a3q,b1q,b2q,b3q,g112,kIq,kNq,hcnq,g106]
   refine A5 (y6 co w hw16 _) ?_
   simp [go_sem,c1,c2,c3,E8,hops,hw16,g111,C7 hw16,o1k,o2k,o3k,a1k,a2k,a3k,b1k,b2k,b3k,g108,kIk,kNk,hcnk,o1q,o2q,o3q,a1q,a2q,a3q,b1q,b2q,b3q,g112,kIq,kNq,hcnq,g106]
   refine Weaker.fw 1 0 ?_ ?_<;>simp [go_sem,c1,c2,c3,Wu_]
  simp [go_sem,c1,E8,hops,hw16,g111,C7 hw16,o1k,o2k,o3k,a1k,a2k,a3k,b1k,b2k,b3k,g108,kIk,kNk,hcnk,o1q,o2q,o3q,a1q,a2q,a3q,b1q,b2q,b3q,g112,kIq,kNq,hcnq,g106]
  refine Weaker.fw 1 0 ?_ ?_<;>simp [go_sem,c1,Wu_]
 skip
 refine cK (fun h=>?_) fun h=>?_
 .have hpf0:zDw c co=false:=WT_ hin (by rw [hpat,zEg hwn h];simp)
  refine rG ?_
  refine A4 ?_
  simp [go_sem,hpf0]
 have hpf:Wu_ c co i y w=false:=by simpa using h
 apply A1
 apply hK9
 refine rF ?_ fun K h=>by simp [go_sem,hww];exact h
 refine ⟨(w+1,jj+37),?_,?_,?_⟩
 .refine ⟨by dsimp only;omega,by dsimp only;omega,fun q h=>?_⟩
  by_cases e:q=w
  .subst e;exact hpf
  exact hpw q (by dsimp only at h;omega)
 .dsimp only;omega
 refine Weaker.fy 1 0 ?_ ?_
 .simp [go_sem,E8,hops]
 simp [go_sem]
abbrev d7 (t:Tst) (of:FuncId) (ws:List Bool) (fr:List Int) (vg:FuncId) (vcs:List V):V:=.rp (E8 t (fnV of) ws fr (.fn (.func vg) [] vcs)) 0
structure VisOk {σ:Type} (Q:Rn->Prop) (G:σ->A8) (step:σ->Rn->σ) (ok:σ->Prop) (vg:FuncId) (vcs:List V) (j0:Nat):Prop where
 call:∀ s r j,ok s->Q r->CsOk r.c->r.st.length=41->j0<=j->Sl.Fn Tryz.prog vg (.agg (rnC r)::vcs) (G s) j fun v H _=>v=.tup []/\H=G (step s r)
 okS:∀ s r,ok s->Q r->ok (step s r)
 names:∀ s,ok s->∀ p∈G s,p.1<j0
 plain:∀ s,ok s->zJ0 (G s)
 still:∀ s,ok s->∀ d S H,∀ p∈G s,U9_ S H d p.2=p.2
theorem zZr (c:Cs) (hc:CsOk c) (hS:SeaOk c.t) (of:FuncId) (ws:List Bool) (kept po co:Rl) (las:List Int) (hl8:las.length=8) (vg:FuncId) (vcs:List V):Pf Tryz.prog 225 [d7 c.t of ws c.fr vg vcs,.agg (G5 c kept po las),.agg (B6 co)] (.agg (B6 (S4 c co))) :=
 Pf.hide (ds:=zTb c.t (fnV of) ws c.fr) fun x _=>zGe c hc hS of ws x kept po co las hl8
theorem zZs (c:Cs) (hc:CsOk c) (hS:SeaOk c.t) (of:FuncId) (ws:List Bool) (kept po co:Rl) (las:List Int) (hl8:las.length=8) (vg:FuncId) (vcs:List V):Pf Tryz.prog 227 [d7 c.t of ws c.fr vg vcs,.agg (G5 c kept po las),.agg (B6 co)] (bV (zDw c co)) :=
 Pf.hide (ds:=zTb c.t (fnV of) ws c.fr) fun x _=>zLc c hc hS of ws x kept po co las hl8
theorem zLd (c : Cs) (kept co : Rl) : (zGz (fun a b => S4 c co a b && poP c b a) = true ∧ 0 < Jt_ (fun a b => S4 c co a b && poP c b a) 16) ∨
    (zGz (fun a b=>S4 c co a b&&poP c b a)=false/\¬ 0<Jt_ (fun a b=>S4 c co a b&&poP c b a) 16/\Zc_ (fun a b=>(kept a b||co a b)||S4 c co a b)=true) ∨
    (zGz (fun a b=>S4 c co a b&&poP c b a)=false/\¬ 0<Jt_ (fun a b=>S4 c co a b&&poP c b a) 16/\Zc_ (fun a b=>(kept a b||co a b)||S4 c co a b)=false):=by
  have h:=zZ0 (fun a b=>S4 c co a b&&poP c b a)
  cases hA:zGz (fun a b=>S4 c co a b&&poP c b a) with
  | true =>
    rw [hA,decide_eq_true_eq] at h
    exact .inl ⟨rfl,by omega⟩
  | false =>
    rw [hA,decide_eq_false_iff_not] at h
    cases hB:Zc_ (fun a b=>(kept a b||co a b)||S4 c co a b) with
    | true=>exact .inr (.inl ⟨rfl,by omega,rfl⟩)
    | false=>exact .inr (.inr ⟨rfl,by omega,rfl⟩)
theorem zBh {kept co:Rl} {c:Cs} {las:List Int} (h:(zGz (fun a b=>S4 c co a b&&poP c b a)||(Zc_ (Ua_ kept co (S4 c co))||!zDw c co))=true):Jw_ kept c las co=[]:=by unfold Jw_;rw [if_pos h]
theorem zhg {kept co:Rl} {c:Cs} {las:List Int} (h:(zGz (fun a b=>S4 c co a b&&poP c b a)||(Zc_ (Ua_ kept co (S4 c co))||!zDw c co))=false):Jw_ kept c las co=[⟨c,co,Ua_ kept co (S4 c co),T4 c.t (Ws_ c) fun i=>(Yu_ c las).getD i 0⟩]:=by unfold Jw_;rw [if_neg (by rw [h];simp)]
theorem zLe (f:Nat->Int):(J0 f).take 8=J0 f:=rfl
theorem zLf (g:Nat->Vl):(∀ x,x∈q8 g->x.one=true)=True:=eq_true (zDd g)
theorem zLg {P:Program} {f:FuncId} {a b rest:List V} {H:A8} {k:Nat} {K:V->A8->Nat->Prop} (e:a=b) (h:@x4 P f (.agg b::rest) H k ⟨K⟩):@x4 P f (.agg a::rest) H k ⟨K⟩:=e▸h
theorem zZt (x:V) (A B C Y:List V) {Z:List V} {m:Nat} (hA:A.length=16) (hB:B.length=16) (hY:Y.length<=m):x::(List.take 32 (A++(B++Z))++(C++List.drop m Y))=x::(A++(B++C)):=by
 have h1:List.take 32 (A++(B++Z))=A++B:=by
  rw [<-append_assoc,take_append_of_le_length (by simp [hA,hB]),take_of_length_le (by simp [hA,hB])]
 rw [h1,drop_eq_nil_of_le hY]
 simp
theorem usT (l:List (Nat->Int)) (n:Nat) (h:l.length=n):List.take n (E1 l)=E1 l:=take_of_length_le (by rw [YC_];omega)
theorem zR8 {σ:Type} {Q:Rn->Prop} {G:σ->A8} {step:σ->Rn->σ} {ok:σ->Prop} {vg:FuncId} {vcs:List V} {j0:Nat} (hV:VisOk Q G step ok vg vcs j0) (c:Cs) (hc:CsOk c) (hS:SeaOk c.t) (of:FuncId) (ws:List Bool) (kept po co:Rl) (hpo:po=poP c) (las:List Int) (hl8:las.length=8) (hlas:∀ (i:Nat) (n:Int),las[i]?=some n->0<=n/\n<=c.n) (hrl:c.f.regs.length=c.t.ths.length) (hQ:∀ r∈Jw_ kept c las co,Q r) (s:σ) (hs:ok s) (j:Nat) (hj:j0<=j):Sl.Fn Tryz.prog 222 [d7 c.t of ws c.fr vg vcs,.agg (G5 c kept po las),.agg (B6 co)] (G s) j fun v H _=>v=.tup []/\H=G ((Jw_ kept c las co).foldl step s):=by
 subst hpo
 refine Fn.view ?_
 have hn8:=hc.n8
 have ht4:=hS.ths
 have hlo:=hS.locs
 have g113:(0:Int)<=(c.t.ths.length:Nat)/\(8:Int)*(c.t.ths.length:Nat)<=281474976710656/\(64:Int)*(c.t.ths.length:Nat)<=281474976710656/\((c.t.ths.length:Nat):Int)<=9223372036854775807:=by and_intros<;>omega
 refine B7 T_ok func222 rfl rfl ntmps222 rfl (by simp) ?_
 refine rG ?_ fun K h=>by simp [go_sem,C0 hl8,B3 hl8,B1 hl8,C4 hl8,B0,C2,F1,C1];exact h
 refine rK fun K hK=>?_
 simp [go_sem,C0 hl8,B3 hl8,B1 hl8,C4 hl8,B0,C2,F1,C1]
 refine A2 (zZr c hc hS of ws kept (poP c) co las hl8 vg vcs) ?_
 simp [go_sem]
 apply hK
 refine S8 T_ok (by kernel_rfl) 7 [[],[0],[],[0,1,2],[],[0,1,2,3,4],[],[0,1,2,3,4,5,6]] [(0,6),(1,6),(2,6),(3,6),(4,6),(5,6)] (by decide) (by decide) (by decide) fun K hK=>?_
 first|dsimp only [List.take,List.drop]|dsimp [List.take,List.drop]
 simp [go_sem,C0 hl8,B3 hl8,B1 hl8,C4 hl8,B0,C2,F1,C1]
 refine A5 (zFs _ _) ?_
 simp [go_sem,C0 hl8,B3 hl8,B1 hl8,C4 hl8,B0,C2,F1,C1]
 refine A5 (zFs _ _) ?_
 simp [go_sem,C0 hl8,B3 hl8,B1 hl8,C4 hl8,B0,C2,F1,C1]
 apply hK
 refine A3 fun K1 hK1=>?_
 refine dK 15 [[],[],[1],[1,2],[0,1,2,3],[0,1,2,3,4],[0,1,2,3,4,5],[0,1,2,3,4,5,6],[0,1,2,3,4,5,6,7],[0,1,2,3,4,5,6,7,8],[0,1,2,3,4,5,6,7,8,9],[0,1,2,3,4,5,6,7,8,9,10],[0,1,2,3,4,5,6,7,8,9,10,11],[0,1,2,3,4,5,6,7,8,9,10,11],[0,1,2,3,4,5,6,7,8,9,10,11],[0,1,2,3,4,5,6,7,8,9,10,11,12,13,14],[0,1,2,3,4,5,6,7,8,9,10,11,12,13,14,15],[0,1,2,3,4,5,6,7,8,9,10,11,12,13,14,15,16]] fun K hK=>?_
 first|dsimp only [List.take,List.drop]|dsimp [List.take,List.drop]
 rcases zLd c kept co with ⟨hA,hAN⟩|⟨hA,hAN,hB⟩|⟨hA,hAN,hB⟩
 .simp [go_sem,C0 hl8,B3 hl8,B1 hl8,C4 hl8,B0,C2,F1,C1]
  refine A5 (Xu_ _) ?_
  simp [go_sem,C0 hl8,B3 hl8,B1 hl8,C4 hl8,B0,C2,F1,C1]
  refine A5 (M4 _ _) ?_
  simp [go_sem,C0 hl8,B3 hl8,B1 hl8,C4 hl8,B0,C2,F1,C1]
  refine A5 (Xv_ _) ?_
  simp [go_sem,C0 hl8,B3 hl8,B1 hl8,C4 hl8,B0,C2,F1,C1,hAN]
  try simp [go_sem,hAN,C0 hl8,B3 hl8,B1 hl8,C4 hl8,B0,C2,F1,C1]
  apply hK
  refine cJ (fun h=>?_) fun h=>?_
  .simp at h
  have hjt:=zBh (kept:=kept) (las:=las) (co:=co) (c:=c) (by rw [hA];rfl)
  refine A4 ?_
  rw [hjt]
  simp [go_sem]
  first
  | exact ⟨_,_,View.tail [] _ _,rfl,rfl⟩
  | exact ⟨_,_,View.tail [_] _ _,rfl,rfl⟩
  | exact ⟨_,_,View.tail [_,_] _ _,rfl,rfl⟩
  | exact ⟨_,_,View.tail [_,_,_] _ _,rfl,rfl⟩
  | exact ⟨_,_,View.tail [_,_,_,_] _ _,rfl,rfl⟩
  | exact ⟨_,_,View.tail [_,_,_,_,_] _ _,rfl,rfl⟩
  | exact ⟨_,_,View.tail [_,_,_,_,_,_] _ _,rfl,rfl⟩
  | exact ⟨_,_,View.tail [_,_,_,_,_,_,_] _ _,rfl,rfl⟩
 .simp [go_sem,C0 hl8,B3 hl8,B1 hl8,C4 hl8,B0,C2,F1,C1]
  refine A5 (Xu_ _) ?_
  simp [go_sem,C0 hl8,B3 hl8,B1 hl8,C4 hl8,B0,C2,F1,C1]
  refine A5 (M4 _ _) ?_
  simp [go_sem,C0 hl8,B3 hl8,B1 hl8,C4 hl8,B0,C2,F1,C1]
  refine A5 (Xv_ _) ?_
  simp [go_sem,C0 hl8,B3 hl8,B1 hl8,C4 hl8,B0,C2,F1,C1,hAN]
  refine A5 (Qm_ _) ?_
  simp [go_sem,hAN,hB,C0 hl8,B3 hl8,B1 hl8,C4 hl8,B0,C2,F1,C1]
  apply hK
  refine cJ (fun h=>?_) fun h=>?_
  .simp at h
  have hjt:=zBh (kept:=kept) (las:=las) (co:=co) (c:=c) (by rw [hA,show Zc_ (Ua_ kept co (S4 c co))=true from hB];rfl)
  refine A4 ?_
  rw [hjt]
  simp [go_sem]
  first
  | exact ⟨_,_,View.tail [] _ _,rfl,rfl⟩
  | exact ⟨_,_,View.tail [_] _ _,rfl,rfl⟩
  | exact ⟨_,_,View.tail [_,_] _ _,rfl,rfl⟩
  | exact ⟨_,_,View.tail [_,_,_] _ _,rfl,rfl⟩
  | exact ⟨_,_,View.tail [_,_,_,_] _ _,rfl,rfl⟩
  | exact ⟨_,_,View.tail [_,_,_,_,_] _ _,rfl,rfl⟩
  | exact ⟨_,_,View.tail [_,_,_,_,_,_] _ _,rfl,rfl⟩
  | exact ⟨_,_,View.tail [_,_,_,_,_,_,_] _ _,rfl,rfl⟩
 simp [go_sem,C0 hl8,B3 hl8,B1 hl8,C4 hl8,B0,C2,F1,C1]
 refine A5 (Xu_ _) ?_
 simp [go_sem,C0 hl8,B3 hl8,B1 hl8,C4 hl8,B0,C2,F1,C1]
 refine A5 (M4 _ _) ?_
 simp [go_sem,C0 hl8,B3 hl8,B1 hl8,C4 hl8,B0,C2,F1,C1]
 refine A5 (Xv_ _) ?_
 simp [go_sem,C0 hl8,B3 hl8,B1 hl8,C4 hl8,B0,C2,F1,C1,hAN]
 refine A5 (Qm_ _) ?_
 simp [go_sem,hAN,hB,C0 hl8,B3 hl8,B1 hl8,C4 hl8,B0,C2,F1,C1]
 refine A2 (zZs c hc hS of ws kept (poP c) co las hl8 vg vcs) ?_
 simp [go_sem,hAN,hB,C0 hl8,B3 hl8,B1 hl8,C4 hl8,B0,C2,F1,C1]
 apply hK
 refine cK (fun h=>?_) fun h=>?_
 .have hjt:=zBh (kept:=kept) (las:=las) (co:=co) (c:=c) (by rw [hA,show Zc_ (Ua_ kept co (S4 c co))=false from hB];simpa using h)
  refine A4 ?_
  rw [hjt]
  simp [go_sem]
  first
  | exact ⟨_,_,View.tail [] _ _,rfl,rfl⟩
  | exact ⟨_,_,View.tail [_] _ _,rfl,rfl⟩
  | exact ⟨_,_,View.tail [_,_] _ _,rfl,rfl⟩
  | exact ⟨_,_,View.tail [_,_,_] _ _,rfl,rfl⟩
  | exact ⟨_,_,View.tail [_,_,_,_] _ _,rfl,rfl⟩
  | exact ⟨_,_,View.tail [_,_,_,_,_] _ _,rfl,rfl⟩
  | exact ⟨_,_,View.tail [_,_,_,_,_,_] _ _,rfl,rfl⟩
  | exact ⟨_,_,View.tail [_,_,_,_,_,_,_] _ _,rfl,rfl⟩
 have hjt:=zhg (kept:=kept) (las:=las) (co:=co) (c:=c) (by rw [hA,show Zc_ (Ua_ kept co (S4 c co))=false from hB];simpa using h)
 apply A1
 apply hK1
 refine rG ?_ fun K h=>by simp [go_sem,E8,Tst.cs,g113];exact h
 refine A3 fun K2 hK2=>?_
 refine rG ?_ fun K h=>by simp [go_sem,C0 hl8,B3 hl8,B1 hl8,C4 hl8,B0,C2,F1,C1,Cs.cs,Os'.cs];exact h
 apply A0
 refine A9 (α:=Nat × Nat) (fun a=>⟨138,[(0,d7 c.t of ws c.fr vg vcs),(4,.ptr j 0 0),(5,.ptr (j+1) 0 0),(7,.ptr (j+9) 0 0),(8,.sl (j+25) 0 c.t.ths.length),(61,.ro 16 (F7 c.f.regs)),(62,iV (c.t.ths.length:Nat)),(63,iV (a.1:Nat))],[(j+25,.rows 8 (E1 (rgT c.f.regs a.1 0))),(j+9,.rows 16 [.agg (B6 (Ua_ kept co (S4 c co)))]),(j+1,.rows 16 [.agg (B6 co)]),(j,.rows 41 [.agg (G5 c kept (poP c) las)])]++G s,a.2⟩) (fun a=>a.1<=c.t.ths.length/\j+25<a.2) (fun a=>c.t.ths.length-a.1) (0,j+26) ?_ ?_ ?_
 .exact ⟨Nat.zero_le _,by dsimp only;omega⟩
 .refine Weaker.fzT [_,_,_,_,_] _ (G s) 0 (by first|omega|(dsimp only;omega)|exact Nat.le_refl _) ?_ ?_ ?_
  .simp [go_sem,Cs.cs,Os'.cs,hrl]
  .first|(simp;done)|(simp;omega)
  (simp [go_sem,<-hrl,zQj,replicate_succ,Ua_];try rfl)
 rintro ⟨i,jj⟩ ⟨hi,hjj⟩
 dsimp only at hi hjj ⊢
 have g114:¬ jj=j/\¬ j=jj/\¬ jj=j+1/\¬ j+1=jj/\¬ jj=j+9/\¬ j+9=jj/\¬ jj=j+25/\¬ j+25=jj:=by and_intros<;>omega
 refine rG ?_
 refine A3 fun K3 hK3=>?_
 refine cK (fun h=>?_) fun h=>?_
 .simp at h
  have hin:i<c.t.ths.length:=by omega
  clear h
  have hw:=wI i
  have g115:(0:Int)<=(i:Nat)/\(i:Int)<(c.t.ths.length:Nat)/\(i:Int)<(c.f.regs.length:Nat):=by and_intros<;>omega
  have hiR:i<c.f.regs.length:=by omega
  obtain ⟨g,hg,hg'⟩:=E0 hiR
  have hrr:∀ h,(F7 c.f.regs)[i]'h=.agg (q8 g):=fun h=>by simp [F7,hg']
  have hrr2:(F7 c.f.regs)[i]?=some (.agg (q8 g)):=by rw [F7,List.getElem?_map,hg];rfl
  apply A1
  apply hK3
  refine A3 fun K4 hK4=>?_
  apply A0
  refine rG ?_ fun K h=>by simp [go_sem,hiR,g115,hrr,hrr2,zLf,g114];exact h
  refine rG ?_ fun K h=>by simp [go_sem,g114];exact h
  apply A0
  refine A9 (α:=Nat × Nat) (fun b=>⟨138,[(0,d7 c.t of ws c.fr vg vcs),(4,.ptr j 0 0),(5,.ptr (j+1) 0 0),(7,.ptr (j+9) 0 0),(8,.sl (j+25) 0 c.t.ths.length),(61,.ro 16 (F7 c.f.regs)),(62,iV (c.t.ths.length:Nat)),(63,iV (i:Nat)),(9,iV (i:Nat)),(68,.agg (q8 g)),(69,iV (b.1:Nat))],[(j+25,.rows 8 (E1 (rgT c.f.regs i b.1))),(j+9,.rows 16 [.agg (B6 (Ua_ kept co (S4 c co)))]),(j+1,.rows 16 [.agg (B6 co)]),(j,.rows 41 [.agg (G5 c kept (poP c) las)])]++G s,b.2⟩) (fun b=>b.1<=8/\j+25<b.2) (fun b=>8-b.1) (0,jj+1) ?_ ?_ ?_
  .exact ⟨Nat.zero_le _,by dsimp only;omega⟩
  .refine Weaker.fzT [_,_,_,_,_] _ (G s) 0 (by first|omega|(dsimp only;omega)|exact Nat.le_refl _) ?_ ?_ ?_
   .simp [go_sem,g114]
   .first|(simp;done)|(simp;omega)
   simp [go_sem,g114]
  rintro ⟨r,kk⟩ ⟨hr,hkk⟩
  dsimp only at hr hkk ⊢
  have g116:¬ kk=j/\¬ j=kk/\¬ kk=j+1/\¬ j+1=kk/\¬ kk=j+9/\¬ j+9=kk/\¬ kk=j+25/\¬ j+25=kk:=by and_intros<;>omega
  refine rG ?_
  refine A3 fun K5 hK5=>?_
  refine cJ (fun h=>?_) fun h=>?_
  .simp at h
   obtain rfl:r=8:=by omega
   clear h
   apply A6
   apply hK4
   refine rF ?_ fun K h=>by simp [go_sem,hw];exact h
   refine ⟨(i+1,kk),?_,?_,?_⟩
   .exact ⟨by dsimp only;omega,by dsimp only;omega⟩
   .dsimp only;omega
   refine Weaker.fzT [_,_,_,_] _ (G s) 0 (by first|omega|(dsimp only;omega)) ?_ ?_ ?_
   .simp [go_sem,Cs.cs,Os'.cs]
   .first|(simp;done)|(simp;omega)
   simp [go_sem,zYv]
  simp at h
  have hr8:r<8:=by omega
  clear h
  have hwr:=wI r
  have g117:(r:Int)<8/\(0:Int)<=(r:Nat)/\r*2<=14/\r<=7:=by and_intros<;>omega
  have hrt:=zh0 (r:=r) hiR
  have hrt2:∀ h,(rgT c.f.regs i r)[i]'h=rgU c.f.regs i r i:=fun h=>by simp [rgT,tab]
  apply A1
  apply hK5
  refine A3 fun K6 hK6=>?_
  apply A0
  refine rG ?_ fun K h=>by simp [go_sem,hr8,g117,g114,g116];exact h
  refine dE 6 [[],[],[],[],[3],[0,1],[0,1,2,3,4,5],[0,1,2,3,4,5,6]] fun K hK=>?_
  first|dsimp only [List.take,List.drop]|dsimp [List.take,List.drop]
  simp [go_sem,hr8,g117,g115,hin,hiR,hrt,hrt2,Uh_ _ hr8,zYu,hrl,YC_,g114,g116]
  apply hK
  apply hK6
  refine rF ?_ fun K h=>by simp [go_sem,hwr];exact h
  refine ⟨(r+1,kk+20),?_,?_,?_⟩
  .exact ⟨by dsimp only;omega,by dsimp only;omega⟩
  .dsimp only;omega
  refine Weaker.fzT [_,_,_,_,_] _ (G s) 0 (by first|omega|(dsimp only;omega)) ?_ ?_ ?_
  .simp [go_sem,g116]
  .first|(simp;done)|(simp;omega)
  simp [go_sem,hrt2,zYw hg hr8,g116]
 simp at h
 obtain rfl:i=c.t.ths.length:=by omega
 clear h
 have hra:E1 (rgT c.f.regs c.t.ths.length 0)=E1 (Ws_ c):=by rw [<-hrl];exact zYx c
 rw [hra]
 apply A6
 apply hK2
 refine rG ?_ fun K h=>by simp [go_sem,g114];exact h
 refine A3 fun K7 hK7=>?_
 refine rG ?_ fun K h=>by simp [go_sem,E8,Tst.cs];exact h
 apply A0
 refine A9 (α:=Nat × Nat) (fun e=>⟨138,[(0,d7 c.t of ws c.fr vg vcs),(4,.ptr j 0 0),(5,.ptr (j+1) 0 0),(7,.ptr (j+9) 0 0),(8,.sl (j+25) 0 c.t.ths.length),(13,.ptr jj 0 0),(88,.ro 2 (Z1 c.t.locs)),(89,iV (c.t.locs.length:Nat)),(90,iV (e.1:Nat))],[(jj,.rows 8 [.agg (J0 (lcU c las e.1))]),(j+25,.rows 8 (E1 (Ws_ c))),(j+9,.rows 16 [.agg (B6 (Ua_ kept co (S4 c co)))]),(j+1,.rows 16 [.agg (B6 co)]),(j,.rows 41 [.agg (G5 c kept (poP c) las)])]++G s,e.2⟩) (fun e=>e.1<=c.t.locs.length/\jj<e.2) (fun e=>c.t.locs.length-e.1) (0,jj+1) ?_ ?_ ?_
 .exact ⟨Nat.zero_le _,by dsimp only;omega⟩
 .refine Weaker.fzT [_,_,_,_,_] _ (G s) 0 (by first|omega|(dsimp only;omega)|exact Nat.le_refl _) ?_ ?_ ?_
  .simp [go_sem,Tst.cs,E8,g114]
  .first|(simp;done)|(simp;omega)
  simp [go_sem,zQk,g114]
 rintro ⟨i,kk⟩ ⟨hi,hkk⟩
 dsimp only at hi hkk ⊢
 have g118:¬ kk=j/\¬ j=kk/\¬ kk=j+1/\¬ j+1=kk/\¬ kk=j+9/\¬ j+9=kk/\¬ kk=j+25/\¬ j+25=kk/\¬ kk=jj/\¬ jj=kk:=by and_intros<;>omega
 refine rG ?_
 refine A3 fun K8 hK8=>?_
 refine cJ (fun h=>?_) fun h=>?_
 .simp at h
  obtain rfl:i=c.t.locs.length:=by omega
  clear h
  apply A6
  apply hK7
  have hmk:Pf Tryz.prog 141 [.rp c.t.cs 0,.ro 8 (E1 (Ws_ c)),.agg (J0 fun q=>(Yu_ c las).getD q 0)] (.agg (stK (T4 c.t (Ws_ c) fun q=>(Yu_ c las).getD q 0))):=zKt c.t ht4 (fun x hx=>by have:=hS.len x hx;omega) hS.rds hlo (Ws_ c) (by unfold Ws_;rw [length_map,hrl]) _
  have hmL:(T4 c.t (Ws_ c) fun q=>(Yu_ c las).getD q 0).length=41:=Zn_ ht4 hlo _ _
  have heL:(Ws_ c).length=c.t.ths.length:=by unfold Ws_;rw [length_map,hrl]
  have hlca:=zYy c las hlo
  have husT:=usT (Ws_ c) c.t.ths.length heL
  refine dE 16 [[],[0],[0,1],[0,1,2],[],[4],[],[],[],[8],[8,9],[8,9,10],[],[],[8,9,10,11,12,13],[4,5,6,7,8,9,10,11,12,13,14],[0,1,2,3,4,5,6,7,8,9,10,11,12,13,14,15]] fun K hK=>?_
  first|dsimp only [List.take,List.drop]|dsimp [List.take,List.drop]
  simp [go_sem,C0 hl8,B3 hl8,B1 hl8,C4 hl8,B0,C2,F1,C1,E8,Tst.cs,hlca,g114]
  refine Xx_ hmk (u6 (X2 _)) 2 (by simp [go_sem,zL5,husT,Uk_,zLe,Tst.cs,heL,g114]) ?_
  simp [go_sem,O4,Y2,hmL,g114]
  refine ⟨hmL,?_⟩
  refine zLg (b:=rnC (⟨c,co,Ua_ kept co (S4 c co),T4 c.t (Ws_ c) fun i=>(Yu_ c las).getD i 0⟩:Rn)) ?_ ?_
  .exact zZt _ _ _ _ _ (O4 _) (O4 _) (by simp [O4,Y2];have h9:=hmL;simp at h9;omega)
  refine U7 (A:=[_,_,_,_,_]) (G:=G s) (hV.call s (⟨c,co,Ua_ kept co (S4 c co),T4 c.t (Ws_ c) fun i=>(Yu_ c las).getD i 0⟩:Rn) _ hs (hQ _ (by rw [hjt];simp)) hc hmL (by omega)) fun k2 hk2=>?_
  simp [go_sem]
  apply hK
  refine ⟨.inl rfl,?_⟩
  rw [hjt]
  simp [go_sem]
  first
  | exact ⟨_,_,View.tail [] _ _,rfl,rfl⟩
  | exact ⟨_,_,View.tail [_] _ _,rfl,rfl⟩
  | exact ⟨_,_,View.tail [_,_] _ _,rfl,rfl⟩
  | exact ⟨_,_,View.tail [_,_,_] _ _,rfl,rfl⟩
  | exact ⟨_,_,View.tail [_,_,_,_] _ _,rfl,rfl⟩
  | exact ⟨_,_,View.tail [_,_,_,_,_] _ _,rfl,rfl⟩
  | exact ⟨_,_,View.tail [_,_,_,_,_,_] _ _,rfl,rfl⟩
  | exact ⟨_,_,View.tail [_,_,_,_,_,_,_] _ _,rfl,rfl⟩
  | exact ⟨_,_,View.tail [_,_,_,_,_,_,_,_] _ _,rfl,rfl⟩
 simp at h
 have hin:i<c.t.locs.length:=by omega
 clear h
 have hw:=wI i
 have g119:(0:Int)<=(i:Nat)/\(i:Int)<(c.t.locs.length:Nat)/\i<=7/\33+i<=40/\(i:Int)<8:=by and_intros<;>omega
 have hi8:i<8:=by omega
 obtain ⟨x,hx,hx'⟩:=E0 hin
 have hiA:i<las.length:=by omega
 obtain ⟨n,hn,hn'⟩:=E0 hiA
 obtain ⟨hn0,hn1⟩:=hlas i n hn
 have hcl:=zYs (c:=c) (kept:=kept) (po:=poP c) hl8 hn
 apply A1
 apply hK8
 refine A3 fun K9 hK9=>?_
 apply A0
 refine rG ?_ fun K h=>by simp [go_sem,hin,g119,hx,hx',Wp_,Ini.cs,g114,g118];exact h
 refine rG ?_ fun K h=>by simp [go_sem,Uh_ _ hi8,g119,hi8,Wp_,Ini.cs,g114,g118];exact h
 refine rG ?_ fun K h=>by simp [go_sem,g119,hi8,hcl,g114,g118];exact h
 refine rG ?_
 refine cJ (fun h=>?_) fun h=>?_
 .have hnp:¬ 0<n:=by simpa using h
  have hend:=zYz (c:=c) hn hnp hx
  apply A1
  apply hK9
  refine rF ?_ fun K h=>by simp [go_sem,hw];exact h
  refine ⟨(i+1,kk+5),?_,?_,?_⟩
  .exact ⟨by dsimp only;omega,by dsimp only;omega⟩
  .dsimp only;omega
  refine Weaker.fzT [_,_,_,_,_,_] _ (G s) 0 (by first|omega|(dsimp only;omega)) ?_ ?_ ?_
  .simp [go_sem,Tst.cs,E8,Cs.cs,Os'.cs,g114,g118]
  .first|(simp;done)|(simp;omega)
  simp [go_sem,zKu hend,g114,g118]
 have hnp:0<n:=by simpa using h
 obtain ⟨q,hq⟩:∃ q:Nat,n=(q:Int)+1:=⟨(n-1).toNat,by omega⟩
 have hwn:IntKind.i64.wrap (n-1)=(q:Nat):=by rw [E4 (by omega) (by omega)];omega
 have hqW:q<c.f.f.write.length:=by have:=hc.fl.l2;omega
 have g120:(q:Int)<(c.f.f.write.length:Nat)/\(0:Int)<=(q:Nat):=by and_intros<;>omega
 obtain ⟨u,hu,hu'⟩:=E0 hqW
 have hend:=zQm (c:=c) hn hq hu
 refine rF ?_ fun K h=>by simp [go_sem,C0 hl8,B3 hl8,B1 hl8,C4 hl8,B0,C2,F1,C1,Cs.cs,Os'.cs,hwn,hqW,g120,hu,hu',g119,hi8,Uh_ _ hi8,g114,g118];exact h
 apply hK9
 refine rF ?_ fun K h=>by simp [go_sem,hw];exact h
 refine ⟨(i+1,kk+5),?_,?_,?_⟩
 .exact ⟨by dsimp only;omega,by dsimp only;omega⟩
 .dsimp only;omega
 refine Weaker.fzT [_,_,_,_,_,_] _ (G s) 0 (by first|omega|(dsimp only;omega)) ?_ ?_ ?_
 .simp [go_sem,Tst.cs,E8,Cs.cs,Os'.cs,g114,g118]
 .first|(simp;done)|(simp;omega)
 simp [go_sem,zQl hend,g114,g118]
def zNv:Option Os'->V
 | none=>.val (.pointer none)
 | some f=>.rp f.cs 0
theorem zZu (o:Option Os'):NL (zNv o):=by cases o with|none=>exact .val _|some f=>exact UK_ f
theorem zLh (t:Tst):nO t=Z3_ t:=Zg_ 0 t.ths
theorem zhh {t:Tst} (hS:SeaOk t) (reads:List Vl) (works:List Bool) (h1:reads.length=nO t) (h2:works.length=nO t):Pf Tryz.prog 112 [.rp t.cs 0,.ro 2 (vls reads),.ro 1 (bVs works)] (.rp (D5 t reads works).cs 0) :=
 zXq t (by have:=hS.ths;omega) (fun l hl=>by have:=hS.len l hl;omega) hS.ins reads works (by rw [<-zLh,h1];exact Nat.le_refl _) (by rw [<-zLh,h2];exact Nat.le_refl _)
theorem zEh {reads:List Vl} {works:List Bool} {n:Nat}:∀ (ls:List (List Ins)) (s:Os'),FlOk n s.f->FlOk n (X2_ reads works ls s).f
 | [],_,h=>h
 | l::r,s,h=>zEh r _ (XC_ h)
theorem zEi (t:Tst) (reads:List Vl) (works:List Bool):FlOk (nO t) (D5 t reads works).f:=by rw [zLh];exact zEh _ _ (zAt _)
theorem zTm (t:Tst) (w:List Bool) (fr:List Int):∀ i,FlOk (nO t) (ZM_ t w fr i).f
 | 0=>zEi _ _ _
 | _+1=>zEi _ _ _
theorem zZv (t:Tst) (f:Fl) (fr:List Int):(knT t f fr).length=nO t:=U8 ..
theorem znn (n:Nat):List.replicate n (V.agg [bV false,uV 0])=vls (List.replicate n zV):=X0_ n
theorem Y4 (a b:Int):(a != b)=!decide (a=b):=by rw [bne,G8]
theorem zZw (S:List Nat) (H:A8) (d:Nat) (l:List Vl):(vls l).map (Q5 (frz S H d))=vls l:=by
 unfold vls
 rw [map_map]
 apply map_congr_left
 intro x _
 show V.agg ([bV x.k,uV x.v].map (frz S H d))=_
 simp [go_sem,vlC]
theorem Us_ {t:Tst} {w:List Bool} {fr:List Int} {k:Nat} (hk:k<nO t) (h:zT1 (ZM_ t w fr (nO t)).f w fr k=true):Z9 t w fr=none:=by
 unfold Z9
 dsimp only
 split
 .rw [if_pos (List.any_eq_true.2 ⟨k,List.mem_range.2 hk,h⟩)]
 rfl
theorem zBi {t:Tst} {w:List Bool} {fr:List Int} (h:(ZM_ t w fr (nO t)).whole=false):Z9 t w fr=none:=by unfold Z9;dsimp only;rw [h];rfl
theorem zR9 {t:Tst} {w:List Bool} {fr:List Int} (hw:(ZM_ t w fr (nO t)).whole=true) (h:∀ k,k<nO t->zT1 (ZM_ t w fr (nO t)).f w fr k=false):Z9 t w fr=some (ZM_ t w fr (nO t)):=by
 unfold Z9
 dsimp only
 rw [if_pos hw,if_neg]
 rw [Bool.not_eq_true,any_eq_false]
 exact fun k hk=>by simp [h k (List.mem_range.1 hk)]
theorem zhi {f : Fl} {w : List Bool} {fr : List Int} {k : Nat} {s x p : Int} {b : Bool} (hs : f.state[k]? = some s) (hx : fr[k]? = some x) (hw : w[k]? = some b) (hp : f.pair[k]? = some p) :
    zT1 f w fr k=(((!decide (s=1)&&(decide (0<=x)||b))||(decide (s=1)&&(decide (0<=x)&&!decide (f.state.getD x.toNat 0=1))))||(decide (s=1)&&(b&&decide (p=0)))):=by
  unfold zT1
  rw [show f.state.getD k 0=s by rw [List.getD,hs];rfl,show fr.getD k 0=x by rw [List.getD,hx];rfl,show w.getD k false=b by rw [List.getD,hw];rfl,show f.pair.getD k 0=p by rw [List.getD,hp];rfl]
theorem zLi (t:Tst) (hS:SeaOk t) (of:FuncId) (ws:List Bool) (fr:List Int) (vf:Value) (hwl:ws.length=nO t) (hfl:fr.length=nO t) (hfr:∀ (k:Nat) (x:Int),fr[k]?=some x->-1<=x/\x<nO t):Pf Tryz.prog 204 [.rp (E8 t (fnV of) ws fr (.val vf)) 0] (zNv (Z9 t ws fr)):=by
 refine Pf.of_fn (.cons (Vh_ t ws fr vf 0) .nil) (zZu _) ?_
 have hn8:=hS.n8
 have hcn:(O0 0 t.ths).length=nO t:=rfl
 have g121:(0:Int)<=(nO t:Nat)/\(8:Int)*(nO t:Nat)<=281474976710656/\(16:Int)*(nO t:Nat)<=281474976710656/\((nO t:Nat):Int)<=9223372036854775807:=by and_intros<;>omega
 have hok:=zTm t ws fr (nO t)
 have hsl:=hok.l1
 have hpl:=hok.l3
 refine B7 T_ok func204 rfl rfl ntmps204 rfl (by simp) ?_
 refine rG ?_
 refine S8 T_ok (by kernel_rfl) 14 [[],[0],[0,1],[0,1,2],[],[4],[4,5],[4,5,6],[4,5,6,7],[4,5,6,7,8],[],[10],[10,11],[10,11,12],[0,1,2,3,4,5,6,7,8,9,10,11,12,13],[0,1,2,3,4,5,6,7,8,9,10,11,12,13,14]] [(0,9),(1,9),(2,9),(3,9),(9,10),(9,11),(9,12),(9,13)] (by decide) (by decide) (by decide) fun K hK=>?_
 first|dsimp only [List.take,List.drop]|dsimp [List.take,List.drop]
 simp [go_sem,E8,hcn,g121]
 refine zIw [] [.rp t.cs 0,.ro 2 (vls (List.replicate (nO t) zV)),.ro 1 (bVs ws)] 2 0 (zhh hS (List.replicate (nO t) zV) ws (by simp) hwl) (by simp [go_sem,znn,take_of_length_le,zZw]) (by simp) (by simp) ?_
 simp [go_sem]
 apply hK
 refine A3 fun K1 hK1=>?_
 refine rG ?_ fun K h=>by simp [go_sem,E8,hcn];exact h
 apply A0
 refine A9 (α:=Nat × Nat) (fun a=>⟨120,[(0,.rp (E8 t (fnV of) ws fr (.val vf)) 0),(3,.rp (ZM_ t ws fr a.1).cs 0),(26,iV (nO t:Nat)),(27,iV (a.1:Nat))],[],a.2⟩) (fun a=>a.1<=nO t) (fun a=>nO t-a.1) (0,14) ?_ ?_ ?_
 .exact Nat.zero_le _
 .refine Weaker.fy 1 0 ?_ ?_
  ·(simp [go_sem,E8];try rfl)
  simp [go_sem]
 rintro ⟨i,j⟩ hi
 dsimp only at hi ⊢
 refine rG ?_
 refine A3 fun K2 hK2=>?_
 refine cK (fun h=>?_) fun h=>?_
 .simp at h
  have hin:i<nO t:=by omega
  clear h
  have hw:=wI i
  have hokI:=zTm t ws fr i
  apply A1
  apply hK2
  refine A3 fun K3 hK3=>?_
  apply A0
  refine dE 11 [[],[0],[0,1],[0,1,2],[],[],[4,5],[],[7],[7,8],[7,8,9],[0,1,2,3,4,5,6,7,8,9,10],[0,1,2,3,4,5,6,7,8,9,10,11]] fun K hK=>?_
  first|dsimp only [List.take,List.drop]|dsimp [List.take,List.drop]
  simp [go_sem,E8]
  refine A5 ((zR5 t hS of ws fr vf (ZM_ t ws fr i) hokI hfl hfr).pf) ?_
  simp [go_sem,E8]
  refine A2 (zhh hS _ ws (zZv _ _ _) hwl) ?_
  simp [go_sem]
  apply hK
  apply hK3
  refine rF ?_ fun K h=>by simp [go_sem,hw];exact h
  refine ⟨(i+1,j+11),?_,?_,?_⟩
  .dsimp only;omega
  .dsimp only;omega
  refine Weaker.fy 1 0 ?_ ?_
  ·(simp [go_sem,E8];try rfl)
  simp [go_sem]
 simp at h
 obtain rfl:i=nO t:=by omega
 clear h
 apply A6
 apply hK1
 refine A3 fun K4 hK4=>?_
 refine rG ?_ fun K h=>by simp [go_sem,Os'.cs];exact h
 refine cK (fun h=>?_) fun h=>?_
 .have hst:=zBi (t:=t) (w:=ws) (fr:=fr) (by simpa using h)
  refine rG ?_
  refine A4 ?_
  simp [go_sem,hst,zNv]
 have hwh:(ZM_ t ws fr (nO t)).whole=true:=by simpa using h
 apply A1
 apply hK4
 refine A3 fun K5 hK5=>?_
 refine rG ?_ fun K h=>by simp [go_sem,E8];exact h
 apply A0
 refine A9 (α:=Nat × Nat) (fun b=>⟨120,[(0,.rp (E8 t (fnV of) ws fr (.val vf)) 0),(3,.rp (ZM_ t ws fr (nO t)).cs 0),(51,iV (nO t:Nat)),(50,.ro 1 (iVs fr)),(52,iV (b.1:Nat))],[],b.2⟩) (fun b=>b.1<=nO t/\∀ k,k<b.1->zT1 (ZM_ t ws fr (nO t)).f ws fr k=false) (fun b=>nO t-b.1) (0,j) ?_ ?_ ?_
 .exact ⟨Nat.zero_le _,fun k h=>absurd h (Nat.not_lt_zero _)⟩
 .refine Weaker.fy 1 0 ?_ ?_
  .simp [go_sem,E8,Os'.cs,hfl]
  simp [go_sem]
 rintro ⟨i,j2⟩ ⟨hi,hbd⟩
 dsimp only at hi hbd ⊢
 refine rG ?_
 refine A3 fun K6 hK6=>?_
 refine cJ (fun h=>?_) fun h=>?_
 .simp at h
  obtain rfl:i=nO t:=by omega
  clear h
  have hst:=zR9 hwh hbd
  apply A6
  apply hK5
  refine rG ?_
  refine A4 ?_
  simp [go_sem,hst,zNv]
 simp at h
 have hin:i<nO t:=by omega
 clear h
 have hw:=wI i
 have g122:(0:Int)<=(i:Nat)/\(i:Int)<(fr.length:Nat):=by and_intros<;>omega
 have hiF:i<fr.length:=by omega
 obtain ⟨x,hx,hx'⟩:=E0 hiF
 have hxr:=hfr i x hx
 have hiS:i<(ZM_ t ws fr (nO t)).f.state.length:=by omega
 have hiSI:(i:Int)<((ZM_ t ws fr (nO t)).f.state.length:Nat):=by omega
 obtain ⟨s,hs,hs'⟩:=E0 hiS
 have hiP:i<(ZM_ t ws fr (nO t)).f.pair.length:=by omega
 have hiPI:(i:Int)<((ZM_ t ws fr (nO t)).f.pair.length:Nat):=by omega
 obtain ⟨p,hp,hp'⟩:=E0 hiP
 have hiW:i<ws.length:=by omega
 have hiWI:(i:Int)<(ws.length:Nat):=by omega
 obtain ⟨wv,hb,hb'⟩:=E0 hiW
 have hbe:=zhi hs hx hb hp
 apply A1
 apply hK6
 refine A3 fun K7 hK7=>?_
 apply A0
 refine rG ?_ fun K h=>by simp [go_sem,hiF,g122,hx,hx'];exact h
 refine rG ?_ fun K h=>by simp [go_sem,Os'.cs,hiS,hiSI,hs,hs',g122];exact h
 apply A0
 refine D8 T_ok (by decide) ⟨120,[(0,.rp (E8 t (fnV of) ws fr (.val vf)) 0),(3,.rp (ZM_ t ws fr (nO t)).cs 0),(51,iV (nO t:Nat)),(50,.ro 1 (iVs fr)),(52,iV (i:Nat)),(4,iV (i:Nat)),(5,iV x),(6,bV (decide (s=1))),(65,bV (!decide (s=1)&&(decide (0<=x)||wv)))],[],j2⟩ ?_ ?_
 .by_cases c1:s=1
  .simp [go_sem,c1,E8,hiW,hiWI,hb,hb',g122]
   refine Weaker.fw 1 0 ?_ ?_<;>simp [go_sem,c1,Os'.cs]
  by_cases c2:0<=x
  .simp [go_sem,c1,c2,E8,hiW,hiWI,hb,hb',g122]
   refine Weaker.fw 1 0 ?_ ?_<;>simp [go_sem,c1,c2,Os'.cs]
  simp [go_sem,c1,c2,E8,hiW,hiWI,hb,hb',g122]
  refine Weaker.fw 1 0 ?_ ?_<;>simp [go_sem,c1,c2,Os'.cs]
 skip
 refine cK (fun h=>?_) fun h=>?_
 .have hst:=Us_ hin (by rw [hbe,show (!decide (s=1)&&(decide (0<=x)||wv))=true from h];rfl)
  refine rG ?_
  refine A4 ?_
  simp [go_sem,hst,zNv]
 have hB1:(!decide (s=1)&&(decide (0<=x)||wv))=false:=h
 refine D8 T_ok (by decide) ⟨120,[(0,.rp (E8 t (fnV of) ws fr (.val vf)) 0),(3,.rp (ZM_ t ws fr (nO t)).cs 0),(51,iV (nO t:Nat)),(50,.ro 1 (iVs fr)),(52,iV (i:Nat)),(4,iV (i:Nat)),(5,iV x),(6,bV (decide (s=1))),(81,bV (decide (s=1)&&(decide (0<=x)&&!decide ((ZM_ t ws fr (nO t)).f.state.getD x.toNat 0=1))))],[],j2⟩ ?_ ?_
 .by_cases c1:s=1
  .by_cases c2:0<=x
   .obtain ⟨m,rfl⟩:=Int.eq_ofNat_of_zero_le (show 0<=x by omega)
    have hmS:m<(ZM_ t ws fr (nO t)).f.state.length:=by omega
    have hmSI:(m:Int)<((ZM_ t ws fr (nO t)).f.state.length:Nat):=by omega
    obtain ⟨y,hy,hy'⟩:=E0 hmS
    have hm00:(0:Int)<=(m:Nat):=by omega
    have hyd:(ZM_ t ws fr (nO t)).f.state.getD m 0=y:=by rw [List.getD,hy];rfl
    simp [go_sem,c1,c2,Os'.cs,hmS,hmSI,hy,hy',hm00,hyd,Int.toNat_natCast]
    refine Weaker.fw 1 0 ?_ ?_<;>simp [go_sem,c1,c2,E8,G8,Y4,hmS,hmSI,hy,hy',hm00,hyd,Int.toNat_natCast]
   simp [go_sem,c1,c2,Os'.cs]
   refine Weaker.fw 1 0 ?_ ?_<;>simp [go_sem,c1,c2,E8,G8,Y4]
  simp [go_sem,c1,Os'.cs]
  refine Weaker.fw 1 0 ?_ ?_<;>simp [go_sem,c1,E8,G8,Y4]
 skip
 refine cK (fun h=>?_) fun h=>?_
 .have hst:=Us_ hin (by rw [hbe,show (decide (s=1)&&(decide (0<=x)&&!decide ((ZM_ t ws fr (nO t)).f.state.getD x.toNat 0=1)))=true from h];simp)
  refine rG ?_
  refine A4 ?_
  simp [go_sem,hst,zNv]
 have hB2:(decide (s=1)&&(decide (0<=x)&&!decide ((ZM_ t ws fr (nO t)).f.state.getD x.toNat 0=1)))=false:=h
 refine D8 T_ok (by decide) ⟨120,[(0,.rp (E8 t (fnV of) ws fr (.val vf)) 0),(3,.rp (ZM_ t ws fr (nO t)).cs 0),(51,iV (nO t:Nat)),(50,.ro 1 (iVs fr)),(52,iV (i:Nat)),(4,iV (i:Nat)),(5,iV x),(6,bV (decide (s=1))),(97,bV (decide (s=1)&&(wv&&decide (p=0))))],[],j2⟩ ?_ ?_
 .by_cases c1:s=1
  .by_cases c2:wv=true
   .simp [go_sem,c1,c2,E8,Os'.cs,hiW,hiWI,hb,hb',g122,hiP,hiPI,hp,hp']
    refine Weaker.fw 1 0 ?_ ?_<;>simp [go_sem,c1,c2,G8,Y4]
   simp [go_sem,c1,c2,E8,Os'.cs,hiW,hiWI,hb,hb',g122,hiP,hiPI,hp,hp']
   refine Weaker.fw 1 0 ?_ ?_<;>simp [go_sem,c1,c2,G8,Y4]
  simp [go_sem,c1,E8,Os'.cs,hiW,hiWI,hb,hb',g122,hiP,hiPI,hp,hp']
  refine Weaker.fw 1 0 ?_ ?_<;>simp [go_sem,c1,G8,Y4]
 skip
 refine cK (fun h=>?_) fun h=>?_
 .have hst:=Us_ hin (by rw [hbe,show (decide (s=1)&&(wv&&decide (p=0)))=true from h];simp)
  refine rG ?_
  refine A4 ?_
  simp [go_sem,hst,zNv]
 have hbad:zT1 (ZM_ t ws fr (nO t)).f ws fr i=false:=by rw [hbe,hB1,hB2,show (decide (s=1)&&(wv&&decide (p=0)))=false from h];rfl
 apply A1
 apply hK7
 refine rF ?_ fun K h=>by simp [go_sem,hw];exact h
 refine ⟨(i+1,j2),?_,?_,?_⟩
 .refine ⟨by dsimp only;omega,fun k h=>?_⟩
  by_cases e:k=i
  .subst e;exact hbad
  exact hbd k (by dsimp only at h;omega)
 .dsimp only;omega
 refine Weaker.fy 1 0 ?_ ?_
 .simp [go_sem,E8,Os'.cs]
 simp [go_sem]
def sdA (n:Int):Int:=if n=1\/n=3 then 1 else 0
def sdB (n:Int):Int:=if n=2\/n=3 then 2 else 0
theorem zTn {n:Int} (hn:n=1\/n=2\/n=3) (K:V->Prop):L3 .and .i64 n 1 K=K (iV (sdA n))/\L3 .and .i64 n 2 K=K (iV (sdB n)):=by
 rcases hn with rfl|rfl|rfl
 .exact ⟨zNq,zNp⟩
 .exact ⟨zNs,zNr⟩
 exact ⟨zNu,zNt⟩
abbrev mR (c:Cs):Nat:=F3 (c.at_ fun x=>rdB x.op)
abbrev mW (c:Cs):Nat:=F3 (c.at_ fun x=>wrB x.op)
def ahU (c:Cs) (i s k q:Nat):Bool:=decide (q<k)&&(decide ((c.op q).1=i)&&decide ((c.op q).2<s))
def bhU (c:Cs) (i s k q:Nat):Bool:=decide (q<k)&&(decide ((c.op q).1=i)&&!decide ((c.op q).2<s))
theorem zRa (c:Cs) (i s:Nat):F3 (ahU c i s 0)=0:=F2.2 fun q _=>by simp [ahU]
theorem zRb (c:Cs) (i s:Nat):F3 (bhU c i s 0)=0:=F2.2 fun q _=>by simp [bhU]
theorem zhj {f:Nat->Bool} {k:Nat} (h:f k=false):F3 (fun q=>decide (q<k)&&f q)=F3 (fun q=>decide (q<k+1)&&f q):=N0 fun q _=>by
 rw [Bool.eq_iff_iff]
 simp only [Bool.and_eq_true,decide_eq_true_eq]
 constructor
 .rintro ⟨h1,h2⟩;exact ⟨by omega,h2⟩
 rintro ⟨h1,h2⟩
 refine ⟨?_,h2⟩
 by_cases e:q=k
 .subst e;rw [h] at h2;cases h2
 omega
theorem zTo {f:Nat->Bool} {k:Nat} (h:f k=true) (hk:k<16):F3 (fun q=>decide (q<k)&&f q) ||| pw k=F3 (fun q=>decide (q<k+1)&&f q):=by
 rw [Xm_ hk,Y0]
 refine N0 fun q _=>?_
 rw [Bool.eq_iff_iff]
 simp only [Bool.or_eq_true,Bool.and_eq_true,decide_eq_true_eq,beq_iff_eq]
 constructor
 .rintro (⟨h1,h2⟩|rfl)
  .exact ⟨by omega,h2⟩
  exact ⟨by omega,h⟩
 rintro ⟨h1,h2⟩
 by_cases e:q=k
 .exact .inr e
 exact .inl ⟨by omega,h2⟩
theorem zTp {c:Cs} {i s k:Nat} (h:¬ ((c.op k).1=i/\(c.op k).2<s)):F3 (ahU c i s k)=F3 (ahU c i s (k+1)):=zhj (f:=fun q=>decide ((c.op q).1=i)&&decide ((c.op q).2<s)) (by rw [Bool.eq_false_iff];simpa using h)
theorem zZx {c:Cs} {i s k:Nat} (h:(c.op k).1=i) (h':(c.op k).2<s) (hk:k<16):F3 (ahU c i s k) ||| pw k=F3 (ahU c i s (k+1)):=zTo (f:=fun q=>decide ((c.op q).1=i)&&decide ((c.op q).2<s)) (by simp [h,h']) hk
theorem zTq {c:Cs} {i s k:Nat} (h:¬ ((c.op k).1=i/\¬ (c.op k).2<s)):F3 (bhU c i s k)=F3 (bhU c i s (k+1)):=zhj (f:=fun q=>decide ((c.op q).1=i)&&!decide ((c.op q).2<s)) (by rw [Bool.eq_false_iff];simpa using h)
theorem zZy {c:Cs} {i s k:Nat} (h:(c.op k).1=i) (h':¬ (c.op k).2<s) (hk:k<16):F3 (bhU c i s k) ||| pw k=F3 (bhU c i s (k+1)):=zTo (f:=fun q=>decide ((c.op q).1=i)&&!decide ((c.op q).2<s)) (by simp [h] ;omega) hk
theorem zLj (c:Cs) (i:Nat):(fun x y=>Q5_ c i x y||zB0 c i 0 x y)=Q5_ c i:=by funext x y;simp [zB0]
theorem JR_ (c:Cs) (i s x y:Nat):zB0 c i (s+1) x y=(zB0 c i s x y||zc1 c i s x y):=by simp [zB0,range_succ]
theorem zLk {c:Cs} {i:Nat} {l:List Ins} (h:c.t.ths[i]?=some l):(fun x y=>Q5_ c i x y||zB0 c i l.length x y)=Q5_ c (i+1):=by
 funext x y
 simp [Q5_,range_succ,List.getD,h]
theorem zLl (c:Cs):Q5_ c 0=fun _ _=>false:=by funext x y;simp [Q5_]
theorem zhk {t:Tst} {i s:Nat} {l:List Ins} {x:Ins} (h:t.ths[i]?=some l) (hx:l[s]?=some x):ZI_ t (i,s)=x:=by simp [ZI_,List.getD,h,hx]
theorem zTr {c:Cs} {i s:Nat} (h:W1_ c i s=false):B6 (fun x y=>Q5_ c i x y||zB0 c i s x y)=B6 (fun x y=>Q5_ c i x y||zB0 c i (s+1) x y):=C3 fun x y=>by
 rw [JR_]
 unfold zc1
 rw [h];simp
theorem zZz {c:Cs} {i s:Nat} {x:Ins} (h:W1_ c i s=true) (hx:ZI_ c.t (i,s)=x):B6 (fun a b=>(Q5_ c i a b||zB0 c i s a b)||((ahU c i s c.n a&&Ys_ c x.pred a)&&(bhU c i s c.n b&&Ys_ c x.succ b)))=B6 (fun x y=>Q5_ c i x y||zB0 c i (s+1) x y):=C3 fun a b=>by
 rw [JR_]
 unfold zc1 zDv UY_ ahU bhU
 rw [h,hx]
 simp [Bool.or_assoc]
theorem zLm (c:Cs) (n:Int) (hn:n=1\/n=2\/n=3):Pf Tryz.prog 116 [iV n,.rp [.val (.int .u16 (mR c))] 0,.rp [.val (.int .u16 (mW c))] 0] (.val (.int .u16 (F3 (Ys_ c n)))):=by
 refine Pf.of_fn (.cons (.val _) (.cons (.rp (.cons (.val _) .nil)) (.cons (.rp (.cons (.val _) .nil)) .nil))) (.val _) ?_
 have hA:=fun K=>(zTn hn K).1
 have hB:=fun K=>(zTn hn K).2
 refine B7 T_ok func116 rfl rfl ntmps116 rfl (by simp) ?_
 refine rG ?_
 refine rG ?_
 refine A3 fun K1 hK1=>?_
 refine rG ?_ fun K h=>by simp [go_sem,hA];exact h
 refine cK (fun h=>?_) fun h=>?_
 .have h1:n=1\/n=3:=by unfold sdA at h;split at h;assumption;simp at h
  refine rF ?_
  apply hK1
  refine A3 fun K2 hK2=>?_
  refine rG ?_ fun K h=>by simp [go_sem,hB];exact h
  refine cK (fun h=>?_) fun h=>?_
  .have h2:n=2\/n=3:=by unfold sdB at h;split at h;assumption;simp at h
   refine rF ?_ fun K h=>by simp [go_sem,Y0];exact h
   apply hK2
   refine rG ?_
   refine A4 ?_
   simp [go_sem]
   first|exact congrArg Nat.cast (N0 fun k _=>by unfold Ys_;simp [h1,h2,Cs.rd,Cs.wr])|(exfalso;omega)
  have h2:¬ (n=2\/n=3):=fun hc=>by unfold sdB at h;rw [if_pos hc] at h;simp at h
  apply A1
  apply hK2
  refine rG ?_
  refine A4 ?_
  simp [go_sem]
  first|exact congrArg Nat.cast (N0 fun k _=>by unfold Ys_;simp [h1,h2,Cs.rd,Cs.wr])|(exfalso;omega)
 have h1:¬ (n=1\/n=3):=fun hc=>by unfold sdA at h;rw [if_pos hc] at h;simp at h
 apply A1
 apply hK1
 refine A3 fun K3 hK3=>?_
 refine rG ?_ fun K h=>by simp [go_sem,hB];exact h
 refine cK (fun h=>?_) fun h=>?_
 .have h2:n=2\/n=3:=by unfold sdB at h;split at h;assumption;simp at h
  refine rF ?_ fun K h=>by simp [go_sem,Y0];exact h
  apply hK3
  refine rG ?_
  refine A4 ?_
  simp [go_sem]
  first|exact congrArg Nat.cast (N0 fun k _=>by unfold Ys_;simp [h1,h2,Cs.rd,Cs.wr])|(exfalso;omega)
 have h2:¬ (n=2\/n=3):=fun hc=>by unfold sdB at h;rw [if_pos hc] at h;simp at h
 apply A1
 apply hK3
 refine rG ?_
 refine A4 ?_
 simp [go_sem]
 first|exact congrArg Nat.cast (N0 fun k _=>by unfold Ys_;simp [h1,h2,Cs.rd,Cs.wr])|(exfalso;omega)
theorem zLn (c:Cs) (hc:CsOk c):Pf Tryz.prog 60 [.rp c.cs 0] (.agg (B6 (zT0 c))):=by
 refine Pf.of_fn (.cons (YF_ c) .nil) (.agg (D9 _)) ?_
 have hn8:=hc.n8
 have hcn:c.ops.length=c.n:=rfl
 have ht4:=hc.ths
 have hll:=hc.left
 refine B7 T_ok func60 rfl rfl ntmps60 rfl (by simp) ?_
 refine rG ?_
 refine rK fun K hK=>?_
 simp [go_sem]
 refine A2 (XJ_ c hc) ?_
 simp [go_sem]
 refine A2 (d0 c hc) ?_
 simp [go_sem]
 apply hK
 refine rG ?_
 refine rG ?_
 refine A3 fun K1 hK1=>?_
 refine rG ?_ fun K h=>by simp [go_sem,Cs.cs,Tst.cs];exact h
 apply A0
 refine A9 (α:=Nat × Nat) (fun a=>⟨106,[(0,.rp c.cs 0),(2,.ptr 0 0 0),(5,.fn (.func 116) [] [.ptr 1 0 0,.ptr 2 0 0]),(6,.ptr 3 0 0),(26,.ro 1 (O3 c.t.ths)),(27,iV (c.t.ths.length:Nat)),(28,iV (a.1:Nat))],[(3,.rows 16 [.agg (B6 (Q5_ c a.1))]),(2,.rows 1 [.val (.int .u16 (mW c))]),(1,.rows 1 [.val (.int .u16 (mR c))]),(0,.rows 16 [.agg (B6 fun _ _=>false)])],a.2⟩) (fun a=>a.1<=c.t.ths.length/\3<a.2) (fun a=>c.t.ths.length-a.1) (0,4) ?_ ?_ ?_
 .exact ⟨Nat.zero_le _,by dsimp only;omega⟩
 .refine Weaker.fy 1 0 ?_ ?_
  .simp [go_sem,Cs.cs,Tst.cs]
  simp [go_sem,zLl]
 rintro ⟨i,j0⟩ ⟨hi,hj0⟩
 dsimp only at hi hj0 ⊢
 refine rG ?_
 refine A3 fun K2 hK2=>?_
 refine cJ (fun h=>?_) fun h=>?_
 .simp at h
  obtain rfl:i=c.t.ths.length:=by omega
  clear h
  apply A6
  apply hK1
  refine rG ?_
  refine A4 ?_
  simp [go_sem]
  rfl
 simp at h
 have hin:i<c.t.ths.length:=by omega
 clear h
 have hinI:(i:Int)<(c.t.ths.length:Nat):=by omega
 obtain ⟨l,hx,hx'⟩:=E0 hin
 have hi0:(0:Int)<=(i:Nat):=by omega
 have hw:=wI i
 have hl8:=hc.len l (List.mem_of_getElem? hx)
 have hfe:=hc.fen l (List.mem_of_getElem? hx)
 have hlL:i<c.f.left.length:=by omega
 obtain ⟨m,hm,hm'⟩:=E0 hlL
 obtain ⟨hm0,hm1⟩:=hc.leU i m hm
 have hlI:(i:Int)<(c.f.left.length:Nat):=by omega
 apply A1
 apply hK2
 refine A3 fun K3 hK3=>?_
 apply A0
 refine rG ?_ fun K h=>by simp [go_sem,hin,hinI,hx,hx',hi0];exact h
 refine rG ?_
 apply A0
 refine A9 (α:=Nat × Nat) (fun b=>⟨106,[(0,.rp c.cs 0),(2,.ptr 0 0 0),(5,.fn (.func 116) [] [.ptr 1 0 0,.ptr 2 0 0]),(6,.ptr 3 0 0),(26,.ro 1 (O3 c.t.ths)),(27,iV (c.t.ths.length:Nat)),(28,iV (i:Nat)),(7,iV (i:Nat)),(33,.ro 13 (Y1 l)),(34,iV (l.length:Nat)),(35,iV (b.1:Nat))],[(3,.rows 16 [.agg (B6 (fun x y=>Q5_ c i x y||zB0 c i b.1 x y))]),(2,.rows 1 [.val (.int .u16 (mW c))]),(1,.rows 1 [.val (.int .u16 (mR c))]),(0,.rows 16 [.agg (B6 fun _ _=>false)])],b.2⟩) (fun b=>b.1<=l.length/\3<b.2) (fun b=>l.length-b.1) (0,j0) ?_ ?_ ?_
 .exact ⟨Nat.zero_le _,hj0⟩
 .refine Weaker.fy 1 0 ?_ ?_<;>simp [go_sem,zLj]
 rintro ⟨s,j⟩ ⟨hs,hj⟩
 dsimp only at hs hj ⊢
 have g123:¬ j=0/\¬ 0=j/\¬ j=1/\¬ 1=j/\¬ j=2/\¬ 2=j/\¬ j=3/\¬ 3=j:=by and_intros<;>omega
 refine rG ?_
 refine A3 fun K4 hK4=>?_
 refine cJ (fun h=>?_) fun h=>?_
 .simp at h
  obtain rfl:s=l.length:=by omega
  clear h
  apply A6
  apply hK3
  refine rF ?_ fun K h=>by simp [go_sem,hw];exact h
  refine ⟨(i+1,j),?_,?_,?_⟩
  .exact ⟨by dsimp only;omega,by dsimp only;omega⟩
  .dsimp only;omega
  refine Weaker.fy 1 0 ?_ ?_
  .simp [go_sem,Cs.cs,Os'.cs]
  simp [go_sem,zLk hx]
 simp at h
 have hsn:s<l.length:=by omega
 clear h
 have hsI:(s:Int)<(l.length:Nat):=by omega
 obtain ⟨x,hg,hg'⟩:=E0 hsn
 have hs0:(0:Int)<=(s:Nat):=by omega
 have hws:=wI s
 have hxx:ZI_ c.t (i,s)=x:=zhk hx hg
 have hbt:=zEd hm0 hm1 (show s<64 by omega)
 have hlg:c.f.left.getD i 0=m:=by rw [List.getD,hm];rfl
 apply A1
 apply hK4
 refine A3 fun K5 hK5=>?_
 apply A0
 refine rG ?_ fun K h=>by simp [go_sem,hsn,hsI,hg,hg',hs0,B5,g123];exact h
 refine A3 fun K6 hK6=>?_
 refine rK fun K hK=>?_
 by_cases h15:x.op=15
 .simp [go_sem,Cs.cs,Os'.cs,Ins.cs,h15,hlL,hlI,hm,hm',hi0,hs0,hbt,g123]
  apply hK
  refine cK (fun h=>?_) fun h=>?_
  .have hfn:W1_ c i s=false:=by unfold W1_;rw [hlg];cases hB:P8 m s with|false=>(rw [hB] at h;simp at h)|true=>simp
   apply A6
   apply hK5
   refine rF ?_ fun K h=>by simp [go_sem,hws];exact h
   refine ⟨(s+1,j+1),?_,?_,?_⟩
   .exact ⟨by dsimp only;omega,by dsimp only;omega⟩
   .dsimp only;omega
   refine Weaker.fy 1 0 ?_ ?_
   .simp [go_sem,Cs.cs,Os'.cs,g123]
   simp [go_sem,zTr hfn,g123]
  have hfy:W1_ c i s=true:=by unfold W1_;rw [hlg,hxx,h15];cases hB:P8 m s with|true=>(rw [hB] at h;simp at h)|false=>rfl
  obtain ⟨hp,hq⟩:=hfe x (List.mem_of_getElem? hg) h15
  apply A1
  apply hK6
  refine rG ?_
  refine A3 fun K7 hK7=>?_
  refine rG ?_ fun K h=>by simp [go_sem,Cs.cs,hcn];exact h
  apply A0
  refine A9 (α:=Nat × Nat) (fun e=>⟨106,[(0,.rp c.cs 0),(2,.ptr 0 0 0),(5,.fn (.func 116) [] [.ptr 1 0 0,.ptr 2 0 0]),(6,.ptr 3 0 0),(26,.ro 1 (O3 c.t.ths)),(27,iV (c.t.ths.length:Nat)),(28,iV (i:Nat)),(7,iV (i:Nat)),(33,.ro 13 (Y1 l)),(34,iV (l.length:Nat)),(35,iV (s:Nat)),(9,iV (s:Nat)),(10,.ptr j 0 0),(11,.val (.int .u16 (F3 (ahU c i s e.1)))),(12,.val (.int .u16 (F3 (bhU c i s e.1)))),(62,.ro 2 (j3 c.ops)),(63,iV (c.n:Nat)),(64,iV (e.1:Nat))],[(j,.rows 13 [.agg x.cs]),(3,.rows 16 [.agg (B6 (fun x y=>Q5_ c i x y||zB0 c i s x y))]),(2,.rows 1 [.val (.int .u16 (mW c))]),(1,.rows 1 [.val (.int .u16 (mR c))]),(0,.rows 16 [.agg (B6 fun _ _=>false)])],e.2⟩) (fun e=>e.1<=c.n/\j<e.2) (fun e=>c.n-e.1) (0,j+1) ?_ ?_ ?_
  .exact ⟨Nat.zero_le _,by dsimp only;omega⟩
  .refine Weaker.fy 1 0 ?_ ?_
   .simp [go_sem,Cs.cs,Os'.cs,zRa,zRb,g123]
   simp [go_sem,Ins.cs,h15,g123]
  rintro ⟨k,jj⟩ ⟨hk,hjj⟩
  dsimp only at hk hjj ⊢
  have g124:¬ jj=0/\¬ 0=jj/\¬ jj=1/\¬ 1=jj/\¬ jj=2/\¬ 2=jj/\¬ jj=3/\¬ 3=jj/\¬ jj=j/\¬ j=jj:=by and_intros<;>omega
  refine rG ?_
  refine A3 fun K8 hK8=>?_
  refine cJ (fun h=>?_) fun h=>?_
  .simp at h
   obtain rfl:k=c.n:=by omega
   clear h
   apply A6
   apply hK7
   refine dE 14 [[],[],[],[],[3],[2,3,4],[1,2,3,4,5],[],[],[],[9],[2,3,4,5,8,9,10],[2,3,4,5,7,8,9,10,11],[1,2,3,4,5,6,7,8,9,10,11,12],[0,1,2,3,4,5,6,7,8,9,10,11,12,13],[0,1,2,3,4,5,6,7,8,9,10,11,12,13,14]] fun K hK=>?_
   first|dsimp only [List.take,List.drop]|dsimp [List.take,List.drop]
   simp [go_sem,Ins.cs,g123,g124]
   refine G3 (zLm c x.pred hp) 1 (by simp [go_sem,Ins.cs,g123]) ?_
   simp [go_sem,Ins.cs,u5,g123,g124]
   refine G3 (zLm c x.succ hq) 1 (by simp [go_sem,Ins.cs,g123]) ?_
   simp [go_sem,Ins.cs,u5,g123,g124]
   refine A5 (H7 _ _) ?_
   simp [go_sem,g123,g124]
   refine A2 (zFs _ _) ?_
   simp [go_sem,g123,g124]
   apply hK
   apply hK5
   refine rF ?_ fun K h=>by simp [go_sem,hws];exact h
   refine ⟨(s+1,jj+14),?_,?_,?_⟩
   .exact ⟨by dsimp only;omega,by dsimp only;omega⟩
   .dsimp only;omega
   refine Weaker.fy 1 0 ?_ ?_
   .simp [go_sem,Cs.cs,Os'.cs,g123]
   simp [go_sem,zZz hfy hxx,g123,g124]
  simp at h
  have hkn:k<c.n:=by omega
  clear h
  have hwk:=wI k
  have hk16:k<16:=by omega
  have hk16I:(k:Int)<16:=by omega
  have hmr2:=zI3 hk16
  have g125:((pw k:Nat):Int)<65536/\(0:Int)<=((pw k:Nat):Int):=by and_intros<;>omega
  obtain ⟨lk,⟨o1k,o2k⟩,⟨a1k,a2k,a3k⟩,⟨b1k,b2k,b3k⟩⟩:=opF hc hkn
  have g126:((c.op k).1:Int)<(c.t.ths.length:Nat)/\((c.op k).2:Int)<(lk.length:Nat)/\(0:Int)<=((c.op k).1:Nat)/\(0:Int)<=((c.op k).2:Nat)/\(0:Int)<=(k:Nat):=by and_intros<;>omega
  have hcnk:c.ops.length=c.n:=rfl
  have kIk:(k:Int)<(c.n:Nat):=by omega
  have kNk:k<c.n:=hkn
  have o3k:(j3 c.ops)[k]?=some (.agg [iV ((c.op k).1:Nat),iV ((c.op k).2:Nat)]):=by rw [P3,o1k];rfl
  apply A1
  apply hK8
  refine A3 fun K9 hK9=>?_
  apply A0
  refine rG ?_ fun K h=>by simp [go_sem,o1k,o2k,o3k,a1k,a2k,a3k,b1k,b2k,b3k,g126,kIk,kNk,hcnk,g123,g124];exact h
  apply A0
  refine rG ?_ fun K h=>by simp [go_sem,g123,g124];exact h
  refine cK (fun h=>?_) fun h=>?_
  .have h9:¬ ((c.op k).1:Int)=(i:Nat):=by simpa using h
   have hth:¬ (c.op k).1=i:=by omega
   have han:¬ ((c.op k).1=i/\(c.op k).2<s):=fun hc=>hth hc.1
   have hbn:¬ ((c.op k).1=i/\¬ (c.op k).2<s):=fun hc=>hth hc.1
   apply A1
   apply hK9
   refine rF ?_ fun K h=>by simp [go_sem,hwk];exact h
   refine ⟨(k+1,jj+1),?_,?_,?_⟩
   .exact ⟨by dsimp only;omega,by dsimp only;omega⟩
   .dsimp only;omega
   refine Weaker.fy 1 0 ?_ ?_
   .simp [go_sem,zTp han,zTq hbn,g123,g124]
   simp [go_sem,g123,g124]
  have h9:((c.op k).1:Int)=(i:Nat):=by simpa using h
  have hth:(c.op k).1=i:=by omega
  refine rG ?_ fun K h=>by simp [go_sem,g123,g124];exact h
  refine cK (fun h=>?_) fun h=>?_
  .have h8:((c.op k).2:Int)<(s:Nat):=by simpa using h
   have hat:(c.op k).2<s:=by omega
   have hbn:¬ ((c.op k).1=i/\¬ (c.op k).2<s):=fun hc=>hc.2 hat
   refine rF ?_ fun K h=>by simp [go_sem,g126,hk16,hk16I,g125,zZx hth hat hk16];exact h
   apply hK9
   refine rF ?_ fun K h=>by simp [go_sem,hwk];exact h
   refine ⟨(k+1,jj+1),?_,?_,?_⟩
   .exact ⟨by dsimp only;omega,by dsimp only;omega⟩
   .dsimp only;omega
   refine Weaker.fy 1 0 ?_ ?_
   .simp [go_sem,zTq hbn,g123,g124]
   simp [go_sem,g123,g124]
  have h8:¬ ((c.op k).2:Int)<(s:Nat):=by simpa using h
  have hat:¬ (c.op k).2<s:=by omega
  have han:¬ ((c.op k).1=i/\(c.op k).2<s):=fun hc=>hat hc.2
  refine rF ?_ fun K h=>by simp [go_sem,g126,hk16,hk16I,g125,zZy hth hat hk16];exact h
  apply hK9
  refine rF ?_ fun K h=>by simp [go_sem,hwk];exact h
  refine ⟨(k+1,jj+1),?_,?_,?_⟩
  .exact ⟨by dsimp only;omega,by dsimp only;omega⟩
  .dsimp only;omega
  refine Weaker.fy 1 0 ?_ ?_
  .simp [go_sem,zTp han,g123,g124]
  simp [go_sem,g123,g124]
 simp [go_sem,Cs.cs,Os'.cs,Ins.cs,h15,g123]
 apply hK
 refine cJ (fun h=>?_) fun h=>?_
 .simp at h
 have hfn:W1_ c i s=false:=by unfold W1_;rw [hxx];simp [h15]
 apply A6
 apply hK5
 refine rF ?_ fun K h=>by simp [go_sem,hws];exact h
 refine ⟨(s+1,j+1),?_,?_,?_⟩
 .exact ⟨by dsimp only;omega,by dsimp only;omega⟩
 .dsimp only;omega
 refine Weaker.fy 1 0 ?_ ?_
 .simp [go_sem,Cs.cs,Os'.cs,g123]
 simp [go_sem,zTr hfn,g123]
theorem zLo (p:Nat->Nat->Bool):(∀ x,x∈B6 p->x.one=true)=True:=eq_true fun x hx=>by obtain ⟨a,_,rfl⟩:=List.mem_map.1 hx;rfl
def rmU (c:Cs) (a b x y:Nat):Bool:=Q6_ c x y&&!upR (fun u v=>Q6_ c u v&&zK9 c u v) a b x y
section
variable {c:Cs} {x y:Nat}
theorem zLp (h:Q6_ c x y=true):x<c.n/\y<c.n:=by
 unfold Q6_ zjp lcP at h
 simp only [Bool.and_eq_true,decide_eq_true_eq] at h
 exact ⟨h.1.1.2.1.1,h.1.1.2.1.2⟩
theorem za0:B6 (rmU c 0 0)=B6 (Q6_ c):=C3 fun x y=>by unfold rmU upR;simp
theorem zTs {i b:Nat}:rmU c i b i b=Q6_ c i b:=by unfold rmU upR;simp
theorem zTt {i b:Nat} (h:Q6_ c i b=true) (h2:zK9 c i b=true):B6 (fun x y=>rmU c i b x y&&!(false||(decide ((x:Int)=(i:Nat))&&decide ((y:Int)=(b:Nat)))))=B6 (rmU c i (b+1)):=C3 fun x y=>by
 unfold rmU upR
 rw [Bool.eq_iff_iff]
 simp only [Bool.false_or,Bool.and_eq_true,Bool.not_eq_true',Bool.and_eq_false_iff,Bool.or_eq_false_iff,decide_eq_false_iff_not]
 constructor
 .rintro ⟨⟨h1,h3⟩,h4⟩
  refine ⟨h1,?_⟩
  rcases h3 with h3|⟨h3,h5⟩
  .exact .inl h3
  right;refine ⟨h3,?_⟩;omega
 rintro ⟨h1,h3⟩
 rcases h3 with h3|⟨h3,h5⟩
 .refine ⟨⟨h1,.inl h3⟩,?_⟩
  by_cases e:x=i/\y=b
  .obtain ⟨rfl,rfl⟩:=e
   rcases h3 with h3|h3
   .rw [h] at h3;cases h3
   rw [h2] at h3;cases h3
  omega
 refine ⟨⟨h1,.inr ⟨h3,by omega⟩⟩,by omega⟩
theorem za1 {i b:Nat} (h:Q6_ c i b=true) (h2:zK9 c i b=true):B6 (rmU c i (b+1))=B6 (fun x y=>rmU c i b x y&&(!decide ((x:Int)=(i:Nat))||!decide ((y:Int)=(b:Nat)))):=by
 rw [<-zTt h h2]
 exact C3 fun x y=>by simp
theorem zhl {i b:Nat} (h:¬ (Q6_ c i b=true/\zK9 c i b=true)):B6 (rmU c i b)=B6 (rmU c i (b+1)):=C3 fun x y=>by
 unfold rmU
 congr 2
 have:=zDu (q:=fun u v=>Q6_ c u v&&zK9 c u v) (a:=i) (b:=b) (by rw [Bool.eq_false_iff];simpa using h)
 unfold upR
 rw [Bool.eq_iff_iff]
 simp only [Bool.and_eq_true,Bool.or_eq_true,decide_eq_true_eq]
 constructor
 .rintro ⟨h1,h2⟩;exact ⟨h1,by omega⟩
 rintro ⟨h1,h2⟩
 refine ⟨h1,?_⟩
 by_cases e:x=i/\y=b
 .obtain ⟨rfl,rfl⟩:=e;exact absurd h1 h
 omega
theorem zhm {i:Nat}:B6 (rmU c i c.n)=B6 (rmU c (i+1) 0):=C3 fun x y=>by
 unfold rmU
 cases hu:Q6_ c x y with
 | false=>rfl
 | true =>
  have:=(zLp hu).2
  congr 2
  unfold upR
  rw [Bool.eq_iff_iff]
  simp only [Bool.and_eq_true,Bool.or_eq_true,decide_eq_true_eq]
  constructor
  .rintro ⟨h1,h2⟩;exact ⟨h1,by omega⟩
  rintro ⟨h1,h2⟩;exact ⟨h1,by omega⟩
theorem zhn:B6 (rmU c c.n 0)=B6 (zge c):=C3 fun x y=>by
 unfold rmU zge upR
 cases hu:Q6_ c x y with
 | false=>rfl
 | true =>
  have:=(zLp hu).1
  simp [this,hu]
end
theorem zLq (c:Cs) (hc:CsOk c):Pf Tryz.prog 97 [.rp c.cs 0] (.agg (B6 (zge c))):=by
 refine Pf.of_fn (.cons (YF_ c) .nil) (.agg (D9 _)) ?_
 have hn8:=hc.n8
 have hcn:c.ops.length=c.n:=rfl
 have hfl:=hc.frl
 refine B7 T_ok func97 rfl rfl ntmps97 rfl (by simp) ?_
 refine rG ?_
 refine rK fun K hK=>?_
 simp [go_sem]
 refine A2 (zZm c hc) ?_
 simp [go_sem]
 refine A2 (zTi c hc) ?_
 simp [go_sem]
 refine A2 (M4 _ _) ?_
 simp [go_sem]
 apply hK
 refine rK fun K hK=>?_
 simp [go_sem]
 refine A2 (XJ_ c hc) ?_
 simp [go_sem]
 refine A2 (d0 c hc) ?_
 simp [go_sem]
 apply hK
 refine S8 T_ok (by kernel_rfl) 6 [[],[],[],[1,2],[0,1,2,3],[],[0,1,2,3,4,5]] [(0,5),(1,5),(2,5),(3,5),(4,5)] (by decide) (by decide) (by decide) fun K hK=>?_
 first|dsimp only [List.take,List.drop]|dsimp [List.take,List.drop]
 simp [go_sem]
 refine A5 (H7 _ _) ?_
 simp [go_sem]
 refine A5 (M4 _ _) ?_
 simp [go_sem]
 apply hK
 refine S8 T_ok (by kernel_rfl) 12 [[],[],[],[1,2],[0,1,2,3],[],[],[],[0,1,2,3,4,6,7],[0,1,2,3,4,5,6,7,8],[0,1,2,3,4,5,6,7,8,9],[],[0,1,2,3,4,5,6,7,8,9,10,11]] [(0,11),(1,11),(2,11),(3,11),(4,11),(5,11),(6,11),(7,11),(8,11),(9,11),(10,11)] (by decide) (by decide) (by decide) fun K hK=>?_
 first|dsimp only [List.take,List.drop]|dsimp [List.take,List.drop]
 simp [go_sem]
 refine A5 (H7 _ _) ?_
 simp [go_sem]
 refine A5 (M4 _ _) ?_
 simp [go_sem]
 refine A5 (H7 _ _) ?_
 simp [go_sem]
 refine A5 (M4 _ _) ?_
 simp [go_sem]
 refine A5 (zAl _ _) ?_
 simp [go_sem]
 apply hK
 refine rK fun K hK=>?_
 simp [go_sem]
 refine A2 (zIq _ _) ?_
 simp [go_sem]
 apply hK
 refine A3 fun K1 hK1=>?_
 refine rG ?_ fun K h=>by simp [go_sem,Cs.cs,hcn];exact h
 apply A0
 refine A9 (α:=Nat × Nat) (fun a=>⟨84,[(0,.rp c.cs 0),(2,.ptr 0 0 0),(6,.ptr 7 0 0),(42,iV (c.n:Nat)),(43,iV (a.1:Nat))],[(7,.rows 16 [.agg (B6 (rmU c a.1 0))]),(0,.rows 16 [.agg (B6 fun _ _=>false)])],a.2⟩) (fun a=>a.1<=c.n/\19<a.2) (fun a=>c.n-a.1) (0,20) ?_ ?_ ?_
 .exact ⟨Nat.zero_le _,by dsimp only;omega⟩
 .refine Weaker.fy 1 0 ?_ ?_
  .simp [go_sem,Cs.cs]
  (simp [go_sem,za0];rfl)
 rintro ⟨i,j⟩ ⟨hi,hj⟩
 dsimp only at hi hj ⊢
 refine rG ?_
 refine A3 fun K2 hK2=>?_
 refine cJ (fun h=>?_) fun h=>?_
 .simp at h
  obtain rfl:i=c.n:=by omega
  clear h
  apply A6
  apply hK1
  refine rG ?_
  refine A4 ?_
  simp [go_sem,zhn]
 simp at h
 have hin:i<c.n:=by omega
 clear h
 have hw:=wI i
 have hi16:i<16:=by omega
 have g127:(0:Int)<=(i:Nat)/\(i:Int)<(c.fr.length:Nat):=by and_intros<;>omega
 have hiL:i<c.fr.length:=by omega
 obtain ⟨x,hx,hx'⟩:=E0 hiL
 apply A1
 apply hK2
 refine A3 fun K3 hK3=>?_
 apply A0
 refine rG ?_
 refine rG ?_ fun K h=>by simp [go_sem,Cs.cs,hcn];exact h
 apply A0
 refine A9 (α:=Nat × Nat) (fun b=>⟨84,[(0,.rp c.cs 0),(2,.ptr 0 0 0),(6,.ptr 7 0 0),(42,iV (c.n:Nat)),(43,iV (i:Nat)),(8,iV (i:Nat)),(50,iV (c.n:Nat)),(51,iV (b.1:Nat))],[(7,.rows 16 [.agg (B6 (rmU c i b.1))]),(0,.rows 16 [.agg (B6 fun _ _=>false)])],b.2⟩) (fun b=>b.1<=c.n/\19<b.2) (fun b=>c.n-b.1) (0,j) ?_ ?_ ?_
 .exact ⟨Nat.zero_le _,hj⟩
 .refine Weaker.fy 1 0 ?_ ?_
  .simp [go_sem,Cs.cs]
  simp [go_sem]
 rintro ⟨b,jj⟩ ⟨hb,hjj⟩
 dsimp only at hb hjj ⊢
 refine rG ?_
 refine A3 fun K4 hK4=>?_
 refine cJ (fun h=>?_) fun h=>?_
 .simp at h
  obtain rfl:b=c.n:=by omega
  clear h
  apply A6
  apply hK3
  refine rF ?_ fun K h=>by simp [go_sem,hw];exact h
  refine ⟨(i+1,jj),?_,?_,?_⟩
  .exact ⟨by dsimp only;omega,by dsimp only;omega⟩
  .dsimp only;omega
  refine Weaker.fy 1 0 ?_ ?_
  .simp [go_sem,Cs.cs]
  simp [go_sem,zhm]
 simp at h
 have hbn:b<c.n:=by omega
 clear h
 have hwb:=wI b
 have g128:(0:Int)<=(b:Nat)/\(b:Int)<16/\(b:Int)<(c.fr.length:Nat):=by and_intros<;>omega
 have hbL:b<c.fr.length:=by omega
 obtain ⟨y,hy,hy'⟩:=E0 hbL
 have hfe:zK9 c i b=decide (x=y):=by unfold zK9;rw [List.getD,List.getD,hx,hy];rfl
 apply A1
 apply hK4
 refine A3 fun K5 hK5=>?_
 apply A0
 refine rG ?_
 refine dK 19 [[],[],[],[0,1,2],[0,1,2,3],[0,1,2,3,4],[0,1,2,3,4,5],[0,1,2,3,4,5,6],[0,1,2,3,4,5,6,7],[0,1,2,3,4],[0,1,2,3,4,5,6,7,8,9],[0,1,2,3,4,5,6,7,8,9,10],[0,1,2,3,4],[0,1,2,3,4,12],[0,1,2,3,4,12,13],[0,1,2,3,4,12,13,14],[0,1,2,3,4],[0,1,2,3,4,12,13,14,15,16],[0,1,2,3,4,12,13,14,15,16,17],[0,1,2,3,4,5,6,7,8,9,10,11,12,13,14,15,16,17,18],[0,1,2,3,4,5,6,7,8,9,10,11,12,13,14,15,16,17,18,19]] fun K hK=>?_
 first|dsimp only [List.take,List.drop]|dsimp [List.take,List.drop]
 by_cases hU:Q6_ c i b=true
 .simp [go_sem]
  refine A5 (y6 _ i hi16 _) ?_
  simp [go_sem,zTs,hU,g128,Cs.cs,hiL,g127,hx,hx',hbL,hy,hy']
  apply hK
  refine cJ (fun h=>?_) fun h=>?_
  .have hno:¬ (Q6_ c i b=true/\zK9 c i b=true):=fun hc=>by rw [hfe] at hc;have h9:¬ x=y:=(by simpa using h);exact h9 (by simpa using hc.2)
   apply A1
   apply hK5
   refine rF ?_ fun K h=>by simp [go_sem,hwb];exact h
   refine ⟨(b+1,jj+19),?_,?_,?_⟩
   .exact ⟨by dsimp only;omega,by dsimp only;omega⟩
   .dsimp only;omega
   refine Weaker.fy 1 0 ?_ ?_
   .simp [go_sem,Cs.cs]
   simp [go_sem,zhl hno]
  have hE:zK9 c i b=true:=by rw [hfe];simpa using h
  refine dE 5 [[],[],[],[],[1,2,3],[0,1,2,3,4],[0,1,2,3,4,5]] fun K hK=>?_
  first|dsimp only [List.take,List.drop]|dsimp [List.take,List.drop]
  simp [go_sem]
  refine A5 (j1 (fun _ _=>false) (i:Nat) (b:Nat)) ?_
  simp [go_sem]
  refine A2 (zIq _ _) ?_
  simp [go_sem]
  apply hK
  apply hK5
  refine rF ?_ fun K h=>by simp [go_sem,hwb];exact h
  refine ⟨(b+1,jj+19+5),?_,?_,?_⟩
  .exact ⟨by dsimp only;omega,by dsimp only;omega⟩
  .dsimp only;omega
  refine Weaker.fy 1 0 ?_ ?_
  .simp [go_sem,Cs.cs]
  first|(simp [go_sem,zTt hU hE];done)|(simp [go_sem,za1 hU hE];done)
 simp [go_sem]
 refine A5 (y6 _ i hi16 _) ?_
 simp [go_sem,zTs,hU,g128,Cs.cs]
 apply hK
 refine cK (fun h=>?_) fun h=>?_
 .simp at h
 have hno:¬ (Q6_ c i b=true/\zK9 c i b=true):=fun hc=>hU hc.1
 apply A1
 apply hK5
 refine rF ?_ fun K h=>by simp [go_sem,hwb];exact h
 refine ⟨(b+1,jj+19),?_,?_,?_⟩
 .exact ⟨by dsimp only;omega,by dsimp only;omega⟩
 .dsimp only;omega
 refine Weaker.fy 1 0 ?_ ?_
 .simp [go_sem,Cs.cs]
 simp [go_sem,zhl hno]
theorem zho (c:Cs) (hc:CsOk c):Pf Tryz.prog 38 [.rp c.cs 0] (.agg (B6 (WF_ c))):=by
 refine Pf.of_fn (.cons (YF_ c) .nil) (.agg (D9 _)) ?_
 have hn8:=hc.n8
 have hlen:(rul c).length=13:=rfl
 refine B7 T_ok func38 rfl rfl ntmps38 rfl (by simp) ?_
 refine rG ?_
 refine rK fun K hK=>?_
 simp [go_sem]
 refine A2 (zZm c hc) ?_
 simp [go_sem]
 apply hK
 refine S8 T_ok (by kernel_rfl) 5 [[],[0],[],[0,1,2],[],[0,1,2,3,4]] [(0,4),(1,4),(2,4),(3,4)] (by decide) (by decide) (by decide) fun K hK=>?_
 first|dsimp only [List.take,List.drop]|dsimp [List.take,List.drop]
 simp [go_sem]
 refine A5 (zR3 c hc) ?_
 simp [go_sem]
 refine A5 (M4 _ _) ?_
 simp [go_sem]
 apply hK
 refine rK fun K hK=>?_
 simp [go_sem]
 refine A2 (XJ_ c hc) ?_
 simp [go_sem]
 refine A2 (d0 c hc) ?_
 simp [go_sem]
 refine A2 (Uo_ c hc) ?_
 simp [go_sem]
 apply hK
 refine rK fun K hK=>?_
 simp [go_sem]
 refine A2 (Zx_ c hc 93 (fun x=>x.acq) (fun x=>zZe x)) ?_
 simp [go_sem]
 apply hK
 refine rK fun K hK=>?_
 simp [go_sem]
 refine A2 (Zx_ c hc 94 (fun x=>x.rel) (fun x=>zZf x)) ?_
 simp [go_sem]
 apply hK
 refine rK fun K hK=>?_
 simp [go_sem]
 refine A2 (Zx_ c hc 95 (fun x=>decide (x.op=11)||(decide (x.op=12)||decide (x.op=14))) (fun x=>zZg x)) ?_
 simp [go_sem]
 apply hK
 refine rK fun K hK=>?_
 simp [go_sem,Cs.cs,Os'.cs]
 refine A2 (Ur_ c.f.f.place (by have:=hc.fl.l4;omega) hc.plU) ?_
 simp [go_sem]
 refine A2 (H7 _ _) ?_
 simp [go_sem]
 refine A2 (M4 _ _) ?_
 simp [go_sem]
 apply hK
 refine rK fun K hK=>?_
 simp [go_sem,Cs.cs,Os'.cs]
 refine A2 (Ur_ c.f.f.value (by have:=hc.fl.l5;omega) hc.vaU) ?_
 simp [go_sem]
 refine A2 (H7 _ _) ?_
 simp [go_sem]
 refine A2 (M4 _ _) ?_
 simp [go_sem]
 apply hK
 refine rK fun K hK=>?_
 simp [go_sem,Cs.cs,Os'.cs]
 refine A2 (Ur_ c.f.f.path (by have:=hc.fl.l6;omega) hc.phU) ?_
 simp [go_sem]
 refine A2 (H7 _ _) ?_
 simp [go_sem]
 refine A2 (M4 _ _) ?_
 simp [go_sem]
 apply hK
 have hcs:[V.rp c.t.cs 0,V.ro 2 (j3 c.ops),V.rp [V.ro 1 (iVs c.f.f.state),V.ro 2 (vls c.f.f.write),V.ro 1 (iVs c.f.f.pair),V.ro 1 (uVs c.f.f.place),V.ro 1 (uVs c.f.f.value),V.ro 1 (uVs c.f.f.path),V.ro 1 (uVs c.f.left),V.ro 16 (F7 c.f.regs),bV c.f.whole] 0,V.ro 1 (iVs c.fr)]=c.cs:=rfl
 refine dK 61 [[],[],[1],[0,1,2],[],[],[0,1,2,3,4,5],[0,1,2,3,4,5,6],[],[0,1,2,3,4,5,6,7,8],[],[],[],[0,1,2,3,4,5,6,7,8,9,11,12],[0,1,2,3,4,5,6,7,8,9,10,11,12,13],[],[0,1,2,3,4,5,6,7,8,9,10,11,12,13,14,15],[],[],[],[0,1,2,3,4,5,6,7,8,9,10,11,12,13,14,15,16,18,19],[0,1,2,3,4,5,6,7,8,9,10,11,12,13,14,15,16,17,18,19,20],[],[],[],[0,1,2,3,4,5,6,7,8,9,10,11,12,13,14,15,16,17,18,19,20,21,23,24],[0,1,2,3,4,5,6,7,8,9,10,11,12,13,14,15,16,17,18,19,20,21,22,23,24,25],[],[],[],[28,29],[],[],[31,32],[0,1,2,3,4,5,6,7,8,9,10,11,12,13,14,15,16,17,18,19,20,21,22,23,24,25,26,28,29,30,31,32,33],[0,1,2,3,4,5,6,7,8,9,10,11,12,13,14,15,16,17,18,19,20,21,22,23,24,25,26,27,28,29,30,31,32,33,34],[],[0,1,2,3,4,5,6,7,8,9,10,11,12,13,14,15,16,17,18,19,20,21,22,23,24,25,26,27,28,29,30,31,32,33,34,35,36],[],[],[],[],[],[0,1,2,3,4,5,6,7,8,9,10,11,12,13,14,15,16,17,18,19,20,21,22,23,24,25,26,27,28,29,30,31,32,33,34,35,36,37,41,42],[0,1,2,3,4,5,6,7,8,9,10,11,12,13,14,15,16,17,18,19,20,21,22,23,24,25,26,27,28,29,30,31,32,33,34,35,36,37,40,41,42,43],[],[],[0,1,2,3,4,5,6,7,8,9,10,11,12,13,14,15,16,17,18,19,20,21,22,23,24,25,26,27,28,29,30,31,32,33,34,35,36,37,40,41,42,43,44,45,46],[],[],[0,1,2,3,4,5,6,7,8,9,10,11,12,13,14,15,16,17,18,19,20,21,22,23,24,25,26,27,28,29,30,31,32,33,34,35,36,37,40,41,42,43,44,45,46,47,48,49],[0,1,2,3,4,5,6,7,8,9,10,11,12,13,14,15,16,17,18,19,20,21,22,23,24,25,26,27,28,29,30,31,32,33,34,35,36,37,40,41,42,43,44,45,46,47,48,49,50],[],[0,1,2,3,4,5,6,7,8,9,10,11,12,13,14,15,16,17,18,19,20,21,22,23,24,25,26,27,28,29,30,31,32,33,34,35,36,37,40,41,42,43,44,45,46,47,48,49,50,51,52],[],[],[0,1,2,3,4,5,6,7,8,9,10,11,12,13,14,15,16,17,18,19,20,21,22,23,24,25,26,27,28,29,30,31,32,33,34,35,36,37,40,41,42,43,44,45,46,47,48,49,50,51,52,53,54,55],[],[],[0,1,2,3,4,5,6,7,8,9,10,11,12,13,14,15,16,17,18,19,20,21,22,23,24,25,26,27,28,29,30,31,32,33,34,35,36,37,40,41,42,43,44,45,46,47,48,49,50,51,52,53,54,55,56,57,58],[0,1,2,3,4,5,6,7,8,9,10,11,12,13,14,15,16,17,18,19,20,21,22,23,24,25,26,27,28,29,30,31,32,33,34,35,36,37,40,41,42,43,44,45,46,47,48,49,50,51,52,53,54,55,56,57,58,59],[0,1,2,3,4,5,6,7,8,9,10,11,12,13,14,15,16,17,18,19,20,21,22,23,24,25,26,27,28,29,30,31,32,33,34,35,36,37,38,39,40,41,42,43,44,45,46,47,48,49,50,51,52,53,54,55,56,57,58,59,60],[0,1,2,3,4,5,6,7,8,9,10,11,12,13,14,15,16,17,18,19,20,21,22,23,24,25,26,27,28,29,30,31,32,33,34,35,36,37,38,39,40,41,42,43,44,45,46,47,48,49,50,51,52,53,54,55,56,57,58,59,60,61]] fun K hK=>?_
 first|dsimp only [List.take,List.drop]|dsimp [List.take,List.drop]
 simp [go_sem,hcs]
 refine A5 (zTi c hc) ?_
 simp [go_sem]
 refine A5 (M4 _ _) ?_
 simp [go_sem]
 refine A5 (H7 _ _) ?_
 simp [go_sem]
 refine A5 (M4 _ _) ?_
 simp [go_sem]
 refine A5 (zLq c hc) ?_
 simp [go_sem]
 refine A5 (H7 _ _) ?_
 simp [go_sem]
 refine A5 (M4 _ _) ?_
 simp [go_sem]
 refine A5 (zLn c hc) ?_
 simp [go_sem]
 refine A5 (H7 _ _) ?_
 simp [go_sem]
 refine A5 (M4 _ _) ?_
 simp [go_sem]
 refine A5 (H7 _ _) ?_
 simp [go_sem]
 refine A5 (M4 _ _) ?_
 simp [go_sem,Y0]
 refine A5 (H7 _ _) ?_
 simp [go_sem]
 refine A5 (M4 _ _) ?_
 simp [go_sem]
 refine A5 (zR4 c hc) ?_
 simp [go_sem]
 refine A5 (H7 _ _) ?_
 simp [go_sem]
 refine A5 (M4 _ _) ?_
 simp [go_sem]
 refine A5 (zFs _ _) ?_
 simp [go_sem]
 refine A5 (H7 _ _) ?_
 simp [go_sem]
 refine A5 (M4 _ _) ?_
 simp [go_sem]
 refine A5 (zAl _ _) ?_
 simp [go_sem]
 refine A5 (zAl _ _) ?_
 simp [go_sem]
 refine A5 (H7 _ _) ?_
 simp [go_sem]
 refine A5 (M4 _ _) ?_
 simp [go_sem,zLo]
 apply hK
 refine rG ?_
 refine A3 fun K1 hK1=>?_
 refine rG ?_
 apply A0
 refine A9 (α:=Nat × Nat) (fun a=>⟨147,[(0,.rp c.cs 0),(2,.ptr 0 0 0),(3,.ptr 1 0 0),(15,.ptr 72 0 0),(134,.sl 71 0 13),(135,iV 13),(136,iV (a.1:Nat))],[(72,.rows 16 [.agg (B6 (orU (rul c) a.1))]),(71,.rows 16 ((rul c).map fun r=>.agg (B6 r))),(1,.rows 16 [.agg (B6 (poP c))]),(0,.rows 16 [.agg (B6 fun _ _=>false)])],a.2⟩) (fun a=>a.1<=13/\72<a.2) (fun a=>13-a.1) (0,73) ?_ ?_ ?_
 .exact ⟨Nat.zero_le _,by dsimp only;omega⟩
 .refine Weaker.fy 1 0 ?_ ?_
  .simp [go_sem,Cs.cs,Os'.cs]
  (simp [go_sem,rul,orU];(repeat' apply And.intro)<;>rfl)
 rintro ⟨i,j⟩ ⟨hi,hj⟩
 dsimp only at hi hj ⊢
 have g129:¬ j=72/\¬ 72=j/\¬ j=71/\¬ 71=j/\¬ j=1/\¬ 1=j/\¬ j=0/\¬ 0=j:=by and_intros<;>omega
 refine rG ?_
 refine A3 fun K2 hK2=>?_
 refine cJ (fun h=>?_) fun h=>?_
 .simp at h
  obtain rfl:i=13:=by omega
  clear h
  apply A6
  apply hK1
  refine rK fun K hK=>?_
  simp [go_sem]
  refine A2 (M4 _ _) ?_
  simp [go_sem]
  apply hK
  refine A4 ?_
  simp [go_sem]
  rfl
 simp at h
 have hin:i<13:=by omega
 clear h
 have hw:=wI i
 have hinL:i<(rul c).length:=by omega
 have g130:(i:Int)<13/\(0:Int)<=(i:Nat):=by and_intros<;>omega
 obtain ⟨r,hr,hr'⟩:=E0 hinL
 apply A1
 apply hK2
 refine A3 fun K3 hK3=>?_
 apply A0
 refine rG ?_ fun K h=>by simp [go_sem,g129,hinL,g130,hr,hr',hlen,hin];exact h
 refine rE fun K hK=>?_
 simp [go_sem,g129]
 refine A2 (zFs _ _) ?_
 simp [go_sem,g129]
 apply hK
 apply hK3
 refine rF ?_ fun K h=>by simp [go_sem,hw];exact h
 refine ⟨(i+1,j+1),?_,?_,?_⟩
 .exact ⟨by dsimp only;omega,by dsimp only;omega⟩
 .dsimp only;omega
 refine Weaker.fy 1 0 ?_ ?_
 .simp [go_sem]
 (simp [go_sem,g129];exact C3 fun a b=>(zQ4 hr a b).symm)
def onV:Option (List Nat)->V
 | none=>.val (.slice none 0 0)
 | some l=>.ro 1 (R5 l)
@[go_sem] theorem zno:V.val (.slice none 0 0)=onV none:=Eq.trans rfl rfl
structure RV where
 k:Bool
 v:Int
 on:Option (List Nat)
def RV.cs (x:RV):List V:=[bV x.k,uV x.v,onV x.on]
structure RF where
 state:Int
 pair:Int
 wk:Bool
 wv:Int
 place:Option (List Nat)
 value:Option (List Nat)
 path:Option (List Nat)
def RF.cs (x:RF):List V:=[iV x.state,iV x.pair,bV x.wk,uV x.wv,onV none,onV x.place,onV x.value,onV x.path]
structure RW where
 regs:Nat->RV
 path:Option (List Nat)
 last:Int
 left:Option (List Nat)
 facts:List RF
 known:Bool
def znp (g:Nat->RV):List V:=(List.range 8).map fun r=>.agg (g r).cs
def rfs (l:List RF):List V:=l.map fun x=>.agg x.cs
def RW.cs (w:RW):List V:=[.ro 3 (znp w.regs),onV w.path,iV w.last,onV w.left,.ro 8 (rfs w.facts),bV w.known]
theorem d8 (l l':List Nat):R5 l++R5 l'=R5 (l++l'):=by simp [R5]
end Go.Proofs.YtmpbalepefpllaaGreat
