/- Texts put together, in order: Grvwg, Grvwh, Grvwi, Grvwj, Grvwk, Grvwl, W24, W25, W70, W71, W72, W73, W74, W75, W76, W77, W78, W79, W80, W81. -/
import Derived.Test.YtmpbalepefpllaaGreatB7
open List
set_option maxRecDepth 100000
set_option maxHeartbeats 16000000
set_option linter.unusedVariables false
set_option linter.unusedSimpArgs false
namespace Go.Proofs.YtmpbalepefpllaaGreat
open Go Go.Sl Go.Proofs.Tryz
theorem zKb (t:Tst) (hS:SeaOk t) (of:FuncId) (ws:List Bool) (fr:List Int) (vg:FuncId) (vcs:List V) (hwl:ws.length=nO t) (hfl:fr.length=nO t) (hfr:∀ (k:Nat) (x:Int),fr[k]?=some x->-1<=x/\x<nO t):Pf Tryz.prog 204 [Y8 t of ws fr vg vcs] (zLz (U6 t ws fr)) :=
 Pf.hide (ds:=zQt t (fnV of) ws fr) fun x _=>zJz t hS of ws fr x hwl hfl hfr
def Z2 (ord:Cs->Rl) (c:Cs) (i a b:Nat):Bool:=ord c a b||(decide (b<i)&&zLr c a b)
def p6:Rl:=fun _ _=>false
def las0:List Int:=List.replicate 8 0
theorem zXg (c:Cs):LasOk c las0:=⟨rfl,fun i n h=>by
 unfold las0 at h
 rw [List.getElem?_replicate] at h
 split at h
 .cases h;exact ⟨Int.le_refl _,by omega⟩
 cases h⟩
theorem Qx_ (k:Nat):D7 (p6 k)=0:=by show D7 (fun _=>false)=0;decide
theorem zKc (ord:Cs->Rl) (c:Cs):Z2 ord c 0=ord c:=by funext a b;simp [Z2]
theorem zKd {c:Cs} {a i:Nat} {x:Int} (hx:c.fr[i]?=some x) (hi:i<c.n):zLr c a i=(decide (x=(a:Int))&&!decide (((c.op a).1:Int)=((c.op i).1:Nat))):=by
 unfold zLr Cs.th
 rw [show c.fr.getD i 0=x by rw [List.getD,hx];rfl,decide_eq_true hi,Bool.true_and]
 congr 2
 rw [Bool.eq_iff_iff,decide_eq_true_eq,decide_eq_true_eq];omega
theorem zXh {ord:Cs->Rl} {c:Cs} {i:Nat} {x:Int} (hx:c.fr[i]?=some x) (hi:i<c.n) (h:(decide (0<=x)&&!decide (((c.op x.toNat).1:Int)=((c.op i).1:Nat)))=false):Z2 ord c (i+1)=Z2 ord c i:=by
 funext a b
 unfold Z2
 congr 1
 by_cases e:b=i
 .subst e
  rw [zKd hx hi]
  by_cases e2:x=(a:Int)
  .subst e2
   simp only [Int.toNat_natCast] at h
   rw [decide_eq_true (by omega:(0:Int)<=(a:Nat)),Bool.true_and] at h
   rw [h];simp
  simp [e2]
 rw [show decide (b<i+1)=decide (b<i) by rw [Bool.eq_iff_iff,decide_eq_true_eq,decide_eq_true_eq];omega]
theorem zPd {ord:Cs->Rl} {c:Cs} {i m:Nat} (hx:c.fr[i]?=some (m:Int)) (hi:i<c.n) (h:(!decide (((c.op m).1:Int)=((c.op i).1:Nat)))=true):(fun a b=>Z2 ord c i a b||(decide ((a:Int)=(m:Nat))&&decide ((b:Int)=(i:Nat))))=Z2 ord c (i+1):=by
 funext a b
 unfold Z2
 rw [Bool.or_assoc]
 congr 1
 by_cases e:b=i
 .subst e
  rw [zKd hx hi]
  by_cases e2:a=m
  .subst e2;rw [h];simp
  simp [e2,show ¬ ((m:Int)=(a:Int)) by omega,show ¬ ((a:Int)=(m:Int)) by omega]
 rw [show decide (b<i+1)=decide (b<i) by rw [Bool.eq_iff_iff,decide_eq_true_eq,decide_eq_true_eq];omega,show decide ((b:Int)=(i:Nat))=false from decide_eq_false (by omega)];simp
theorem zPe (ord:Cs->Rl) (c:Cs):Z2 ord c c.n=WU_ ord c:=by
 funext a b
 unfold Z2 WU_
 congr 1
 unfold zLr
 by_cases h:b<c.n<;>simp [h]
theorem zXi {σ:Type} {Q:Rn->Prop} {G:σ->A7} {step:σ->Rn->σ} {ok:σ->Prop} {vg:FuncId} {vcs:List V} {j0:Nat} (hV:VisOk Q G step ok vg vcs j0) (c:Cs) (hS:SeaOk c.t) (of:FuncId) (ws:List Bool) (hwl:ws.length=nO c.t) (hfl:c.fr.length=nO c.t) (hfr:∀ (k:Nat) (x:Int),c.fr[k]?=some x->-1<=x/\x<nO c.t) (s:σ) (hs:ok s) (j:Nat) (hj:j0<=j) (hset:U6 c.t ws c.fr=none):Sl.Fn Tryz.prog 177 [Y8 c.t of ws c.fr vg vcs] (G s) j fun v H _=>v=.tup []/\H=G (s):=by
 refine Fn.view ?_
 refine B7 T_ok func177 rfl rfl ntmps177 rfl (by simp) ?_
 refine rK fun K hK=>?_
 simp [go_sem]
 refine A2 (zKb c.t hS of ws c.fr vg vcs hwl hfl hfr) ?_
 simp [go_sem,hset,zLz]
 apply hK
 refine A3 fun K1 hK1=>?_
 refine QI_ ?_
 refine zUt _ (.inl rfl) rfl rfl (by decide) ?_
 refine zUu _ _ _ _ rfl rfl rfl (by decide) (T_ok _ _ rfl) rfl rfl rfl ?_
 refine J1_ T_ok (by decide) fun K hK=>?_
 simp [go_sem]
 apply hK
 refine cJ (fun h=>?_) fun h=>?_
 .simp at h
 skip
 refine A4 ?_
 simp [go_sem]
 first
 | exact ⟨_,_,View.tail [] _ _,rfl,rfl⟩
 | exact ⟨_,_,View.tail [_] _ _,rfl,rfl⟩
theorem zXj {σ:Type} {Q:Rn->Prop} {G:σ->A7} {step:σ->Rn->σ} {ok:σ->Prop} {vg:FuncId} {vcs:List V} {j0:Nat} (hV:VisOk Q G step ok vg vcs j0) (c:Cs) (hS:SeaOk c.t) (of:FuncId) (ws:List Bool) (hwl:ws.length=nO c.t) (hfl:c.fr.length=nO c.t) (hfr:∀ (k:Nat) (x:Int),c.fr[k]?=some x->-1<=x/\x<nO c.t) (s:σ) (hs:ok s) (j:Nat) (hj:j0<=j) (hset:U6 c.t ws c.fr=some c.f) (hc:CsOk c) (hrl:c.f.regs.length=c.t.ths.length) (ord:Cs->Rl) (hord:Pf Tryz.prog of [.rp c.cs 0] (.agg (B5 (ord c)))) (hQ:∀ r∈zJe (WU_ ord c) c c.t.locs.length 0 las0 p6,Q r):Sl.Fn Tryz.prog 177 [Y8 c.t of ws c.fr vg vcs] (G s) j fun v H _=>v=.tup []/\H=G ((zJe (WU_ ord c) c c.t.locs.length 0 las0 p6).foldl step s):=by
 refine Fn.view ?_
 have hz8:las0.length=8:=rfl
 have hn8:=hc.n8
 have hgn:=hV.names _ hs
 have h8f:c.fr.length*8<=140737488355328:=by have hnn:nO c.t=c.n:=rfl;omega
 have hun:=I8 hgn (show j0<=j+1+1+1+1+1+1+1+1+1 by omega)
 have hua:=O4 hgn (show j0<=j+1+1+1+1+1+1+1+1+1 by omega)
 have g143:¬ j+1+1+1+1+1+1+1+1+1=j+1+1+1+1+1+1+1+1+1+1+1+1+1+1/\¬ j+1+1+1+1+1+1+1+1+1+1+1+1+1+1=j+1+1+1+1+1+1+1+1+1/\¬ j+1+1+1+1+1+1+1+1+1=j+1+1+1+1+1+1+1+1+1+1+1+1+1+1+1+1/\¬ j+1+1+1+1+1+1+1+1+1+1+1+1+1+1+1+1=j+1+1+1+1+1+1+1+1+1/\¬ j+1+1+1+1+1+1+1+1+1=j+1+1+1+1+1+1+1+1+1+1+1+1+1+1+1+1+1+1/\¬ j+1+1+1+1+1+1+1+1+1+1+1+1+1+1+1+1+1+1=j+1+1+1+1+1+1+1+1+1/\¬ j+1+1+1+1+1+1+1+1+1+1+1+1+1+1=j+1+1+1+1+1+1+1+1+1+1+1+1+1+1+1+1/\¬ j+1+1+1+1+1+1+1+1+1+1+1+1+1+1+1+1=j+1+1+1+1+1+1+1+1+1+1+1+1+1+1/\¬ j+1+1+1+1+1+1+1+1+1+1+1+1+1+1=j+1+1+1+1+1+1+1+1+1+1+1+1+1+1+1+1+1+1/\¬ j+1+1+1+1+1+1+1+1+1+1+1+1+1+1+1+1+1+1=j+1+1+1+1+1+1+1+1+1+1+1+1+1+1/\¬ j+1+1+1+1+1+1+1+1+1+1+1+1+1+1+1+1=j+1+1+1+1+1+1+1+1+1+1+1+1+1+1+1+1+1+1/\¬ j+1+1+1+1+1+1+1+1+1+1+1+1+1+1+1+1+1+1=j+1+1+1+1+1+1+1+1+1+1+1+1+1+1+1+1:=by and_intros<;>omega
 have hops:M5 0 c.t.ths=c.ops:=rfl
 have htf:List.take c.fr.length (List.map iV c.fr)=List.map iV c.fr:=take_of_length_le (by simp)
 have hcn:nO c.t=c.n:=rfl
 have hlin:=zXf hV c hc hS of ws (WU_ ord c) hrl c.t.locs.length 0 las0 p6 s
 refine B7 T_ok func177 rfl rfl ntmps177 rfl (by simp) ?_
 refine rK fun K hK=>?_
 simp [go_sem]
 refine A2 (zKb c.t hS of ws c.fr vg vcs hwl hfl hfr) ?_
 simp [go_sem,hset,zLz]
 apply hK
 refine A3 fun K1 hK1=>?_
 refine rG ?_
 refine cK (fun h=>?_) fun h=>?_
 .simp at h
 skip
 apply A1
 apply hK1
 refine P7 T_ok (by kernel_rfl) 19 [[],[0],[0,1],[0,1,2],[],[4],[4,5],[4,5,6],[],[],[],[10],[10,11],[10,11,12],[9,10,11,12,13],[0,1,2,3,4,5,6,7,8,9,10,11,12,13,14],[0,1,2,3,4,5,6,7,8,9,10,11,12,13,14,15],[0,1,2,3,4,5,6,7,8,9,10,11,12,13,14,15,16],[],[0,1,2,3,4,5,6,7,8,9,10,11,12,13,14,15,16,17,18]] [(0,9),(1,9),(2,9),(3,9),(4,9),(5,9),(6,9),(7,9),(8,9),(9,10),(9,11),(9,12),(9,13),(0,14),(1,14),(2,14),(3,14),(4,14),(5,14),(6,14),(7,14),(8,14),(0,18),(1,18),(2,18),(3,18),(4,18),(5,18),(6,18),(7,18),(8,18),(9,18),(10,18),(11,18),(12,18),(13,18),(14,18),(15,18),(16,18),(17,18)] (by decide) (by decide) (by decide) ⟨82,[(0,Y8 c.t of ws c.fr vg vcs),(3,.ptr (j+1+1+1+1+1+1+1+1+1+1+1+1+1+1+1+1+1+1) 0 0)],[(j+1+1+1+1+1+1+1+1+1+1+1+1+1+1+1+1+1+1,.rows 41 [.agg (F7 c p6 p6 las0)])]++G s,j+40⟩ ?_ ?_
 .first|dsimp only [List.take,List.drop]|dsimp [List.take,List.drop]
  simp [go_sem,Y8,E7,h8f,hun,hua]
  first
   | refine Weaker.fzP [] [(j+1+1+1+1+1+1+1+1+1+1+1+1+1+1+1+1+1+1,.rows 41 [.agg (F7 c p6 p6 las0)])] (G s) 2 2 (hV.still s hs 2) (by first|exact Nat.le_refl _|omega|(dsimp only;omega)) ?_ ?_ ?_ ?_
   | refine Weaker.fzP [_] [(j+1+1+1+1+1+1+1+1+1+1+1+1+1+1+1+1+1+1,.rows 41 [.agg (F7 c p6 p6 las0)])] (G s) 2 2 (hV.still s hs 2) (by first|exact Nat.le_refl _|omega|(dsimp only;omega)) ?_ ?_ ?_ ?_
   | refine Weaker.fzP [_,_] [(j+1+1+1+1+1+1+1+1+1+1+1+1+1+1+1+1+1+1,.rows 41 [.agg (F7 c p6 p6 las0)])] (G s) 2 2 (hV.still s hs 2) (by first|exact Nat.le_refl _|omega|(dsimp only;omega)) ?_ ?_ ?_ ?_
   | refine Weaker.fzP [_,_,_] [(j+1+1+1+1+1+1+1+1+1+1+1+1+1+1+1+1+1+1,.rows 41 [.agg (F7 c p6 p6 las0)])] (G s) 2 2 (hV.still s hs 2) (by first|exact Nat.le_refl _|omega|(dsimp only;omega)) ?_ ?_ ?_ ?_
   | refine Weaker.fzP [_,_,_,_] [(j+1+1+1+1+1+1+1+1+1+1+1+1+1+1+1+1+1+1,.rows 41 [.agg (F7 c p6 p6 las0)])] (G s) 2 2 (hV.still s hs 2) (by first|exact Nat.le_refl _|omega|(dsimp only;omega)) ?_ ?_ ?_ ?_
   | refine Weaker.fzP [_,_,_,_,_] [(j+1+1+1+1+1+1+1+1+1+1+1+1+1+1+1+1+1+1,.rows 41 [.agg (F7 c p6 p6 las0)])] (G s) 2 2 (hV.still s hs 2) (by first|exact Nat.le_refl _|omega|(dsimp only;omega)) ?_ ?_ ?_ ?_
   | refine Weaker.fzP [_,_,_,_,_,_] [(j+1+1+1+1+1+1+1+1+1+1+1+1+1+1+1+1+1+1,.rows 41 [.agg (F7 c p6 p6 las0)])] (G s) 2 2 (hV.still s hs 2) (by first|exact Nat.le_refl _|omega|(dsimp only;omega)) ?_ ?_ ?_ ?_
   | refine Weaker.fzP [_,_,_,_,_,_,_] [(j+1+1+1+1+1+1+1+1+1+1+1+1+1+1+1+1+1+1,.rows 41 [.agg (F7 c p6 p6 las0)])] (G s) 2 2 (hV.still s hs 2) (by first|exact Nat.le_refl _|omega|(dsimp only;omega)) ?_ ?_ ?_ ?_
   | refine Weaker.fzP [_,_,_,_,_,_,_,_] [(j+1+1+1+1+1+1+1+1+1+1+1+1+1+1+1+1+1+1,.rows 41 [.agg (F7 c p6 p6 las0)])] (G s) 2 2 (hV.still s hs 2) (by first|exact Nat.le_refl _|omega|(dsimp only;omega)) ?_ ?_ ?_ ?_
   | refine Weaker.fzP [_,_,_,_,_,_,_,_,_] [(j+1+1+1+1+1+1+1+1+1+1+1+1+1+1+1+1+1+1,.rows 41 [.agg (F7 c p6 p6 las0)])] (G s) 2 2 (hV.still s hs 2) (by first|exact Nat.le_refl _|omega|(dsimp only;omega)) ?_ ?_ ?_ ?_
   | refine Weaker.fzP [_,_,_,_,_,_,_,_,_,_] [(j+1+1+1+1+1+1+1+1+1+1+1+1+1+1+1+1+1+1,.rows 41 [.agg (F7 c p6 p6 las0)])] (G s) 2 2 (hV.still s hs 2) (by first|exact Nat.le_refl _|omega|(dsimp only;omega)) ?_ ?_ ?_ ?_
   | refine Weaker.fzP [_,_,_,_,_,_,_,_,_,_,_] [(j+1+1+1+1+1+1+1+1+1+1+1+1+1+1+1+1+1+1,.rows 41 [.agg (F7 c p6 p6 las0)])] (G s) 2 2 (hV.still s hs 2) (by first|exact Nat.le_refl _|omega|(dsimp only;omega)) ?_ ?_ ?_ ?_
   | refine Weaker.fzP [_,_,_,_,_,_,_,_,_,_,_,_] [(j+1+1+1+1+1+1+1+1+1+1+1+1+1+1+1+1+1+1,.rows 41 [.agg (F7 c p6 p6 las0)])] (G s) 2 2 (hV.still s hs 2) (by first|exact Nat.le_refl _|omega|(dsimp only;omega)) ?_ ?_ ?_ ?_
   | refine Weaker.fzP [_,_,_,_,_,_,_,_,_,_,_,_,_] [(j+1+1+1+1+1+1+1+1+1+1+1+1+1+1+1+1+1+1,.rows 41 [.agg (F7 c p6 p6 las0)])] (G s) 2 2 (hV.still s hs 2) (by first|exact Nat.le_refl _|omega|(dsimp only;omega)) ?_ ?_ ?_ ?_
  .simp [go_sem,Y8,E7,Cs.cs,F7,B5,iVs,las0,Qx_,hops,htf,g143]
  .first|(simp;done)|(simp;omega)
  .first|(simp;done)|(simp;omega)
  simp [go_sem,Y8,E7,Cs.cs,F7,B5,iVs,las0,Qx_,hops,htf,g143]
 skip
 obtain ⟨n,hn⟩:∃ n,n=j+1+1+1+1+1+1+1+1+1+1+1+1+1+1+1+1+1+1:=⟨_,rfl⟩
 rw [<-hn]
 have g144:¬ n=j/\¬ j=n/\¬ n=j+1/\¬ j+1=n:=by and_intros<;>omega
 refine dK 11 [[],[0],[0,1],[0,1,2],[],[4],[0,1,2,3,4,5],[],[7],[0,1,2,3,4,5,6,7,8],[0,1,2,3,4,5,6,7,8],[0,1,2,3,4,5,6,7,8,9,10],[0,1,2,3,4,5,6,7,8,9,10,11],[0,1,2,3,4,5,6,7,8,9,10,11,12]] fun K hK=>?_
 first|dsimp only [List.take,List.drop]|dsimp [List.take,List.drop]
 simp [go_sem,Y8,E7,C0 hz8,B3 hz8,B1 hz8,C4 hz8,B0,C2,E8,C1,g144]
 refine A5 hord ?_
 simp [go_sem,C0 hz8,B3 hz8,B1 hz8,C4 hz8,B0,C2,E8,C1,g144]
 refine A5 (zWv c hc) ?_
 simp [go_sem,C0 hz8,B3 hz8,B1 hz8,C4 hz8,B0,C2,E8,C1,g144,zCz,zdl]
 apply hK
 refine A3 fun K2 hK2=>?_
 refine rG ?_ fun K h=>by simp [go_sem,Y8,E7];exact h
 apply A0
 refine A9 (α:=Nat × Nat) (fun a=>⟨82,[(0,Y8 c.t of ws c.fr vg vcs),(3,.ptr n 0 0),(43,.ro 1 (iVs c.fr)),(44,iV (c.n:Nat)),(45,iV (a.1:Nat))],[(n,.rows 41 [.agg (F7 c (Z2 ord c a.1) (poP c) las0)])]++G s,a.2⟩) (fun a=>a.1<=c.n/\n<a.2) (fun a=>c.n-a.1) (0,n+40) ?_ ?_ ?_
 .exact ⟨Nat.zero_le _,by dsimp only;omega⟩
 .refine Weaker.fzT [_] _ (G s) 0 (by first|omega|(dsimp only;omega)|exact Nat.le_refl _) ?_ ?_ ?_
  .simp [go_sem,Y8,E7,hfl,hcn]
  .first|(simp;done)|(simp;omega)
  simp [go_sem,zKc]
 rintro ⟨i,kk⟩ ⟨hi,hkk⟩
 dsimp only at hi hkk ⊢
 refine rG ?_
 refine A3 fun K3 hK3=>?_
 refine cJ (fun h=>?_) fun h=>?_
 .simp at h
  obtain rfl:i=c.n:=by omega
  clear h
  rw [zPe ord c]
  apply A6
  apply hK2
  refine rE fun K hK=>?_
  simp [go_sem,C0 hz8,B3 hz8,B1 hz8,C4 hz8,B0,C2,E8,C1,g144]
  refine Q7 (A:=[_]) (G:=G s) (hlin _ (by omega) (zXg c) hQ hs (by omega)) fun k2 hk2=>?_
  simp [go_sem]
  apply hK
  refine ⟨.inl rfl,?_⟩
  simp [go_sem]
  first
  | exact ⟨_,_,View.tail [] _ _,rfl,rfl⟩
  | exact ⟨_,_,View.tail [_] _ _,rfl,rfl⟩
  | exact ⟨_,_,View.tail [_,_] _ _,rfl,rfl⟩
  | exact ⟨_,_,View.tail [_,_,_] _ _,rfl,rfl⟩
  | exact ⟨_,_,View.tail [_,_,_,_] _ _,rfl,rfl⟩
  | exact ⟨_,_,View.tail [_,_,_,_,_] _ _,rfl,rfl⟩
 simp at h
 have hin:i<c.n:=by omega
 clear h
 have hw:=wI i
 have g145:(0:Int)<=(i:Nat)/\(i:Int)<(c.fr.length:Nat):=by and_intros<;>omega
 have hiF:i<c.fr.length:=by omega
 obtain ⟨x,hx,hx'⟩:=E0 hiF
 have hxr:=hc.fr1 i x hx
 obtain ⟨lq,⟨o1q,o2q⟩,⟨a1q,a2q,a3q⟩,⟨b1q,b2q,b3q⟩⟩:=opF hc hin
 have g146:((c.op i).1:Int)<(c.t.ths.length:Nat)/\((c.op i).2:Int)<(lq.length:Nat)/\(0:Int)<=((c.op i).1:Nat)/\(0:Int)<=((c.op i).2:Nat)/\(0:Int)<=(i:Nat):=by and_intros<;>omega
 have hcnq:c.ops.length=c.n:=rfl
 have kIq:(i:Int)<(c.n:Nat):=by omega
 have kNq:i<c.n:=hin
 have o3q:(d0 c.ops)[i]?=some (.agg [iV ((c.op i).1:Nat),iV ((c.op i).2:Nat)]):=by rw [O0,o1q];rfl
 apply A1
 apply hK3
 refine A3 fun K4 hK4=>?_
 apply A0
 refine rG ?_ fun K h=>by simp [go_sem,hiF,g145,hx,hx'];exact h
 refine P7 T_ok (by kernel_rfl) 19 [[],[0],[0,1],[0,1,2],[0,1,2,3],[0,1,2,3,4],[0,1,2,3,4,5],[0,1,2],[0,1,2,3,4,5,6,7],[0,1,2,3,4,5,6,7,8],[0,1,2,3,4,5,6,7,8,9],[0,1,2],[0,1,2,11],[0,1,2,11,12],[0,1,2,11,12,13],[0,1,2],[0,1,2,11,12,13,14,15],[0,1,2,11,12,13,14,15,16],[0,1,2,11,12,13,14,15,16,17],[0,1,2,3,4,5,6,7,8,9,10,11,12,13,14,15,16,17,18],[0,1,2,3,4,5,6,7,8,9,10,11,12,13,14,15,16,17,18,19]] [] (by decide) (by decide) (by decide) ⟨82,[(0,Y8 c.t of ws c.fr vg vcs),(3,.ptr n 0 0),(43,.ro 1 (iVs c.fr)),(44,iV (c.n:Nat)),(45,iV (i:Nat)),(4,iV (i:Nat)),(5,iV x),(70,bV (decide (0<=x)&&!decide (((c.op x.toNat).1:Int)=((c.op i).1:Nat))))],[(n,.rows 41 [.agg (F7 c (Z2 ord c i) (poP c) las0)])]++G s,kk+30⟩ ?_ ?_
 .first|dsimp only [List.take,List.drop]|dsimp [List.take,List.drop]
  by_cases c1:0<=x
  .obtain ⟨m,rfl⟩:=Int.eq_ofNat_of_zero_le c1
   have hmn:m<c.n:=by omega
   have hm0:(0:Int)<=(m:Nat):=by omega
   obtain ⟨lk,⟨o1k,o2k⟩,⟨a1k,a2k,a3k⟩,⟨b1k,b2k,b3k⟩⟩:=opF hc hmn
   have g147:((c.op m).1:Int)<(c.t.ths.length:Nat)/\((c.op m).2:Int)<(lk.length:Nat)/\(0:Int)<=((c.op m).1:Nat)/\(0:Int)<=((c.op m).2:Nat)/\(0:Int)<=(m:Nat):=by and_intros<;>omega
   have hcnk:c.ops.length=c.n:=rfl
   have kIk:(m:Int)<(c.n:Nat):=by omega
   have kNk:m<c.n:=hmn
   have o3k:(d0 c.ops)[m]?=some (.agg [iV ((c.op m).1:Nat),iV ((c.op m).2:Nat)]):=by rw [O0,o1k];rfl
   simp [go_sem,c1,Y8,E7,hops,g145,o1q,o2q,o3q,a1q,a2q,a3q,b1q,b2q,b3q,g146,kIq,kNq,hcnq,g144,hm0,o1k,o2k,o3k,a1k,a2k,a3k,b1k,b2k,b3k,g147,kIk,kNk,hcnk]
   first
    | refine Weaker.fzP [] [(n,.rows 41 [.agg (F7 c (Z2 ord c i) (poP c) las0)])] (G s) 1 0 (hV.still s hs 0) (by first|exact Nat.le_refl _|omega|(dsimp only;omega)) ?_ ?_ ?_ ?_
    | refine Weaker.fzP [_] [(n,.rows 41 [.agg (F7 c (Z2 ord c i) (poP c) las0)])] (G s) 1 0 (hV.still s hs 0) (by first|exact Nat.le_refl _|omega|(dsimp only;omega)) ?_ ?_ ?_ ?_
    | refine Weaker.fzP [_,_] [(n,.rows 41 [.agg (F7 c (Z2 ord c i) (poP c) las0)])] (G s) 1 0 (hV.still s hs 0) (by first|exact Nat.le_refl _|omega|(dsimp only;omega)) ?_ ?_ ?_ ?_
    | refine Weaker.fzP [_,_,_] [(n,.rows 41 [.agg (F7 c (Z2 ord c i) (poP c) las0)])] (G s) 1 0 (hV.still s hs 0) (by first|exact Nat.le_refl _|omega|(dsimp only;omega)) ?_ ?_ ?_ ?_
    | refine Weaker.fzP [_,_,_,_] [(n,.rows 41 [.agg (F7 c (Z2 ord c i) (poP c) las0)])] (G s) 1 0 (hV.still s hs 0) (by first|exact Nat.le_refl _|omega|(dsimp only;omega)) ?_ ?_ ?_ ?_
    | refine Weaker.fzP [_,_,_,_,_] [(n,.rows 41 [.agg (F7 c (Z2 ord c i) (poP c) las0)])] (G s) 1 0 (hV.still s hs 0) (by first|exact Nat.le_refl _|omega|(dsimp only;omega)) ?_ ?_ ?_ ?_
    | refine Weaker.fzP [_,_,_,_,_,_] [(n,.rows 41 [.agg (F7 c (Z2 ord c i) (poP c) las0)])] (G s) 1 0 (hV.still s hs 0) (by first|exact Nat.le_refl _|omega|(dsimp only;omega)) ?_ ?_ ?_ ?_
    | refine Weaker.fzP [_,_,_,_,_,_,_] [(n,.rows 41 [.agg (F7 c (Z2 ord c i) (poP c) las0)])] (G s) 1 0 (hV.still s hs 0) (by first|exact Nat.le_refl _|omega|(dsimp only;omega)) ?_ ?_ ?_ ?_
    | refine Weaker.fzP [_,_,_,_,_,_,_,_] [(n,.rows 41 [.agg (F7 c (Z2 ord c i) (poP c) las0)])] (G s) 1 0 (hV.still s hs 0) (by first|exact Nat.le_refl _|omega|(dsimp only;omega)) ?_ ?_ ?_ ?_
    | refine Weaker.fzP [_,_,_,_,_,_,_,_,_] [(n,.rows 41 [.agg (F7 c (Z2 ord c i) (poP c) las0)])] (G s) 1 0 (hV.still s hs 0) (by first|exact Nat.le_refl _|omega|(dsimp only;omega)) ?_ ?_ ?_ ?_
    | refine Weaker.fzP [_,_,_,_,_,_,_,_,_,_] [(n,.rows 41 [.agg (F7 c (Z2 ord c i) (poP c) las0)])] (G s) 1 0 (hV.still s hs 0) (by first|exact Nat.le_refl _|omega|(dsimp only;omega)) ?_ ?_ ?_ ?_
    | refine Weaker.fzP [_,_,_,_,_,_,_,_,_,_,_] [(n,.rows 41 [.agg (F7 c (Z2 ord c i) (poP c) las0)])] (G s) 1 0 (hV.still s hs 0) (by first|exact Nat.le_refl _|omega|(dsimp only;omega)) ?_ ?_ ?_ ?_
    | refine Weaker.fzP [_,_,_,_,_,_,_,_,_,_,_,_] [(n,.rows 41 [.agg (F7 c (Z2 ord c i) (poP c) las0)])] (G s) 1 0 (hV.still s hs 0) (by first|exact Nat.le_refl _|omega|(dsimp only;omega)) ?_ ?_ ?_ ?_
    | refine Weaker.fzP [_,_,_,_,_,_,_,_,_,_,_,_,_] [(n,.rows 41 [.agg (F7 c (Z2 ord c i) (poP c) las0)])] (G s) 1 0 (hV.still s hs 0) (by first|exact Nat.le_refl _|omega|(dsimp only;omega)) ?_ ?_ ?_ ?_
   .simp [go_sem,c1,Y8,E7,W6,hm0,o1k,o2k,o3k,a1k,a2k,a3k,b1k,b2k,b3k,g147,kIk,kNk,hcnk]
   .first|(simp;done)|(simp;omega)
   .first|(simp;done)|(simp;omega)
   simp [go_sem,c1,Y8,E7,W6,hm0,o1k,o2k,o3k,a1k,a2k,a3k,b1k,b2k,b3k,g147,kIk,kNk,hcnk]
  simp [go_sem,c1,Y8,E7,hops,g145,o1q,o2q,o3q,a1q,a2q,a3q,b1q,b2q,b3q,g146,kIq,kNq,hcnq,g144]
  first
   | refine Weaker.fzP [] [(n,.rows 41 [.agg (F7 c (Z2 ord c i) (poP c) las0)])] (G s) 1 0 (hV.still s hs 0) (by first|exact Nat.le_refl _|omega|(dsimp only;omega)) ?_ ?_ ?_ ?_
   | refine Weaker.fzP [_] [(n,.rows 41 [.agg (F7 c (Z2 ord c i) (poP c) las0)])] (G s) 1 0 (hV.still s hs 0) (by first|exact Nat.le_refl _|omega|(dsimp only;omega)) ?_ ?_ ?_ ?_
   | refine Weaker.fzP [_,_] [(n,.rows 41 [.agg (F7 c (Z2 ord c i) (poP c) las0)])] (G s) 1 0 (hV.still s hs 0) (by first|exact Nat.le_refl _|omega|(dsimp only;omega)) ?_ ?_ ?_ ?_
   | refine Weaker.fzP [_,_,_] [(n,.rows 41 [.agg (F7 c (Z2 ord c i) (poP c) las0)])] (G s) 1 0 (hV.still s hs 0) (by first|exact Nat.le_refl _|omega|(dsimp only;omega)) ?_ ?_ ?_ ?_
   | refine Weaker.fzP [_,_,_,_] [(n,.rows 41 [.agg (F7 c (Z2 ord c i) (poP c) las0)])] (G s) 1 0 (hV.still s hs 0) (by first|exact Nat.le_refl _|omega|(dsimp only;omega)) ?_ ?_ ?_ ?_
   | refine Weaker.fzP [_,_,_,_,_] [(n,.rows 41 [.agg (F7 c (Z2 ord c i) (poP c) las0)])] (G s) 1 0 (hV.still s hs 0) (by first|exact Nat.le_refl _|omega|(dsimp only;omega)) ?_ ?_ ?_ ?_
   | refine Weaker.fzP [_,_,_,_,_,_] [(n,.rows 41 [.agg (F7 c (Z2 ord c i) (poP c) las0)])] (G s) 1 0 (hV.still s hs 0) (by first|exact Nat.le_refl _|omega|(dsimp only;omega)) ?_ ?_ ?_ ?_
   | refine Weaker.fzP [_,_,_,_,_,_,_] [(n,.rows 41 [.agg (F7 c (Z2 ord c i) (poP c) las0)])] (G s) 1 0 (hV.still s hs 0) (by first|exact Nat.le_refl _|omega|(dsimp only;omega)) ?_ ?_ ?_ ?_
   | refine Weaker.fzP [_,_,_,_,_,_,_,_] [(n,.rows 41 [.agg (F7 c (Z2 ord c i) (poP c) las0)])] (G s) 1 0 (hV.still s hs 0) (by first|exact Nat.le_refl _|omega|(dsimp only;omega)) ?_ ?_ ?_ ?_
   | refine Weaker.fzP [_,_,_,_,_,_,_,_,_] [(n,.rows 41 [.agg (F7 c (Z2 ord c i) (poP c) las0)])] (G s) 1 0 (hV.still s hs 0) (by first|exact Nat.le_refl _|omega|(dsimp only;omega)) ?_ ?_ ?_ ?_
   | refine Weaker.fzP [_,_,_,_,_,_,_,_,_,_] [(n,.rows 41 [.agg (F7 c (Z2 ord c i) (poP c) las0)])] (G s) 1 0 (hV.still s hs 0) (by first|exact Nat.le_refl _|omega|(dsimp only;omega)) ?_ ?_ ?_ ?_
   | refine Weaker.fzP [_,_,_,_,_,_,_,_,_,_,_] [(n,.rows 41 [.agg (F7 c (Z2 ord c i) (poP c) las0)])] (G s) 1 0 (hV.still s hs 0) (by first|exact Nat.le_refl _|omega|(dsimp only;omega)) ?_ ?_ ?_ ?_
   | refine Weaker.fzP [_,_,_,_,_,_,_,_,_,_,_,_] [(n,.rows 41 [.agg (F7 c (Z2 ord c i) (poP c) las0)])] (G s) 1 0 (hV.still s hs 0) (by first|exact Nat.le_refl _|omega|(dsimp only;omega)) ?_ ?_ ?_ ?_
   | refine Weaker.fzP [_,_,_,_,_,_,_,_,_,_,_,_,_] [(n,.rows 41 [.agg (F7 c (Z2 ord c i) (poP c) las0)])] (G s) 1 0 (hV.still s hs 0) (by first|exact Nat.le_refl _|omega|(dsimp only;omega)) ?_ ?_ ?_ ?_
  .simp [go_sem,c1,Y8,E7,W6]
  .first|(simp;done)|(simp;omega)
  .first|(simp;done)|(simp;omega)
  simp [go_sem,c1,Y8,E7,W6]
 skip
 refine cJ (fun h=>?_) fun h=>?_
 .have hkn:=zXh (ord:=ord) hx hin h
  apply A1
  apply hK4
  refine rF ?_ fun K h=>by simp [go_sem,hw];exact h
  refine ⟨(i+1,kk+60),?_,?_,?_⟩
  .exact ⟨by dsimp only;omega,by dsimp only;omega⟩
  .dsimp only;omega
  refine Weaker.fzT [_] _ (G s) 0 (by first|omega|(dsimp only;omega)) ?_ ?_ ?_
  .simp [go_sem]
  .first|(simp;done)|(simp;omega)
  simp [go_sem,hkn]
 obtain ⟨g1,g2⟩:=Bool.and_eq_true_iff.1 h
 obtain ⟨m,rfl⟩:=Int.eq_ofNat_of_zero_le (of_decide_eq_true g1)
 simp only [Int.toNat_natCast] at g2
 have hky:=zPd (ord:=ord) hx hin g2
 have hm0:(0:Int)<=(m:Nat):=by omega
 have hmn:m<c.n:=by omega
 refine rE fun K hK=>?_
 simp [go_sem,C0 hz8,B3 hz8,B1 hz8,C4 hz8,B0,C2,E8,C1,g144]
 refine A2 (c9 _ _ _) ?_
 simp [go_sem,zCz,C0 hz8,B3 hz8,B1 hz8,C4 hz8,B0,C2,E8,C1,g144]
 apply hK
 apply hK4
 refine rF ?_ fun K h=>by simp [go_sem,hw];exact h
 refine ⟨(i+1,kk+60),?_,?_,?_⟩
 .exact ⟨by dsimp only;omega,by dsimp only;omega⟩
 .dsimp only;omega
 refine Weaker.fzT [_] _ (G s) 0 (by first|omega|(dsimp only;omega)) ?_ ?_ ?_
 .simp [go_sem]
 .first|(simp;done)|(simp;omega)
 simp [go_sem,<-hky]
def YW_ (t:Tst):Prop:=∀ (ws:List Bool) (fr:List Int),ws.length=nO t->fr.length=nO t->(∀ (k:Nat) (x:Int),fr[k]?=some x->-1<=x/\x<nO t)->∀ f,U6 t ws fr=some f->CsOk ⟨t,f,fr⟩/\f.regs.length=t.ths.length
theorem zKe {ord:Cs->Rl} {t:Tst} {ws:List Bool} {fr:List Int} (h:U6 t ws fr=none):Yj_ ord t ws fr=[]:=by unfold Yj_;rw [h]
theorem zKf {ord:Cs->Rl} {t:Tst} {ws:List Bool} {fr:List Int} {f:Os'} (h:U6 t ws fr=some f):Yj_ ord t ws fr=zJe (WU_ ord ⟨t,f,fr⟩) ⟨t,f,fr⟩ t.locs.length 0 las0 p6:=by unfold Yj_;rw [h];rfl
theorem zec {σ : Type} {Q : Rn → Prop} {G : σ → A7} {step : σ → Rn → σ} {ok : σ → Prop} {vg : FuncId} {vcs : List V} {j0 : Nat} (hV : VisOk Q G step ok vg vcs j0) (t : Tst) (hS : SeaOk t) (hK : YW_ t) (of : FuncId) (ord : Cs → Rl) (hord : ∀ c, CsOk c → Pf Tryz.prog of [.rp c.cs 0] (.agg (B5 (ord c)))) (ws : List Bool) (fr : List Int) (hwl : ws.length = nO t) (hfl : fr.length = nO t) (hfr : ∀ (k : Nat) (x : Int), fr[k]? = some x → -1 ≤ x ∧ x < nO t)
    (hQ:∀ r∈Yj_ ord t ws fr,Q r) (s:σ) (hs:ok s) (j:Nat) (hj:j0<=j):Sl.Fn Tryz.prog 177 [Y8 t of ws fr vg vcs] (G s) j fun v H _=>v=.tup []/\H=G ((Yj_ ord t ws fr).foldl step s):=by
  rcases hset:U6 t ws fr with _|f
  . rw [zKe hset]
    exact zXi hV ⟨t,C9 t [] [],fr⟩ hS of ws hwl hfl hfr s hs j hj hset
  rw [zKf hset] at hQ ⊢
  obtain ⟨h1,h2⟩:=hK ws fr hwl hfl hfr f hset
  exact zXj hV ⟨t,f,fr⟩ hS of ws hwl hfl hfr s hs j hj hset h1 h2 ord (hord _ h1) hQ
def zAp (t:Tst) (of:FuncId) (ws:List Bool) (fr:List Int) (vg:FuncId) (vcs:List V) (a:Nat):A7:=[(a+5,.rows 6 [.agg [.rp t.cs 0,.ro 2 (d0 (M5 0 t.ths)),fnV of,.sl a 0 (nO t),.sl (a+3) 0 (nO t),.fn (.func vg) [] vcs]]),(a+3,.rows 1 (iVs fr)),(a,.rows 1 (bVs ws))]
theorem zXk (S:List Nat) (H:A7) (d:Nat) (l:List Int):(iVs l).map (P6 (frz S H d))=iVs l:=by
 unfold iVs
 rw [map_map]
 exact map_congr_left fun x _=>by show P6 (frz S H d) (iV _)=_;simp [P6,go_sem]
theorem zXl (S:List Nat) (H:A7) (d:Nat) (l:List Bool):(bVs l).map (P6 (frz S H d))=bVs l:=by
 unfold bVs
 rw [map_map]
 exact map_congr_left fun x _=>by show P6 (frz S H d) (bV _)=_;simp [P6,go_sem]
theorem zAq {t:Tst} {of:FuncId} {ws:List Bool} {fr:List Int} {vg:FuncId} {vcs:List V} {a:Nat} {G:A7} {S:List Nat} (hS:∀ n∈S,n<a) (hwl:ws.length=nO t) (hfl:fr.length=nO t):frz S (zAp t of ws fr vg vcs a++G) 2 (.ptr (a+5) 0 0)=Y8 t of ws fr vg vcs:=by
 have h2:a+5∉S:=fun h=>by have:=hS _ h;omega
 have h1:a+3∉S:=fun h=>by have:=hS _ h;omega
 have h0:a∉S:=fun h=>by have:=hS _ h;omega
 simp [go_sem,zAp,frz,Sl.look,h2,h1,h0,V.cells,zXk,zXl,Y8,E7,<-hwl]
 rw [if_pos (by omega),take_of_length_le (by omega)]
def Yk_ (ord:Cs->Rl) (t:Tst) (ws:List Bool) (f k:Nat) (p:List Int) (i:Nat):List Rn:=((YU_ t k).take i).flatMap fun x=>(Wc_ t f (k+1) (p++[x])).flatMap (Yj_ ord t ws)
theorem zFa (ord:Cs->Rl) (t:Tst) (ws:List Bool) (f k:Nat) (p:List Int):Yk_ ord t ws f k p 0=[]:=rfl
theorem VK_ {ord:Cs->Rl} {t:Tst} {ws:List Bool} {f k:Nat} {p:List Int} {i:Nat} {x:Int} (h:(YU_ t k)[i]?=some x):Yk_ ord t ws f k p (i+1)=Yk_ ord t ws f k p i++(Wc_ t f (k+1) (p++[x])).flatMap (Yj_ ord t ws):=by
 unfold Yk_
 rw [M1 h,flatMap_append]
 simp
theorem Qy_ (ord:Cs->Rl) (t:Tst) (ws:List Bool) (f k:Nat) (p:List Int):Yk_ ord t ws f k p (YU_ t k).length=(Wc_ t (f+1) k p).flatMap (Yj_ ord t ws):=by
 unfold Yk_
 rw [take_length,Wc_,flatMap_assoc]
theorem Qz_ {ord:Cs->Rl} {t:Tst} {ws:List Bool} {f k:Nat} {p:List Int} {i:Nat} {r:Rn} (h:r∈Yk_ ord t ws f k p i):r∈(Wc_ t (f+1) k p).flatMap (Yj_ ord t ws):=by
 rw [<-Qy_]
 unfold Yk_ at h ⊢
 rw [take_length]
 obtain ⟨x,hx,h⟩:=List.mem_flatMap.1 h
 exact List.mem_flatMap.2 ⟨x,mem_of_mem_take hx,h⟩
theorem zPf {l:List Int} {k:Nat} {x:Int} {p:List Int} (h:l.take k=p) (hk:k<l.length):(l.set k x).take (k+1)=p++[x]:=by
 rw [M1 (show (l.set k x)[k]?=some x by rw [List.getElem?_set_self hk]),take_set_of_le (Nat.le_refl k),h]
theorem zKg {l:List Int} {n:Int} (h:∀ (k:Nat) (x:Int),l[k]?=some x->-1<=x/\x<n) (k:Nat) {y:Int} (h0:-1<=y) (h1:y<n):∀ (q:Nat) (x:Int),(l.set k y)[q]?=some x->-1<=x/\x<n:=fun q x hx=>by
 rw [List.getElem?_set] at hx
 split at hx
 .split at hx
  .cases hx;exact ⟨h0,h1⟩
  cases hx
 exact h q x hx
theorem zPg {t:Tst} {k i:Nat} {x:Int} (h:(YU_ t k)[i]?=some x):-1<=x/\x<nO t:=by
 have hm:=List.mem_of_getElem? h
 unfold YU_ JO_ at hm
 split at hm
 .rcases List.mem_cons.1 hm with rfl|hm
  .exact ⟨by omega,by omega⟩
  obtain ⟨q,hq,rfl⟩:=List.mem_map.1 hm
  have:=List.mem_range.1 (List.mem_filter.1 hq).1
  exact ⟨by omega,by omega⟩
 cases List.mem_singleton.1 hm;exact ⟨by omega,by omega⟩
theorem Vp_ (S:List Nat) (H:A7) (d:Nat) (x:Value):frz S H d (.val x)=.val x:=by cases d<;>rfl
theorem zPh (t:Tst) (k:Nat):(YU_ t k).length<=nO t+1:=by
 unfold YU_
 split
 .exact zCy t k _
 simp
def zXm {σ:Type} (Q:Rn->Prop) (G:σ->A7) (step:σ->Rn->σ) (ok:σ->Prop) (vg:FuncId) (vcs:List V) (j0:Nat) (t:Tst) (of:FuncId) (ord:Cs->Rl) (ws:List Bool) (f:Nat):Prop :=
 ∀ (k:Nat) (fr:List Int) (s:σ) (a j:Nat),k+f=nO t->fr.length=nO t->(∀ (k:Nat) (x:Int),fr[k]?=some x->-1<=x/\x<nO t)->(∀ r∈(Wc_ t f k (fr.take k)).flatMap (Yj_ ord t ws),Q r)->ok s->j0<=a->a+5<j →
  Sl.Fn Tryz.prog 144 [.ptr (a+5) 0 0,iV (k:Nat)] (zAp t of ws fr vg vcs a++G s) j fun v H _=>∃ fr':List Int,(fr'.length=nO t/\fr'.take k=fr.take k/\∀ (k:Nat) (x:Int),fr'[k]?=some x->-1<=x/\x<nO t)/\v=.tup []/\H=zAp t of ws fr' vg vcs a++G (((Wc_ t f k (fr.take k)).flatMap (Yj_ ord t ws)).foldl step s)
theorem zDd {σ:Type} {Q:Rn->Prop} {G:σ->A7} {step:σ->Rn->σ} {ok:σ->Prop} {vg:FuncId} {vcs:List V} {j0:Nat} (hV:VisOk Q G step ok vg vcs j0) (t:Tst) (hS:SeaOk t) (hSO:YW_ t) (of:FuncId) (ord:Cs->Rl) (hord:∀ c,CsOk c->Pf Tryz.prog of [.rp c.cs 0] (.agg (B5 (ord c)))) (ws:List Bool) (hwl:ws.length=nO t) (f:Nat) (ih:∀ g,f=g+1->zXm Q G step ok vg vcs j0 t of ord ws g):zXm Q G step ok vg vcs j0 t of ord ws f:=by
 intro k fr s a j hkf hfl hfr hQ hs ha hj
 have hn8:=hS.n8
 have hk0:(0:Int)<=(k:Nat):=by omega
 have hcn:(M5 0 t.ths).length=nO t:=rfl
 have hgn:=hV.names _ hs
 refine B7 T_ok func144 rfl rfl ntmps144 rfl (by simp) ?_
 refine A3 fun K1 hK1=>?_
 refine rG ?_ fun K h=>by simp [go_sem,zAp];exact h
 refine cK (fun h=>?_) fun h=>?_
 .have hkn:k=nO t:=by have h9:(k:Int)=(nO t:Nat):=(by simpa [hcn] using h);omega
  obtain rfl:f=0:=by omega
  have htk:fr.take k=fr:=take_of_length_le (by omega)
  have hfe:(Wc_ t 0 k (fr.take k)).flatMap (Yj_ ord t ws)=Yj_ ord t ws fr:=by rw [htk];simp [Wc_]
  rw [hfe] at hQ
  refine rK fun K hK=>?_
  simp [go_sem]
  refine Q7 (A:=[]) (G:=zAp t of ws fr vg vcs a++G s) (Fn.lendP 2 (zec hV t hS hSO of ord hord ws fr hwl hfl hfr hQ s hs j (by omega)) (by rw [map_cons,map_nil,zAq (fun n hn=>by obtain ⟨p,hp,rfl⟩:=List.mem_map.1 hn;have:=hgn p hp;omega) hwl hfl]) (hV.plain _ (YD_ hV _ s hs hQ))) fun k2 hk2=>?_
  simp [go_sem]
  apply hK
  refine A4 ?_
  rw [hfe]
  exact ⟨fr,⟨hfl,rfl,hfr⟩,rfl,rfl⟩
 have hkn:¬ k=nO t:=by have h9:¬ (k:Int)=(nO t:Nat):=(by simpa [hcn] using h);omega
 obtain ⟨g,rfl⟩:∃ g,f=g+1:=⟨f-1,by omega⟩
 have hkl:k<nO t:=by omega
 have hkI:(k:Int)<(nO t:Nat):=by omega
 have hwk:=wI k
 apply A1
 apply hK1
 refine A3 fun K2 hK2=>?_
 refine rK fun K hK=>?_
 simp [go_sem]
 refine zC6 (PfF.lendS (ds:=zQt t (fnV of) ws fr) (g:=.func vg) (fs:=[]) (cs:=vcs) (fun x _=>zF8 t hS of ws fr x k hkl) 2 (by have hsf:=zAq (of:=of) (vg:=vg) (vcs:=vcs) (G:=G s) (a:=a) (S:=[]) (fun n h=>nomatch h) hwl hfl;simp only [zAp,cons_append,nil_append] at hsf;simp [hsf,Vp_,Y8,E7,zQt])) ?_
 simp [go_sem]
 apply hK
 apply A0
 refine A9 (α:=Nat × List Int × Nat) (fun b=>⟨41,[(0,.ptr (a+5) 0 0),(1,iV (k:Nat)),(17,.ro 1 (iVs (YU_ t k))),(18,iV ((YU_ t k).length:Nat)),(19,iV (b.1:Nat))],[(a+5,.rows 6 [.agg [.rp t.cs 0,.ro 2 (d0 (M5 0 t.ths)),fnV of,.sl a 0 (nO t),.sl (a+3) 0 (nO t),.fn (.func vg) [] vcs]]),(a+3,.rows 1 (iVs b.2.1)),(a,.rows 1 (bVs ws))]++G ((Yk_ ord t ws g k (fr.take k) b.1).foldl step s),b.2.2⟩) (fun b=>b.1<=(YU_ t k).length/\b.2.1.length=nO t/\b.2.1.take k=fr.take k/\(∀ (k:Nat) (x:Int),b.2.1[k]?=some x->-1<=x/\x<nO t)/\a+5<b.2.2) (fun b=>(YU_ t k).length-b.1) (0,fr,j+40) ?_ ?_ ?_
 .exact ⟨Nat.zero_le _,hfl,rfl,hfr,by dsimp only;omega⟩
 .refine Weaker.fzT [_,_,_] _ (G s) 0 (by first|omega|(dsimp only;omega)|exact Nat.le_refl _) ?_ ?_ ?_
  .simp [go_sem]
  .first|(simp;done)|(simp;omega)
  simp [go_sem,zFa]
 rintro ⟨i,fq,kk⟩ ⟨hi,hql,hqt,hqr,hkk⟩
 dsimp only at hi hql hqt hqr hkk ⊢
 refine rG ?_
 refine A3 fun K3 hK3=>?_
 refine cJ (fun h=>?_) fun h=>?_
 .simp at h
  obtain rfl:i=(YU_ t k).length:=by omega
  clear h
  have hkF:k<fq.length:=by omega
  apply A6
  apply hK2
  refine rF ?_ fun K h=>by simp [go_sem,hkI,hkl,hk0,hql,J4_];exact h
  refine ⟨.inl rfl,?_⟩
  rw [<-Qy_]
  exact ⟨fq.set k (-1),⟨by rw [length_set];exact hql,by rw [take_set_of_le (Nat.le_refl k)];exact hqt,zKg hqr k (by omega) (by omega)⟩,rfl,rfl⟩
 simp at h
 have hin:i<(YU_ t k).length:=by omega
 have hiI:(i:Int)<((YU_ t k).length:Nat):=by omega
 clear h
 have hsn:(YU_ t k).length<=nO t+1:=zPh t k
 have hw:=wI i
 obtain ⟨x,hx,hx'⟩:=E0 hin
 have hi0:(0:Int)<=(i:Nat):=by omega
 have hxr:=zPg hx
 have hsi:=YD_ hV _ s hs (fun r hr=>hQ r (Qz_ (i:=i) hr))
 have htk1:=zPf hqt (show k<fq.length by omega) (x:=x)
 have hst:(Yk_ ord t ws g k (fr.take k) (i+1)).foldl step s=((Wc_ t g (k+1) ((fq.set k x).take (k+1))).flatMap (Yj_ ord t ws)).foldl step ((Yk_ ord t ws g k (fr.take k) i).foldl step s):=by rw [VK_ hx,foldl_append,htk1]
 have hQ2:∀ r∈(Wc_ t g (k+1) ((fq.set k x).take (k+1))).flatMap (Yj_ ord t ws),Q r:=fun r hr=>hQ r (Qz_ (i:=i+1) (by rw [VK_ hx];rw [htk1] at hr;exact List.mem_append.2 (.inr hr)))
 have hre:=ih g rfl (k+1) (fq.set k x) _ a kk (by omega) (by rw [length_set];exact hql) (zKg hqr k hxr.1 hxr.2) hQ2 hsi ha (by omega)
 rw [<-hst] at hre
 have hkF:k<fq.length:=by omega
 apply A1
 apply hK3
 refine A3 fun K4 hK4=>?_
 apply A0
 refine rG ?_ fun K h=>by simp [go_sem,hin,hiI,hx,hx',hi0];exact h
 refine rG ?_ fun K h=>by simp [go_sem,hkI,hkl,hk0,hql,J4_];exact h
 refine rE fun K hK=>?_
 simp [go_sem,hwk]
 refine ZQ_ (I:=fun fr2:List Int=>fr2.length=nO t/\fr2.take (k+1)=(fq.set k x).take (k+1)/\∀ (k:Nat) (x:Int),fr2[k]?=some x->-1<=x/\x<nO t) hre fun k3 f2 hk3 hf=>?_
 obtain ⟨hf1,hf2,hf3⟩:=hf
 have htk2:f2.take k=fr.take k:=by
  have h9:=congrArg (List.take k) hf2
  rw [take_take,take_take,Nat.min_eq_left (Nat.le_succ k),take_set_of_le (Nat.le_refl k)] at h9
  rw [h9];exact hqt
 simp [go_sem]
 apply hK
 apply hK4
 refine rF ?_ fun K h=>by simp [go_sem,hw];exact h
 refine ⟨(i+1,f2,k3),?_,?_,?_⟩
 .exact ⟨by dsimp only;omega,hf1,htk2,hf3,by dsimp only;omega⟩
 .dsimp only;omega
 refine Weaker.fzT [_,_,_] _ (G ((Yk_ ord t ws g k (fr.take k) (i+1)).foldl step s)) 0 (by first|omega|(dsimp only;omega)) ?_ ?_ ?_
 .simp [go_sem]
 .first|(simp;done)|(simp;omega)
 simp [go_sem,zAp]
theorem o0 {ι O w ι' O' w'}:∀ (l:List Value) {xs:List Value},VRels ι O w (l.map V.val) xs->VRels ι' O' w' (l.map V.val) xs
 | [],_,.nil=>.nil
 | v::l,_,.cons h hs=>.cons (by cases h with|val _ h=>exact .val _ h) (o0 l hs)
theorem zKh (x:Ins):J2_ (B6 x):=fun ι O w ι' O' w' cv h=>by
 cases h with
 | agg h=>exact .agg (o0 [_,_,_,_,_,_,_,_,_,_,_,_,_] h)
theorem zed (t:Tst) (hS:SeaOk t) (of:FuncId) (ws:List Bool) (fr:List Int) (vf:Value) (k:Nat) (hk:k<nO t):PfF Tryz.prog 145 [.rp (E7 t (fnV of) ws fr (.val vf)) 0,iV k] (B6 (opX t k)):=.of_pure (L2 t hS of ws fr vf k hk) (zKh _)
theorem zPi {σ:Type} {Q:Rn->Prop} {G:σ->A7} {step:σ->Rn->σ} {ok:σ->Prop} {vg:FuncId} {vcs:List V} {j0:Nat} (hV:VisOk Q G step ok vg vcs j0) (t:Tst) (hS:SeaOk t) (hSO:YW_ t) (of:FuncId) (ord:Cs->Rl) (hord:∀ c,CsOk c->Pf Tryz.prog of [.rp c.cs 0] (.agg (B5 (ord c)))) (ws:List Bool) (hwl:ws.length=nO t):∀ f,zXm Q G step ok vg vcs j0 t of ord ws f:=by
 intro f
 induction f with
 | zero=>exact zDd hV t hS hSO of ord hord ws hwl 0 fun g hg=>nomatch hg
 | succ f ih=>exact zDd hV t hS hSO of ord hord ws hwl (f+1) fun g hg=>by cases hg;exact ih
def Q0_ (ord:Cs->Rl) (t:Tst) (f k:Nat) (ws:List Bool):List Rn:=(zA6 t f k ws).flatMap fun w=>(Wc_ t (nO t) 0 []).flatMap (Yj_ ord t w)
theorem zKi (ord:Cs->Rl) (t:Tst) (k:Nat) (ws:List Bool):Q0_ ord t 0 k ws=(Wc_ t (nO t) 0 []).flatMap (Yj_ ord t ws):=by simp [Q0_,zA6]
theorem zDe {ord:Cs->Rl} {t:Tst} {f k:Nat} {ws:List Bool} (h:(opX t k).op=14):Q0_ ord t (f+1) k ws=Q0_ ord t f (k+1) ws++Q0_ ord t f (k+1) (ws.set k true):=by simp [Q0_,zA6,h]
theorem zKj {ord:Cs->Rl} {t:Tst} {f k:Nat} {ws:List Bool} (h:¬ (opX t k).op=14):Q0_ ord t (f+1) k ws=Q0_ ord t f (k+1) ws:=by simp [Q0_,zA6,h]
theorem zDf (l:List Bool) (k:Nat) (x:Bool):(bVs l).set k (bV x)=bVs (l.set k x):=by unfold bVs;rw [map_set]
theorem zPj {l:List Bool} {k:Nat} (h:l[k]?=some false):(l.set k true).set k false=l:=by
 apply List.ext_getElem?
 intro i
 rw [List.getElem?_set,List.getElem?_set]
 by_cases e:k=i
 .subst e
  obtain ⟨h1,h2⟩:=List.getElem?_eq_some_iff.1 h
  simp [h1,h2]
 simp [e]
theorem zDg {ord:Cs->Rl} {t:Tst} {f k:Nat} {ws:List Bool} {r:Rn} (h:r∈Q0_ ord t f (k+1) ws):r∈Q0_ ord t (f+1) k ws:=by
 by_cases e:(opX t k).op=14
 .rw [zDe e];exact List.mem_append.2 (.inl h)
 rw [zKj e];exact h
def zXn {σ:Type} (Q:Rn->Prop) (G:σ->A7) (step:σ->Rn->σ) (ok:σ->Prop) (vg:FuncId) (vcs:List V) (j0:Nat) (t:Tst) (of:FuncId) (ord:Cs->Rl) (f:Nat):Prop :=
 ∀ (k:Nat) (ws:List Bool) (fr:List Int) (s:σ) (a j:Nat),k+f=nO t->ws.length=nO t->(∀ q,k<=q->q<nO t->ws[q]?=some false)->fr.length=nO t->(∀ (k:Nat) (x:Int),fr[k]?=some x->-1<=x/\x<nO t)->(∀ r∈Q0_ ord t f k ws,Q r)->ok s->j0<=a->a+5<j →
  Sl.Fn Tryz.prog 88 [.ptr (a+5) 0 0,iV (k:Nat)] (zAp t of ws fr vg vcs a++G s) j fun v H _=>∃ fr':List Int,(fr'.length=nO t/\∀ (k:Nat) (x:Int),fr'[k]?=some x->-1<=x/\x<nO t)/\v=.tup []/\H=zAp t of ws fr' vg vcs a++G ((Q0_ ord t f k ws).foldl step s)
theorem VL_ {σ:Type} {Q:Rn->Prop} {G:σ->A7} {step:σ->Rn->σ} {ok:σ->Prop} {vg:FuncId} {vcs:List V} {j0:Nat} (hV:VisOk Q G step ok vg vcs j0) (t:Tst) (hS:SeaOk t) (hSO:YW_ t) (of:FuncId) (ord:Cs->Rl) (hord:∀ c,CsOk c->Pf Tryz.prog of [.rp c.cs 0] (.agg (B5 (ord c)))) (f:Nat) (ih:∀ g,f=g+1->zXn Q G step ok vg vcs j0 t of ord g):zXn Q G step ok vg vcs j0 t of ord f:=by
 intro k ws fr s a j hkf hwl hwf hfl hfr hQ hs ha hj
 have hn8:=hS.n8
 have hk0:(0:Int)<=(k:Nat):=by omega
 have hcn:(M5 0 t.ths).length=nO t:=rfl
 refine B7 T_ok func88 rfl rfl ntmps88 rfl (by simp) ?_
 refine A3 fun K1 hK1=>?_
 refine rG ?_ fun K h=>by simp [go_sem,zAp];exact h
 refine cK (fun h=>?_) fun h=>?_
 .have hkn:k=nO t:=by have h9:(k:Int)=(nO t:Nat):=(by simpa [hcn] using h);omega
  obtain rfl:f=0:=by omega
  have hce:=zKi ord t k ws
  rw [hce] at hQ
  refine rK fun K hK=>?_
  simp [go_sem]
  refine ZQ_ (I:=fun fr2:List Int=>fr2.length=nO t/\fr2.take 0=fr.take 0/\∀ (k:Nat) (x:Int),fr2[k]?=some x->-1<=x/\x<nO t) (zPi hV t hS hSO of ord hord ws hwl (nO t) 0 fr s a j (by omega) hfl hfr hQ hs ha hj) fun k2 f2 hk2 hf=>?_
  obtain ⟨hf1,_,hf3⟩:=hf
  simp [go_sem]
  apply hK
  refine A4 ?_
  rw [hce]
  exact ⟨f2,⟨hf1,hf3⟩,rfl,rfl⟩
 have hkn:¬ k=nO t:=by have h9:¬ (k:Int)=(nO t:Nat):=(by simpa [hcn] using h);omega
 obtain ⟨g,rfl⟩:∃ g,f=g+1:=⟨f-1,by omega⟩
 have hkl:k<nO t:=by omega
 have hkI:(k:Int)<(nO t:Nat):=by omega
 have hwk:=wI k
 have hs1:=YD_ hV _ s hs (fun r hr=>hQ r (zDg (k:=k) hr))
 apply A1
 apply hK1
 refine rK fun K hK=>?_
 simp [go_sem,hwk]
 refine ZQ_ (I:=fun fr2:List Int=>fr2.length=nO t/\∀ (k:Nat) (x:Int),fr2[k]?=some x->-1<=x/\x<nO t) (ih g rfl (k+1) ws fr s a j (by omega) hwl (fun q h1 h2=>hwf q (by omega) h2) hfl hfr (fun r hr=>hQ r (zDg hr)) hs ha hj) fun k2 f2 hk2 hf=>?_
 obtain ⟨hf1,hf3⟩:=hf
 simp [go_sem,zAp]
 apply hK
 refine rK fun K hK=>?_
 simp [go_sem]
 refine zC6 (PfF.lendS (ds:=zQt t (fnV of) ws f2) (g:=.func vg) (fs:=[]) (cs:=vcs) (fun x _=>zed t hS of ws f2 x k hkl) 2 (by have hsf:=zAq (of:=of) (vg:=vg) (vcs:=vcs) (G:=G ((Q0_ ord t g (k+1) ws).foldl step s)) (a:=a) (S:=[]) (fun n h=>nomatch h) hwl hf1;simp only [zAp,cons_append,nil_append] at hsf;simp [hsf,Vp_,Y8,E7,zQt])) ?_
 simp [go_sem,B6]
 apply hK
 refine cJ (fun h=>?_) fun h=>?_
 .have hop:¬ (opX t k).op=14:=by simpa using h
  have hce:=zKj (ord:=ord) (f:=g) (ws:=ws) hop
  apply A1
  refine ⟨.inl rfl,?_⟩
  rw [hce]
  first|exact ⟨f2,⟨hf1,hf3⟩,rfl,rfl⟩|(rw [foldl_append];exact ⟨f3,⟨hg1,hg3⟩,rfl,rfl⟩)
 have hop:(opX t k).op=14:=by simpa using h
 have hce:=zDe (ord:=ord) (f:=g) (ws:=ws) hop
 have hQ3:∀ r∈Q0_ ord t g (k+1) (ws.set k true),Q r:=fun r hr=>hQ r (by rw [hce];exact List.mem_append.2 (.inr hr))
 have hwb:=hwf k (Nat.le_refl k) hkl
 have hb:=zPj hwb
 refine rG ?_ fun K h=>by simp [go_sem,hkI,hkl,hk0,hwl,zDf];exact h
 refine rK fun K hK=>?_
 simp [go_sem,hwk]
 refine ZQ_ (I:=fun fr2:List Int=>fr2.length=nO t/\∀ (k:Nat) (x:Int),fr2[k]?=some x->-1<=x/\x<nO t) (ih g rfl (k+1) (ws.set k true) f2 ((Q0_ ord t g (k+1) ws).foldl step s) a k2 (by omega) (by rw [length_set];exact hwl) (fun q h1 h2=>by rw [List.getElem?_set_ne (by omega)];exact hwf q (by omega) h2) hf1 hf3 hQ3 hs1 ha (by omega)) fun k3 f3 hk3 hf=>?_
 obtain ⟨hg1,hg3⟩:=hf
 simp [go_sem,zAp]
 apply hK
 refine rF ?_ fun K h=>by simp [go_sem,hkI,hkl,hk0,hwl,zDf,hb];exact h
 refine ⟨.inl rfl,?_⟩
 rw [hce]
 first|exact ⟨f2,⟨hf1,hf3⟩,rfl,rfl⟩|(rw [foldl_append];exact ⟨f3,⟨hg1,hg3⟩,rfl,rfl⟩)
theorem zFb {σ:Type} {Q:Rn->Prop} {G:σ->A7} {step:σ->Rn->σ} {ok:σ->Prop} {vg:FuncId} {vcs:List V} {j0:Nat} (hV:VisOk Q G step ok vg vcs j0) (t:Tst) (hS:SeaOk t) (hSO:YW_ t) (of:FuncId) (ord:Cs->Rl) (hord:∀ c,CsOk c->Pf Tryz.prog of [.rp c.cs 0] (.agg (B5 (ord c)))):∀ f,zXn Q G step ok vg vcs j0 t of ord f:=by
 intro f
 induction f with
 | zero=>exact VL_ hV t hS hSO of ord hord 0 fun g hg=>nomatch hg
 | succ f ih=>exact VL_ hV t hS hSO of ord hord (f+1) fun g hg=>by cases hg;exact ih
theorem zKk (ord:Cs->Rl) (t:Tst):Q0_ ord t (nO t) 0 (List.replicate (nO t) false)=O8 ord t:=rfl
theorem zk3 (n:Nat):List.replicate n (V.val (Value.int IntKind.i64 0))=iVs (List.replicate n 0):=by unfold iVs;rw [map_replicate]
theorem zk4 (n:Nat):List.replicate n (V.val (Value.bool false))=bVs (List.replicate n false):=by unfold bVs;rw [map_replicate]
theorem zXo (n:Nat):∀ (q:Nat) (x:Int),(List.replicate n (0:Int))[q]?=some x->-1<=x/\x<n:=fun q x hx=>by
 rw [List.getElem?_replicate] at hx
 split at hx
 .cases hx;exact ⟨by omega,by omega⟩
 cases hx
theorem zKl {σ:Type} {Q:Rn->Prop} {G:σ->A7} {step:σ->Rn->σ} {ok:σ->Prop} {vg:FuncId} {vcs:List V} {j0:Nat} (hV:VisOk Q G step ok vg vcs j0) (t:Tst) (hS:SeaOk t) (hSO:YW_ t) (of:FuncId) (ord:Cs->Rl) (hord:∀ c,CsOk c->Pf Tryz.prog of [.rp c.cs 0] (.agg (B5 (ord c)))) (hQ:∀ r∈O8 ord t,Q r) (s:σ) (hs:ok s) (j:Nat) (hj:j0<=j):Sl.Fn Tryz.prog 37 [.rp t.cs 0,fnV of,.fn (.func vg) [] vcs] (G s) j fun v H _=>v=.tup []/\H=G ((O8 ord t).foldl step s):=by
 refine Fn.view ?_
 have hn8:=hS.n8
 have ht4:=hS.ths
 have hcn:(M5 0 t.ths).length=nO t:=rfl
 have g148:(0:Int)<=(nO t:Nat)/\(8:Int)*(nO t:Nat)<=281474976710656/\((nO t:Nat):Int)<=281474976710656/\((nO t:Nat):Int)<=9223372036854775807:=by and_intros<;>omega
 refine B7 T_ok func37 rfl rfl ntmps37 rfl (by simp) ?_
 refine rK fun K hK=>?_
 simp [go_sem]
 refine A2 (zQe t (by omega) (fun l hl=>by have:=hS.len l hl;omega)) ?_
 simp [go_sem]
 apply hK
 refine R8 T_ok (by kernel_rfl) 10 [[],[],[],[],[3],[3,4],[],[6],[6,7],[],[0,1,2,3,4,5,6,7,8,9],[0,1,2,3,4,5,6,7,8,9,10],[0,1,2,3,4,5,6,7,8,9,10,11]] [(0,5),(1,5),(2,5),(5,6),(5,7),(0,8),(1,8),(2,8),(3,8),(4,8),(5,8),(5,9),(8,9)] (by decide) (by decide) (by decide) fun K hK=>?_
 first|dsimp only [List.take,List.drop]|dsimp [List.take,List.drop]
 simp [go_sem,hcn,g148]
 rw [zk3,zk4]
 apply hK
 refine rE fun K hK=>?_
 simp [go_sem]
 refine ZQ_ (I:=fun fr2:List Int=>fr2.length=nO t/\∀ (k:Nat) (x:Int),fr2[k]?=some x->-1<=x/\x<nO t) (zFb hV t hS hSO of ord hord (nO t) 0 (List.replicate (nO t) false) (List.replicate (nO t) 0) s (j+5) (j+11) (by omega) (by simp) (fun q h1 h2=>by rw [List.getElem?_replicate];simp [h2]) (by simp) (zXo _) hQ hs (by omega) (by omega)) fun k2 f2 hk2 hf=>?_
 simp [go_sem,zAp]
 apply hK
 refine ⟨.inl rfl,?_⟩
 exact ⟨_,_,View.tail [_,_,_] _ _,rfl,by rw [zKk]⟩
theorem P2 {r:Rn} (h:r.st.length=41):(rnC r).length=74:=by unfold rnC;simp [B5,W4,h]
theorem M7 {r:Rn} (h:r.st.length=41):(V.agg (rnC r)).fits 74=true:=by
 rw [C8]
 refine ⟨P2 h,fun x hx=>?_⟩
 have hx:x∈rnC r:=hx
 unfold rnC at hx
 rcases List.mem_cons.1 hx with rfl|hx
 .rfl
 rcases List.mem_append.1 hx with hx|hx
 .obtain ⟨a,_,rfl⟩:=List.mem_map.1 hx;rfl
 rcases List.mem_append.1 hx with hx|hx
 .obtain ⟨a,_,rfl⟩:=List.mem_map.1 hx;rfl
 obtain ⟨v,rfl⟩:=S5 _ _ hx;rfl
theorem zee {r:Rn} (h:r.st.length=41):E5 true 41 (rnC r) 33=.agg (stK r.st):=by
 have e:E5 true 41 (rnC r) 33=.agg (((rnC r).drop 33).take 41):=rfl
 rw [e]
 unfold rnC
 rw [show (33:Nat)=32+1 from rfl,drop_succ_cons,<-append_assoc,drop_left' (by simp [B5]),take_of_length_le (by rw [W4];omega)]
theorem zef (r:Rn) (h41:r.st.length=41) (l:List (List Int)) (hl:∀ q∈l,q.length=41) (p m j:Nat) (hpm:¬ p=m) (hpj:p<j) (hmj:m<j):Sl.Fn Tryz.prog 117 [.agg (rnC r),.ptr p 0 0] [(p,.rows 1 [.map m]),(m,.map (M4 l))] j fun v H _=>v=.tup []/\H=[(p,.rows 1 [.map m]),(m,.map (M4 (if r.st∈l then l else l++[r.st])))]:=by
 refine Fn.view ?_
 have he:E3 [EK.int,EK.int,EK.int,EK.int,EK.int,EK.int,EK.int,EK.int,EK.int,EK.int,EK.int,EK.int,EK.int,EK.int,EK.int,EK.int,EK.int,EK.int,EK.int,EK.int,EK.int,EK.int,EK.int,EK.int,EK.int,EK.int,EK.int,EK.int,EK.int,EK.int,EK.int,EK.int,EK.int,EK.int,EK.int,EK.int,EK.int,EK.int,EK.int,EK.int,EK.int] (stK r.st) (stK r.st)=_:=QU_ h41 h41
 have hi:Us_ [EK.int,EK.int,EK.int,EK.int,EK.int,EK.int,EK.int,EK.int,EK.int,EK.int,EK.int,EK.int,EK.int,EK.int,EK.int,EK.int,EK.int,EK.int,EK.int,EK.int,EK.int,EK.int,EK.int,EK.int,EK.int,EK.int,EK.int,EK.int,EK.int,EK.int,EK.int,EK.int,EK.int,EK.int,EK.int,EK.int,EK.int,EK.int,EK.int,EK.int,EK.int] (stK r.st) (bV true) (M4 l)=_:=Y2_ h41 hl
 have g149:¬ p=m/\¬ m=p/\¬ p=j/\¬ j=p/\¬ m=j/\¬ j=m:=by and_intros<;>omega
 refine B7 T_ok func117 rfl rfl ntmps117 rfl (by simp) ?_
 refine rG ?_ fun K h=>by simp [go_sem,P2 h41,M7 h41];exact h
 refine rF ?_ fun K h=>by simp [go_sem,P2 h41,M7 h41,zee h41,he,hi,g149];exact h
 refine ⟨.inl rfl,?_⟩
 simp [go_sem]
 first
 | exact ⟨_,_,View.tail [] _ _,rfl,rfl⟩
 | exact ⟨_,_,View.tail [_] _ _,rfl,rfl⟩
 | exact ⟨_,_,View.tail [_,_] _ _,rfl,rfl⟩
def zRc (l:List (List Int)) (r:Rn):List (List Int):=if r.st∈l then l else l++[r.st]
def zgi (p m:Nat) (l:List (List Int)):A7:=[(p,.rows 1 [.map m]),(m,.map (M4 l))]
theorem Q1_ (l:List Rn):l.foldl zRc []=zLs l:=rfl
theorem zRd (p m j0:Nat) (hpm:¬ p=m) (hp:p<j0) (hm:m<j0):VisOk (fun r=>r.st.length=41) (zgi p m) zRc (fun l=>∀ q∈l,q.length=41) 117 [.ptr p 0 0] j0 where
 call:=fun s r j hs hq _ _ hj=>zef r hq s hs p m j hpm (by omega) (by omega)
 okS:=fun s r hs hq=>by
  unfold zRc
  split
  .exact hs
  intro q hm
  rcases List.mem_append.1 hm with hm|hm
  .exact hs q hm
  cases List.mem_singleton.1 hm;exact hq
 names:=fun s _ q hq=>by
  rcases List.mem_cons.1 hq with rfl|hq
  .exact hp
  cases List.mem_singleton.1 hq;exact hm
 plain:=fun s _=>by
  have h:(M4 s).all (fun p=>p.1.pureE&&p.2.pureE)=true:=by
   rw [all_eq_true]
   intro q hq
   obtain ⟨k,_,rfl⟩:=List.mem_map.1 hq
   have h2:(stK k).all V.pure1=true:=by
    rw [all_eq_true];intro v hv;obtain ⟨x,rfl⟩:=S5 _ _ hv;rfl
   show ((stK k).all V.pure1&&true)=true
   rw [h2];rfl
  have h2:zC2 (.map (M4 s))=true:=h
  unfold zC3 zgi
  rw [List.all_cons,List.all_cons,h2]
  rfl
 still:=fun s _ d S H q hq=>by
  rcases List.mem_cons.1 hq with rfl|hq
  .cases d<;>rfl
  cases List.mem_singleton.1 hq;rfl
theorem zKm {l:List Rn} (h:∀ r∈l,r.st.length=41):∀ q∈zLs l,q.length=41:=YD_ (zRd 1 0 2 (by decide) (by decide) (by decide)) l [] (fun q h=>nomatch h) h
theorem zFc {l:List (List Int)} (r:Rn) (h:l.Nodup):(zRc l r).Nodup:=by
 unfold zRc
 split
 .exact h
 rename_i hn
 exact List.nodup_append.2 ⟨h,by simp,fun a ha b hb=>by cases List.mem_singleton.1 hb;exact fun e=>hn (e▸ha)⟩
theorem VM_:∀ (l:List Rn) (s:List (List Int)),s.Nodup->(l.foldl zRc s).Nodup
 | [],_,h=>h
 | r::l,s,h=>VM_ l _ (zFc r h)
theorem VN_ (l:List Rn):(zLs l).Nodup:=VM_ l [] nodup_nil
theorem zFd (t:Tst) (hS:SeaOk t) (hSO:YW_ t) (of:FuncId) (ord:Cs->Rl) (hord:∀ c,CsOk c->Pf Tryz.prog of [.rp c.cs 0] (.agg (B5 (ord c)))) (hQ:∀ r∈O8 ord t,r.st.length=41) (hb:(I0 ord t).length<=400000000000):Pf Tryz.prog 61 [.rp t.cs 0,fnV of] (.ro 41 (stR (J4 (I0 ord t)))):=by
 refine Pf.of_fn (.cons (u6 t) (.cons (zQx of) .nil)) (X9_ _) ?_
 have hE1:=zKm hQ
 have hE2:=VN_ (O8 ord t)
 refine B7 T_ok func61 rfl rfl ntmps61 rfl (by simp) ?_
 refine rG ?_
 refine rG ?_
 refine rK fun K hK=>?_
 simp [go_sem]
 refine Q7 (A:=[]) (G:=zgi 1 0 []) (zKl (zRd 1 0 2 (by decide) (by decide) (by decide)) t hS hSO of ord hord hQ [] (fun q h=>nomatch h) 2 (Nat.le_refl _)) fun k2 hk2=>?_
 rw [Q1_]
 simp [go_sem,zgi]
 apply hK
 refine rK fun K hK=>?_
 simp [go_sem]
 refine Jg_ ((of_fn (zLs (O8 ord t)) hE1 hE2 hb 0 k2 (by omega)).frame (G:=[_]) (List.Perm.swap _ _ _) ?_)
 rintro v H' k' hk' ⟨rfl,rfl⟩
 simp [go_sem]
 apply hK
 refine A4 ?_
 simp [go_sem]
 rfl
theorem zAr (t:Tst) (hS:SeaOk t) (hSO:YW_ t) (hord:∀ c,CsOk c->Pf Tryz.prog 38 [.rp c.cs 0] (.agg (B5 (Q9 c)))) (hQ:∀ r∈O8 Q9 t,r.st.length=41) (hb:(I0 Q9 t).length<=400000000000):Pf Tryz.prog 34 [.rp t.cs 0] (.ro 41 (stR (J4 (I0 Q9 t)))):=by
 refine Pf.of_fn (.cons (u6 t) .nil) (X9_ _) ?_
 refine B7 T_ok func34 rfl rfl ntmps34 rfl (by simp) ?_
 refine rG ?_
 refine rK fun K hK=>?_
 simp [go_sem]
 refine A2 (zFd t hS hSO _ Q9 hord hQ hb) ?_
 simp [go_sem]
 apply hK
 refine A4 ?_
 simp [go_sem]
@[go_sem ↓ high] theorem zk5 (o:Option (List Nat)):(onV o).one=true:=ze9 o
section
variable {w:RW} {f:RF} {x:RV}
end
structure RT where
 w:RW
 skip:Int
 k:Nat
section
variable {ops:List XOp} {w:Wk} {v:RW} {x:Ins}
end
structure FSame (f g:Fl) (k:Nat):Prop where
 s:∀ q,q≠k->g.state.getD q 0=f.state.getD q 0
 w:∀ q,q≠k->g.write.getD q zV=f.write.getD q zV
 p:∀ q,q≠k->g.pair.getD q 0=f.pair.getD q 0
 pl:∀ q,q≠k->g.place.getD q 0=f.place.getD q 0
 va:∀ q,q≠k->g.value.getD q 0=f.value.getD q 0
 ph:∀ q,q≠k->g.path.getD q 0=f.path.getD q 0
theorem zRe {α:Type} {l:List α} {k q:Nat} {x d:α} (h:q≠k):(l.set k x).getD q d=l.getD q d:=by rw [r9,if_neg (fun hc=>h hc.1)]
theorem V4 {α:Type} {l:List α} {k:Nat} {x d:α} (h:k<l.length):(l.set k x).getD k d=x:=by rw [r9,if_pos ⟨rfl,h⟩]
theorem zKn (w:Wk) (f:Fl) (x:Ins) (k:Nat) (r:Vl) (b:Bool):FSame f (j7 w f x k r b) k:=by
 unfold j7 N8 u9
 refine ⟨fun q e=>?_,fun q e=>?_,fun q e=>?_,fun q e=>?_,fun q e=>?_,fun q e=>?_⟩ <;>
  (dsimp only;(repeat' split)<;>first|rfl|(simp only [zRe e]))
section
variable {n:Nat} {ops:List XOp} {reads:List Vl} {rds:List RV} {works:List Bool} {x:Ins} {s:Ts} {u:RT} {i:Nat}
end
structure Pw where
 w:Wk
 out:Int
 k:Nat
def S6 (reads:List Vl) (works:List Bool) (i:Nat) (x:Ins) (s:Pw):Pw :=
 if 0<s.out then { w:={ s.w with left:=o64 s.w.left (Z1_ 1 (i:Nat)) },out:=s.out-1,k:=if J8 x then s.k+1 else s.k }
 else if J8 x then { w:=U5 s.w x s.k (reads.getD s.k zV) (works.getD s.k false),out:=s.out,k:=s.k+1 }
 else if JK_ x.op then { s with w:=brW s.w x,out:=brN s.w x }
 else { s with w:=N9 s.w x }
def goB (x:Ins) (s:Pw):Bool:=!(decide (s.out<=0)&&!J8 x&&JK_ x.op&&!brK s.w x)
def v6 (reads:List Vl) (works:List Bool):Nat->List Ins->Pw->Pw × Bool
 | _,[],s=>(s,true)
 | i,x::l,s=>if goB x s then v6 reads works (i+1) l (S6 reads works i x s) else (S6 reads works i x s,false)
def Ts.p (s:Ts):Pw:=⟨s.w,s.out,s.k⟩
theorem zAs (reads:List Vl) (works:List Bool) (i:Nat) (x:Ins) (s:Ts):(stepT reads works i x s).p=S6 reads works i x s.p:=by
 unfold stepT S6 Ts.p
 dsimp only
 split
 .rfl
 split
 .rfl
 split<;>rfl
theorem zXp (x:Ins) (s:Ts):Y0 x s=goB x s.p:=rfl
theorem zRf (reads:List Vl) (works:List Bool):∀ (i:Nat) (l:List Ins) (s:Ts),((runT reads works i l s).1.p,(runT reads works i l s).2)=v6 reads works i l s.p
 | _,[],s=>rfl
 | i,x::l,s=>by
  unfold runT v6
  rw [zXp]
  by_cases h:goB x s.p=true
  .rw [if_pos h,if_pos h,zRf reads works (i+1) l,zAs]
  rw [if_neg h,if_neg h,zAs]
theorem WE_ (reads:List Vl) (works:List Bool):∀ (i:Nat) (l l':List Ins) (s:Pw),v6 reads works i (l++l') s=if (v6 reads works i l s).2 then v6 reads works (i+l.length) l' (v6 reads works i l s).1 else v6 reads works i l s
 | _,[],l',s=>by simp [v6]
 | i,x::l,l',s=>by
  rw [cons_append,v6,v6]
  by_cases h:goB x s=true
  .rw [if_pos h,if_pos h,WE_ reads works (i+1) l l',length_cons,show i+1+l.length=i+(l.length+1) by omega]
  rw [if_neg h,if_neg h];simp
structure Fx where
 st:Int
 wr:Vl
 pr:Int
 pl:Int
 vl:Int
 ph:Int
def fx0:Fx:=⟨0,zV,0,0,0,0⟩
def d9 (f:Fl) (k:Nat):Fx:=⟨f.state.getD k 0,f.write.getD k zV,f.pair.getD k 0,f.place.getD k 0,f.value.getD k 0,f.path.getD k 0⟩
def fxM (w:Wk) (x:Ins) (read:Vl) (works:Bool):Fx :=
  { st:=z7 x works,wr:=(Y1_ w x read works).getD zV,pr:=if x.op=14/\0<w.lr/\w.lrLoc=x.loc then w.lr else 0,
    pl:=if x.op=14/\works=false then 0 else if 0<x.dep then w.hangs (x.dep-1).toNat else 0,vl:=if (Y1_ w x read works).isSome then o6 w x.aR x.aN else 0,ph:=if x.op=14/\works=false then 0 else w.path }
def fxP (reads:List Vl) (works:List Bool) (s:Pw) (x:Ins):Fx:=if 0<s.out then { fx0 with st:=2 } else fxM s.w x (reads.getD s.k zV) (works.getD s.k false)
theorem UQ_ (n k:Nat):d9 (f0 n) k=fx0:=by
 unfold d9 f0 fx0
 simp only [List.getD,List.getElem?_replicate]
 split<;>rfl
theorem zPk {n:Nat} {w:Wk} {f:Fl} {x:Ins} {k:Nat} {read:Vl} {works:Bool} (ok:FlOk n f) (hk:k<n) (h0:d9 f k=fx0):d9 (j7 w f x k read works) k=fxM w x read works:=by
 obtain ⟨l1,l2,l3,l4,l5,l6⟩:=ok
 simp only [d9,fx0,Fx.mk.injEq] at h0
 obtain ⟨z1,z2,z3,z4,z5,z6⟩:=h0
 have e1:(j7 w f x k read works).state.getD k 0=z7 x works:=by rw [zEq];exact V4 (by omega)
 have e2:(j7 w f x k read works).write.getD k zV=(Y1_ w x read works).getD zV:=by
  rw [zEr]
  cases Y1_ w x read works with
  | none=>exact z2
  | some u=>exact V4 (by omega)
 simp only [d9,fxM,Fx.mk.injEq]
 have p3:f.pair.length=n:=l3
 refine ⟨e1,e2,?_⟩
 have hpl:∀ d:List Int,d.length=n->d.getD k 0=0->(if 0<x.dep then d.set k (w.hangs (x.dep-1).toNat) else d).getD k 0=if 0<x.dep then w.hangs (x.dep-1).toNat else 0:=fun d hd h=>by
  split
  .exact V4 (by omega)
  exact h
 by_cases h1:x.op=10\/x.op=11
 .have h14:¬ x.op=14:=by omega
  simp only [j7,N8,Y1_,h1,h14,if_true,if_false,false_and,Option.isSome_some]
  exact ⟨z3,hpl _ l4 z4,V4 (by omega),V4 (by omega)⟩
 by_cases h2:x.op=12
 .have h14:¬ x.op=14:=by omega
  simp only [j7,N8,Y1_,h1,h2,h14,if_true,if_false,false_and,Option.isSome_some]
  exact ⟨z3,hpl _ l4 z4,V4 (by omega),V4 (by omega)⟩
 by_cases h3:x.op=14
 .have hpr:(if 0<w.lr/\w.lrLoc=x.loc then f.pair.set k w.lr else f.pair).getD k 0=if 0<w.lr/\w.lrLoc=x.loc then w.lr else 0:=by
   split
   .exact V4 (by omega)
   exact z3
  have hl:(if 0<x.dep then f.place.set k (w.hangs (x.dep-1).toNat) else f.place).length=n:=by
   split
   .simp;omega
   omega
  cases works
  .simp only [j7,N8,Y1_,u9,h1,h2,h3,if_true,if_false,true_and,and_true,Option.isSome_none,Bool.false_eq_true,and_false]
   exact ⟨hpr,V4 (by omega),z5,V4 (by simp;omega)⟩
  simp only [j7,N8,Y1_,u9,h1,h2,h3,if_true,if_false,true_and,and_true,Option.isSome_some,Bool.true_eq_false,and_false]
  exact ⟨hpr,hpl _ l4 z4,V4 (by omega),V4 (by omega)⟩
 simp only [j7,N8,Y1_,h1,h2,h3,if_false,false_and,Option.isSome_none,Bool.false_eq_true]
 exact ⟨z3,hpl _ l4 z4,z5,V4 (by omega)⟩
theorem zKo {f g:Fl} {k q:Nat} (h:FSame f g k) (hq:q≠k):d9 g q=d9 f q:=by
 obtain ⟨h1,h2,h3,h4,h5,h6⟩:=h
 simp only [d9,Fx.mk.injEq]
 exact ⟨h1 q hq,h2 q hq,h3 q hq,h4 q hq,h5 q hq,h6 q hq⟩
section
variable {reads:List Vl} {works:List Bool}
theorem zXq {i:Nat} {x:Ins} {s:Pw}:(S6 reads works i x s).k=s.k+if J8 x then 1 else 0:=by
 unfold S6
 split
 .dsimp only;split<;>rfl
 split
 .rename_i h;simp [h]
 rename_i h;split<;>simp [h]
theorem zRg:∀ (l:List Ins) (i:Nat) (s:Pw),(v6 reads works i l s).2=true->(v6 reads works i l s).1.k=s.k+L5 l
 | [],i,s,_=>rfl
 | x::l,i,s,h=>by
  rw [v6] at h ⊢
  by_cases hg:goB x s=true
  .rw [if_pos hg] at h ⊢
   rw [zRg l _ _ h,zXq,L1];omega
  rw [if_neg hg] at h;cases h
theorem zFe {n i : Nat} {x : Ins} {s : Ts} (ok : FlOk n s.f) (hk : J8 x = true → s.k < n) (h0 : J8 x = true → d9 s.f s.k = fx0) :
    (∀ q,q≠s.k->d9 (stepT reads works i x s).f q=d9 s.f q)/\(J8 x=true->d9 (stepT reads works i x s).f s.k=fxP reads works s.p x)/\(J8 x=false->(stepT reads works i x s).f=s.f):=by
  unfold stepT fxP
  by_cases ho:0<s.out
  . rw [if_pos ho,if_pos (show 0<s.p.out from ho)]
    dsimp only
    by_cases hm:J8 x=true
    . simp only [hm,if_true]
      have hk:=hk hm
      have h0:=h0 hm
      refine ⟨fun q hq=>?_,fun _=>?_,fun h=>by cases h⟩
      . simp only [d9,Fx.mk.injEq,and_self,and_true];exact zRe hq
      simp only [d9,fx0,Fx.mk.injEq] at h0 ⊢
      exact ⟨V4 (by have:=ok.l1;omega),h0.2⟩
    rw [Bool.not_eq_true] at hm
    simp only [hm,Bool.false_eq_true,if_false]
    exact ⟨fun _ _=>trivial,fun h=>h.elim,fun _=>trivial⟩
  rw [if_neg ho,if_neg (show ¬ 0<s.p.out from ho)]
  by_cases hm:J8 x=true
  . simp only [hm,if_true]
    exact ⟨fun q hq=>zKo (zKn _ _ _ _ _ _) hq,fun _=>zPk ok (hk hm) (h0 hm),fun h=>by cases h⟩
  rw [Bool.not_eq_true] at hm
  simp only [hm,Bool.false_eq_true,if_false]
  refine ⟨fun q _=>?_,fun h=>h.elim,fun _=>?_⟩<;>split<;>rfl
theorem zFf {i:Nat} {x:Ins} {s:Ts} (h:Y0 x s=false):J8 x=false/\(stepT reads works i x s).f=s.f:=by
 unfold Y0 at h
 simp only [Bool.not_eq_false',Bool.and_eq_true,decide_eq_true_eq,Bool.not_eq_true'] at h
 obtain ⟨⟨⟨h1,h2⟩,h3⟩,h4⟩:=h
 refine ⟨h2,?_⟩
 unfold stepT
 rw [if_neg (by omega),h2]
 simp [h3]
theorem VO_ {n : Nat} : ∀ (l : List Ins) (i : Nat) (s : Ts), FlOk n s.f → s.k + L5 l ≤ n → (∀ q, s.k ≤ q → q < n → d9 s.f q = fx0) →
    (∀ q,q<s.k\/s.k+L5 l<=q->d9 (runT reads works i l s).1.f q=d9 s.f q) ∧
    (∀ b x,l[b]?=some x->J8 x=true->d9 (runT reads works i l s).1.f (s.k+L5 (l.take b))=if (v6 reads works i (l.take b) s.p).2 then fxP reads works (v6 reads works i (l.take b) s.p).1 x else fx0)
  | [],i,s,ok,hk,hz=>⟨fun q _=>rfl,fun b x h=>by simp at h⟩
  | y::l,i,s,ok,hk,hz=>by
    rw [L1] at hk
    have hkm:J8 y=true->s.k<n:=fun h=>by simp [h] at hk;omega
    obtain ⟨e1,e2,e3⟩:=zFe (reads:=reads) (works:=works) (i:=i) ok hkm fun h=>hz s.k (Nat.le_refl _) (hkm h)
    have ek:(stepT reads works i y s).k=s.k+if J8 y then 1 else 0:=zO1
    by_cases hb:Y0 y s=true
    . have hr:runT reads works i (y::l) s=runT reads works (i+1) l (stepT reads works i y s):=by rw [runT,if_pos hb]
      have eo:∀ q,q≠s.k\/J8 y=false->d9 (stepT reads works i y s).f q=d9 s.f q:=fun q hq=>by
        rcases hq with hq|hq
        . exact e1 q hq
        rw [e3 hq]
      obtain ⟨i1,i2⟩:=VO_ l (i+1) (stepT reads works i y s) (Yz_ ok) (by rw [ek];omega) fun q h1 h2=>by
        rw [ek] at h1
        by_cases hm:J8 y=true
        . rw [eo q (.inl (by simp [hm] at h1;omega))];exact hz q (by omega) h2
        rw [eo q (.inr (by simpa using hm))];exact hz q (by omega) h2
      rw [ek] at i1 i2
      refine ⟨fun q hq=>?_,fun b x hx hm=>?_⟩
      . rw [hr,L1] at *
        by_cases hm:J8 y=true
        . simp only [hm,if_true] at i1 hq
          rw [i1 q (by omega),eo q (.inl (by omega))]
        simp only [hm,Bool.false_eq_true,if_false] at i1 hq
        rw [i1 q (by omega),eo q (.inr (by simpa using hm))]
      rw [hr]
      cases b with
      | zero =>
        simp only [List.getElem?_cons_zero,Option.some.injEq] at hx
        subst hx
        rw [take_zero,show L5 []=0 from rfl]
        show d9 _ s.k=_
        rw [i1 s.k (.inl (by simp [hm])),e2 hm]
        rfl
      | succ b =>
        have hx:l[b]?=some x:=by simpa using hx
        have hg:goB y s.p=true:=hb
        have:=i2 b x hx hm
        rw [take_succ_cons,L1,<-Nat.add_assoc,this,v6,if_pos hg,zAs]
    have hb:Y0 y s=false:=by simpa using hb
    obtain ⟨hm0,hs⟩:=zFf (reads:=reads) (works:=works) (i:=i) hb
    have hr:runT reads works i (y::l) s=(stepT reads works i y s,false):=by rw [runT,if_neg (by simp [hb])]
    rw [hr]
    refine ⟨fun q _=>by rw [hs],fun b x hx hm=>?_⟩
    cases b with
    | zero =>
      simp only [List.getElem?_cons_zero,Option.some.injEq] at hx
      subst hx;rw [hm0] at hm;cases hm
    | succ b =>
      have hx:l[b]?=some x:=by simpa using hx
      have hg:goB y s.p=false:=hb
      rw [take_succ_cons,v6,if_neg (by simp [hg])]
      show d9 (stepT reads works i y s).f _=fx0
      rw [hs]
      refine hz _ (by omega) ?_
      have h1:L5 (y::l.take b)+1<=L5 (y::l):=by
        have h2:=o8 hx
        rw [hm] at h2
        have h3:L5 (l.take (b+1))<=L5 l:=by
          unfold L5;exact List.Sublist.countP_le (take_sublist _ _)
        rw [L1,L1]
        simp at h2;omega
      rw [L1] at h1 ⊢
      rw [L1] at h1
      omega
end
def kOf (t:List (List Ins)) (i:Nat):Nat:=((t.take i).map L5).sum
theorem s8 (l:List Ins) (r:List (List Ins)) (i:Nat):kOf (l::r) (i+1)=L5 l+kOf r i:=by simp [kOf]
def pw0 (k:Nat):Pw:=⟨w0,0,k⟩
def F1 (t:Tst) (reads:List Vl) (works:List Bool) (i b:Nat):Pw × Bool:=v6 reads works 0 ((lth t i).take b) (pw0 (kOf t.ths i))
section
variable {reads:List Vl} {works:List Bool}
theorem Z0 {n : Nat} : ∀ (ls : List (List Ins)) (s : Os'), FlOk n s.f → s.k + (ls.map L5).sum ≤ n → (∀ q, s.k ≤ q → q < n → d9 s.f q = fx0) →
    (∀ q,q<s.k->d9 (Xp_ reads works ls s).f q=d9 s.f q) ∧
    (∀ i l,ls[i]?=some l->∀ b x,l[b]?=some x->J8 x=true->d9 (Xp_ reads works ls s).f (s.k+kOf ls i+L5 (l.take b)) =
      if (v6 reads works 0 (l.take b) (pw0 (s.k+kOf ls i))).2 then fxP reads works (v6 reads works 0 (l.take b) (pw0 (s.k+kOf ls i))).1 x else fx0) ∧
    (Xp_ reads works ls s).regs.length=s.regs.length+ls.length/\(Xp_ reads works ls s).left.length=s.left.length+ls.length ∧
    (∀ i,i<s.regs.length->(Xp_ reads works ls s).regs[i]?=s.regs[i]?)/\(∀ i,i<s.left.length->(Xp_ reads works ls s).left[i]?=s.left[i]?) ∧
    (∀ i l,ls[i]?=some l->(Xp_ reads works ls s).regs[s.regs.length+i]?=some (v6 reads works 0 l (pw0 (s.k+kOf ls i))).1.w.regs/\(Xp_ reads works ls s).left[s.left.length+i]?=some (v6 reads works 0 l (pw0 (s.k+kOf ls i))).1.w.left) ∧
    ((Xp_ reads works ls s).whole=true↔s.whole=true/\∀ i l,ls[i]?=some l->(v6 reads works 0 l (pw0 (s.k+kOf ls i))).2=true/\zYy (v6 reads works 0 l (pw0 (s.k+kOf ls i))).1.w.regs=true)
  | [],s,ok,hk,hz=>⟨fun q _=>rfl,fun i l h=>by simp at h,rfl,rfl,fun _ _=>rfl,fun _ _=>rfl,fun i l h=>by simp at h,by simp [Xp_]⟩
  | l::r,s,ok,hk,hz=>by
    rw [map_cons,sum_cons] at hk
    have hp:(⟨w0,s.f,0,s.k⟩:Ts).p=pw0 s.k:=rfl
    have hrT:=zRf reads works 0 l ⟨w0,s.f,0,s.k⟩
    rw [hp] at hrT
    have hr1:(runT reads works 0 l ⟨w0,s.f,0,s.k⟩).1.w=(v6 reads works 0 l (pw0 s.k)).1.w:=by rw [<-hrT];rfl
    have hr2:(runT reads works 0 l ⟨w0,s.f,0,s.k⟩).2=(v6 reads works 0 l (pw0 s.k)).2:=by rw [<-hrT]
    obtain ⟨f1,f2⟩:=VO_ (n:=n) (reads:=reads) (works:=works) l 0 ⟨w0,s.f,0,s.k⟩ ok (by dsimp only;omega) hz
    rw [hp] at f2
    dsimp only at f1 f2
    have ok2:FlOk n (ZS_ reads works l s).f:=Y0_ ok
    have ek:(ZS_ reads works l s).k=s.k+L5 l:=rfl
    have ef:(ZS_ reads works l s).f=(runT reads works 0 l ⟨w0,s.f,0,s.k⟩).1.f:=rfl
    obtain ⟨g1,g2,g3,g4,g5,g6,g7,g8⟩:=Z0 (n:=n) r (ZS_ reads works l s) ok2 (by rw [ek];omega) fun q h1 h2=>by
      rw [ek] at h1
      rw [ef,f1 q (by omega)];exact hz q (by omega) h2
    have hlr:(ZS_ reads works l s).regs=s.regs++[(v6 reads works 0 l (pw0 s.k)).1.w.regs]:=by rw [<-hr1];rfl
    have hll:(ZS_ reads works l s).left=s.left++[(v6 reads works 0 l (pw0 s.k)).1.w.left]:=by rw [<-hr1];rfl
    have hlw:(ZS_ reads works l s).whole=(s.whole&&(v6 reads works 0 l (pw0 s.k)).2&&zYy (v6 reads works 0 l (pw0 s.k)).1.w.regs):=by rw [<-hr1,<-hr2];rfl
    rw [ek] at g2 g7 g8
    have e0:kOf (l::r) 0=0:=rfl
    have hro:Xp_ reads works (l::r) s=Xp_ reads works r (ZS_ reads works l s):=rfl
    rw [hro]
    refine ⟨fun q hq=>?_,fun i y hy b x hx hm=>?_,?_,?_,fun i hi=>?_,fun i hi=>?_,fun i y hy=>?_,?_⟩
    . rw [g1 q (by rw [ek];omega),ef,f1 q (by omega)]
    . cases i with
      | zero =>
        simp only [List.getElem?_cons_zero,Option.some.injEq] at hy
        subst hy
        rw [e0,Nat.add_zero]
        have h1:L5 (l.take b)+1<=L5 l:=by
          have h2:=o8 hx
          rw [hm] at h2
          have h3:L5 (l.take (b+1))<=L5 l:=by unfold L5;exact List.Sublist.countP_le (take_sublist _ _)
          simp at h2;omega
        rw [g1 _ (by rw [ek];omega),ef,f2 b x hx hm]
      | succ i =>
        have hy:r[i]?=some y:=by simpa using hy
        rw [s8,<-Nat.add_assoc,g2 i y hy b x hx hm]
    . rw [g3,hlr];simp;omega
    . rw [g4,hll];simp;omega
    . rw [g5 i (by rw [hlr];simp;omega),hlr,List.getElem?_append_left hi]
    . rw [g6 i (by rw [hll];simp;omega),hll,List.getElem?_append_left hi]
    . cases i with
      | zero =>
        simp only [List.getElem?_cons_zero,Option.some.injEq] at hy
        subst hy
        rw [e0,Nat.add_zero,Nat.add_zero,Nat.add_zero,g5 _ (by rw [hlr];simp),g6 _ (by rw [hll];simp),hlr,hll]
        simp
      | succ i =>
        have hy:r[i]?=some y:=by simpa using hy
        have:=g7 i y hy
        rw [hlr,hll,length_append,length_append] at this
        rw [s8,<-Nat.add_assoc]
        simpa [Nat.add_assoc,Nat.add_comm 1 i] using this
    rw [g8,hlw]
    simp only [Bool.and_eq_true]
    constructor
    . rintro ⟨⟨⟨a1,a2⟩,a3⟩,a4⟩
      refine ⟨a1,fun i y hy=>?_⟩
      cases i with
      | zero =>
        simp only [List.getElem?_cons_zero,Option.some.injEq] at hy
        subst hy
        rw [e0,Nat.add_zero];exact ⟨a2,a3⟩
      | succ i =>
        rw [s8,<-Nat.add_assoc];exact a4 i y (by simpa using hy)
    rintro ⟨a1,a2⟩
    have b0:=a2 0 l rfl
    rw [e0,Nat.add_zero] at b0
    refine ⟨⟨⟨a1,b0.1⟩,b0.2⟩,fun i y hy=>?_⟩
    have:=a2 (i+1) y (by simpa using hy)
    rwa [s8,<-Nat.add_assoc] at this
end
theorem zRh {t:Tst} {i:Nat} {l:List Ins} (h:t.ths[i]?=some l):lth t i=l:=by unfold lth;rw [List.getD,h];rfl
theorem zFg (t : Tst) (reads : List Vl) (works : List Bool) {i b : Nat} {x : Ins} (hx : (lth t i)[b]? = some x) (hm : J8 x = true) :
    d9 (C9 t reads works).f (kOf t.ths i+L5 ((lth t i).take b))=if (F1 t reads works i b).2 then fxP reads works (F1 t reads works i b).1 x else fx0:=by
  have hi:t.ths[i]?=some (lth t i):=by
    unfold lth at hx ⊢
    cases h:t.ths[i]? with
    | none=>rw [List.getD,h] at hx;simp at hx
    | some l=>simp [List.getD,h]
  have h:=(Z0 (reads:=reads) (works:=works) (n:=Zw_ t) t.ths { f:=f0 (Zw_ t),left:=[],regs:=[],whole:=true,k:=0 } (J8_ _) (by dsimp only;unfold Zw_;omega) fun q _ _=>UQ_ _ _).2.1 i _ hi b x hx hm
  simp only [Nat.zero_add] at h
  exact h
theorem p7 (t : Tst) (reads : List Vl) (works : List Bool) {i : Nat} (hi : i < t.ths.length) :
    (C9 t reads works).regs[i]?=some (F1 t reads works i (lth t i).length).1.w.regs/\(C9 t reads works).left[i]?=some (F1 t reads works i (lth t i).length).1.w.left:=by
  have hi:t.ths[i]?=some (lth t i):=by unfold lth;rw [List.getD,List.getElem?_eq_getElem hi];rfl
  have h:=(Z0 (reads:=reads) (works:=works) (n:=Zw_ t) t.ths { f:=f0 (Zw_ t),left:=[],regs:=[],whole:=true,k:=0 } (J8_ _) (by dsimp only;unfold Zw_;omega) fun q _ _=>UQ_ _ _).2.2.2.2.2.2.1 i _ hi
  simp only [Nat.zero_add,length_nil] at h
  unfold F1
  rw [take_length]
  exact h
theorem Zm_ (t:Tst) (reads:List Vl) (works:List Bool):(C9 t reads works).regs.length=t.ths.length/\(C9 t reads works).left.length=t.ths.length:=by
 have h:=(Z0 (reads:=reads) (works:=works) (n:=Zw_ t) t.ths { f:=f0 (Zw_ t),left:=[],regs:=[],whole:=true,k:=0 } (J8_ _) (by dsimp only;unfold Zw_;omega) fun q _ _=>UQ_ _ _)
 have h1:=h.2.2.1
 have h2:=h.2.2.2.1
 simp only [length_nil,Nat.zero_add] at h1 h2
 exact ⟨h1,h2⟩
theorem s9 (t:Tst) (reads:List Vl) (works:List Bool):(C9 t reads works).whole=true↔∀ i,i<t.ths.length->(F1 t reads works i (lth t i).length).2=true/\zYy (F1 t reads works i (lth t i).length).1.w.regs=true:=by
 have h:=(Z0 (reads:=reads) (works:=works) (n:=Zw_ t) t.ths { f:=f0 (Zw_ t),left:=[],regs:=[],whole:=true,k:=0 } (J8_ _) (by dsimp only;unfold Zw_;omega) fun q _ _=>UQ_ _ _).2.2.2.2.2.2.2
 simp only [Nat.zero_add,true_and] at h
 refine h.trans ⟨fun a i hi=>?_,fun a i l hl=>?_⟩
 .have:=a i (lth t i) (by unfold lth;rw [List.getD,List.getElem?_eq_getElem hi];rfl)
  unfold F1;rw [take_length];exact this
 have:=a i (List.getElem?_eq_some_iff.1 hl).1
 unfold F1 at this;rw [take_length,zRh hl] at this;exact this
theorem zDh {th:Nat}:∀ (l:List Ins) (j k:Nat) (p:Nat × Nat),(Yh_ th j l)[k]?=some p->j<=p.2/\k=L5 (l.take (p.2-j))
 | [],j,k,p,h=>by simp [Yh_] at h
 | x::l,j,k,p,h=>by
  have next:∀ k,(Yh_ th (j+1) l)[k]?=some p->j<=p.2/\k+(if J8 x then 1 else 0)=L5 ((x::l).take (p.2-j)):=fun k h=>by
   obtain ⟨h1,h2⟩:=zDh l (j+1) k p h
   refine ⟨by omega,?_⟩
   rw [show p.2-j=(p.2-(j+1))+1 by omega,take_succ_cons,L1,h2];omega
  rw [Yh_] at h
  by_cases hm:J8 x=true
  .rw [if_pos hm] at h
   cases k with
   | zero =>
    simp only [List.getElem?_cons_zero,Option.some.injEq] at h
    subst h
    simp [L5]
   | succ k =>
    have:=next k (by simpa using h)
    rw [if_pos hm] at this;exact this
  rw [if_neg hm] at h
  have:=next k h
  rwa [if_neg hm,Nat.add_zero] at this
theorem zDi:∀ (t:List (List Ins)) (j k:Nat) (p:Nat × Nat),(M5 j t)[k]?=some p->j<=p.1/\k=kOf t (p.1-j)+L5 ((t.getD (p.1-j) []).take p.2)
 | [],j,k,p,h=>by simp [M5] at h
 | l::r,j,k,p,h=>by
  rw [M5,List.getElem?_append] at h
  split at h
  .rename_i hk
   have h1:=(V2_ (List.mem_of_getElem? h)).1
   obtain ⟨_,h3⟩:=zDh l 0 k p h
   refine ⟨by omega,?_⟩
   rw [show p.1-j=0 by omega]
   simp only [kOf,take_zero,map_nil,sum_nil,getD_cons_zero,Nat.zero_add]
   simpa using h3
  rename_i hk
  obtain ⟨h1,h2⟩:=zDi r (j+1) _ p h
  rw [d6] at h2 hk
  refine ⟨by omega,?_⟩
  rw [show p.1-j=(p.1-(j+1))+1 by omega,s8,getD_cons_succ]
  omega
theorem zeg {t:Tst} {k:Nat} (hk:k<nO t):k=kOf t.ths ((M5 0 t.ths).getD k (0,0)).1+L5 ((lth t ((M5 0 t.ths).getD k (0,0)).1).take ((M5 0 t.ths).getD k (0,0)).2):=by
 have h:(M5 0 t.ths)[k]?=some ((M5 0 t.ths).getD k (0,0)):=by rw [List.getD,List.getElem?_eq_getElem hk];rfl
 have:=(zDi t.ths 0 k _ h).2
 simpa [lth] using this
def U64 (m:Int):Prop:=0<=m/\m<18446744073709551616
theorem Q2_ (q:Nat):R7 0 q=false:=by simp [R7]
theorem L9:U64 0:=⟨by omega,by omega⟩
theorem O5 {a b:Int} (ha:U64 a) (hb:U64 b):U64 (o64 a b)/\∀ q,R7 (o64 a b) q=(R7 a q||R7 b q):=by
 obtain ⟨m,rfl⟩:=Int.eq_ofNat_of_zero_le ha.1
 obtain ⟨n,rfl⟩:=Int.eq_ofNat_of_zero_le hb.1
 have h1:m<2 ^ 64:=by have:=ha.2;omega
 have h2:n<2 ^ 64:=by have:=hb.2;omega
 rw [zVe (by omega) (by omega)]
 have:=Nat.or_lt_two_pow h1 h2
 exact ⟨⟨by omega,by omega⟩,fun q=>by simp [R7,Nat.testBit_or]⟩
theorem Zn_ {k:Nat} (hk:k<64):U64 (Z1_ 1 (k:Nat))/\∀ q,R7 (Z1_ 1 (k:Nat)) q=decide (k=q):=by
 have h:Z1_ 1 (k:Nat)=((2 ^ k:Nat):Int):=by
  have:=zO4 (a:=1) hk
  rw [show ((1:Nat):Int)=1 from rfl] at this
  rw [this,Nat.shiftLeft_eq,Nat.one_mul]
  have h2:2 ^ k<2 ^ 64:=Nat.pow_lt_pow_right (by omega) hk
  rw [Nat.mod_eq_of_lt (by omega)]
 rw [h]
 have h2:2 ^ k<2 ^ 64:=Nat.pow_lt_pow_right (by omega) hk
 have h3:0<2 ^ k:=Nat.two_pow_pos k
 exact ⟨⟨by omega,by omega⟩,fun q=>by unfold R7;rw [Int.toNat_natCast];exact Nat.testBit_two_pow⟩
structure Wu (w:Wk):Prop where
 hangs:∀ x,U64 (w.hangs x)
 path:U64 w.path
theorem WF_ {w:Wk} (h:Wu w) (rd:Int) (v:Vl) {on:Int} (ho:U64 on):Wu (QO_ w rd v on):=⟨fun x=>by
 show U64 (if x=rd.toNat then on else w.hangs x)
 split
 .exact ho
 exact h.hangs x,h.path⟩
theorem Q8 {w:Wk} (h:Wu w) (b:Bool) (n:Int):U64 (o6 w b n):=by
 unfold o6;split
 .exact h.hangs _
 exact L9
theorem wu0:Wu w0:=⟨fun _=>L9,L9⟩
theorem zeh {w:Wk} (h:Wu w) (x:Ins) {k:Nat} (hk:k<64) (read:Vl) (works:Bool):Wu (U5 w x k read works):=by
 have hs:=(Zn_ hk).1
 unfold U5
 split
 .exact WF_ h _ _ hs
 split
 .exact ⟨(WF_ h x.rd read hs).hangs,h.path⟩
 split
 .exact h
 split
 .exact WF_ h _ _ hs
 split
 .unfold Xo_
  have h':Wu { w with lr:=0 }:=⟨h.hangs,h.path⟩
  cases works
  .exact WF_ h' _ _ L9
  exact WF_ h' _ _ hs
 exact h
theorem zk6 {w:Wk} (h:Wu w) (x:Ins):Wu (brW w x):=⟨h.hangs,(O5 h.path (O5 (Q8 h _ _) (Q8 h _ _)).1).1⟩
theorem zPl {w:Wk} (h:Wu w) (x:Ins):Wu (N9 w x):=by
 unfold N9
 split
 .exact h
 split
 .exact WF_ h _ _ L9
 exact WF_ h _ _ (O5 (Q8 h _ _) (Q8 h _ _)).1
theorem zXr {reads:List Vl} {works:List Bool} {i:Nat} {x:Ins} {s:Pw} (h:Wu s.w) (hk:J8 x=true->s.k<64):Wu (S6 reads works i x s).w:=by
 unfold S6
 split
 .exact ⟨h.hangs,h.path⟩
 split
 .rename_i hm;exact zeh h x (hk hm) _ _
 split
 .exact zk6 h x
 exact zPl h x
def Kin (G:Nat->Prop) (w:Wk):Prop:=∀ x,(∀ q,R7 (w.hangs x) q=true->G q)->(w.regs x).k=true
section
variable {G:Nat->Prop} {w:Wk}
theorem znp:Kin G w0:=fun x _=>rfl
theorem Kin.arg (h:Kin G w) {b:Bool} {n:Int} (hq:∀ q,R7 (o6 w b n) q=true->G q):(T9 w b n).k=true:=by
 unfold T9 o6 at *
 cases b
 .rfl
 exact h _ hq
theorem zDj (v:Vl):(u7 v).k=v.k:=by
 unfold u7
 by_cases h:v.k=true
 .rw [if_pos h]
 rw [if_neg h];simpa using h
theorem Kin.set (h:Kin G w) (rd:Int) {v:Vl} {on:Int} (hv:(∀ q,R7 on q=true->G q)->v.k=true):Kin G (QO_ w rd v on):=fun x hx=>by
 show (if x=rd.toNat then u7 v else w.regs x).k=true
 replace hx:∀ q,R7 (if x=rd.toNat then on else w.hangs x) q=true->G q:=hx
 by_cases e:x=rd.toNat
 .rw [if_pos e] at hx ⊢;rw [zDj];exact hv hx
 rw [if_neg e] at hx ⊢;exact h x hx
theorem Kin.mem (h:Kin G w) {x:Ins} {k:Nat} (hk:k<64) {read:Vl} {works:Bool} (hr:rdB x.op=true->G k->read.k=true):Kin G (U5 w x k read works):=by
 have hs:=(Zn_ hk).2
 have hG:∀ {on:Int},on=Z1_ 1 (k:Nat)->(∀ q,R7 on q=true->G q)->G k:=fun e hq=>hq k (by rw [e,hs];simp)
 unfold U5
 split
 .rename_i h9
  exact h.set _ fun hq=>hr (by simp [rdB,h9]) (hG rfl hq)
 split
 .rename_i h13
  exact h.set _ fun hq=>hr (by simp [rdB,h13]) (hG rfl hq)
 split
 .exact h
 split
 .rename_i h11
  exact h.set _ fun hq=>hr (by rcases h11 with h11|h11<;>simp [rdB,h11]) (hG rfl hq)
 split
 .unfold Xo_
  have h':Kin G { w with lr:=0 }:=h
  cases works
  .exact h'.set _ fun _=>rfl
  exact h'.set _ fun _=>rfl
 exact h
theorem Kin.plain (h:Kin G w) (hu:Wu w) {x:Ins} (h1:x.op=1->x.aR=false):Kin G (N9 w x):=by
 unfold N9
 split
 .exact h
 split
 .rename_i e
  exact h.set _ fun _=>by simp [T9,h1 e]
 refine h.set _ fun hq=>?_
 have hb:=(O5 (Q8 hu x.aR x.aN) (Q8 hu x.bR x.bN)).2
 rw [Bool.and_eq_true]
 exact ⟨h.arg fun q hq'=>hq q (by rw [hb,hq'];rfl),h.arg fun q hq'=>hq q (by rw [hb,hq',Bool.or_true])⟩
theorem Kin.br (h:Kin G w) (hu:Wu w) {x:Ins} (hq:∀ q,R7 (brW w x).path q=true->G q):brK w x=true:=by
 have h1:=O5 (Q8 hu x.aR x.aN) (Q8 hu x.bR x.bN)
 have h2:=(O5 hu.path h1.1).2
 have hp:(brW w x).path=o64 w.path (o64 (o6 w x.aR x.aN) (o6 w x.bR x.bN)):=rfl
 unfold brK
 rw [Bool.and_eq_true]
 exact ⟨h.arg fun q hq'=>hq q (by rw [hp,h2,h1.2,hq'];simp),h.arg fun q hq'=>hq q (by rw [hp,h2,h1.2,hq'];simp)⟩
theorem Kin.step {reads : List Vl} {works : List Bool} {i : Nat} {x : Ins} {s : Pw} (h : Kin G s.w) (hu : Wu s.w) (hk : J8 x = true → s.k < 64) (h1 : x.op = 1 → x.aR = false)
    (hr:J8 x=true->rdB x.op=true->G s.k->(reads.getD s.k zV).k=true):Kin G (S6 reads works i x s).w:=by
  unfold S6
  split
  . exact h
  split
  . rename_i hm;exact h.mem (hk hm) (hr hm)
  split
  . exact h
  exact h.plain hu h1
end
structure Sm (s u:Pw):Prop where
 regs:∀ x,le (s.w.regs x) (u.w.regs x)
 hangs:s.w.hangs=u.w.hangs
 path:s.w.path=u.w.path
 left:s.w.left=u.w.left
 lr:s.w.lr=u.w.lr
 lrLoc:s.w.lrLoc=u.w.lrLoc
 out:s.out=u.out
 k:s.k=u.k
theorem Sm.refl (s:Pw):Sm s s:=⟨fun _=>le_refl _,rfl,rfl,rfl,rfl,rfl,rfl,rfl⟩
section
variable {s u:Pw} {reads reads':List Vl} {works:List Bool} {x:Ins} {i:Nat}
theorem Sm.arg (h:Sm s u) (b:Bool) (n:Int):le (T9 s.w b n) (T9 u.w b n):=by
 unfold T9;cases b
 .exact le_refl _
 exact h.regs _
theorem Sm.argh (h:Sm s u) (b:Bool) (n:Int):o6 s.w b n=o6 u.w b n:=by unfold o6;rw [h.hangs]
theorem Sm.brk (h:Sm s u) (hb:brK s.w x=true):brK u.w x=true/\brN s.w x=brN u.w x:=by
 unfold brK at hb
 rw [Bool.and_eq_true] at hb
 have e1:=h.arg x.aR x.aN hb.1
 have e2:=h.arg x.bR x.bN hb.2
 unfold brN brK
 rw [<-e1,<-e2,hb.1,hb.2]
 exact ⟨rfl,rfl⟩
theorem Sm.go (h:Sm s u) (hg:goB x s=true):goB x u=true:=by
 unfold goB at hg ⊢
 rw [<-h.out]
 by_cases hb:brK s.w x=true
 .rw [(h.brk hb).1];simp
 simp only [hb,Bool.not_false,Bool.and_true,Bool.not_eq_true'] at hg
 simp [hg]
theorem WG_ {w v:Wk} (h:∀ x,le (w.regs x) (v.regs x)) {a b:Vl} (hab:le a b) (rd on on':Int):∀ x,le ((QO_ w rd a on).regs x) ((QO_ v rd b on').regs x):=fun x=>by
 show le (if x=rd.toNat then u7 a else w.regs x) (if x=rd.toNat then u7 b else v.regs x)
 split
 .exact zCd hab
 exact h x
theorem Q0 (w v:Wk) (h:w.hangs=v.hangs) (rd:Int) (a b:Vl) (on:Int):(QO_ w rd a on).hangs=(QO_ v rd b on).hangs:=by unfold QO_;rw [h]
theorem Sm.mem (h : Sm s u) {a b : Vl} (wk : Bool) (hab : z7 x wk = 1 → le a b) :
    (∀ q,le ((U5 s.w x s.k a wk).regs q) ((U5 u.w x u.k b wk).regs q))/\(U5 s.w x s.k a wk).hangs=(U5 u.w x u.k b wk).hangs/\(U5 s.w x s.k a wk).path=(U5 u.w x u.k b wk).path ∧
    (U5 s.w x s.k a wk).left=(U5 u.w x u.k b wk).left/\(U5 s.w x s.k a wk).lr=(U5 u.w x u.k b wk).lr/\(U5 s.w x s.k a wk).lrLoc=(U5 u.w x u.k b wk).lrLoc:=by
  obtain ⟨h1,h2,h3,h4,h5,h6,h7,h8⟩:=h
  replace hab:¬ x.op=14->le a b:=fun hc=>hab (by unfold z7;rw [if_neg (fun e=>hc e.1)])
  unfold U5
  rw [h8]
  split
  . replace hab:=hab (by omega)
    exact ⟨WG_ h1 hab _ _ _,Q0 _ _ h2 _ _ _ _,h3,h4,h5,h6⟩
  split
  . replace hab:=hab (by omega)
    exact ⟨WG_ h1 hab x.rd (Z1_ 1 (u.k:Nat)) (Z1_ 1 (u.k:Nat)),Q0 s.w u.w h2 x.rd a b (Z1_ 1 (u.k:Nat)),h3,h4,rfl,rfl⟩
  split
  . exact ⟨h1,h2,h3,h4,h5,h6⟩
  split
  . replace hab:=hab (by omega)
    exact ⟨WG_ h1 hab _ _ _,Q0 _ _ h2 _ _ _ _,h3,h4,h5,h6⟩
  split
  . unfold Xo_
    cases wk
    . exact ⟨WG_ (w:={ s.w with lr:=0 }) (v:={ u.w with lr:=0 }) h1 (le_refl ⟨true,1⟩) x.rd 0 0,Q0 { s.w with lr:=0 } { u.w with lr:=0 } h2 x.rd ⟨true,1⟩ ⟨true,1⟩ 0,h3,h4,rfl,h6⟩
    exact ⟨WG_ (w:={ s.w with lr:=0 }) (v:={ u.w with lr:=0 }) h1 (le_refl ⟨true,0⟩) x.rd (Z1_ 1 (u.k:Nat)) (Z1_ 1 (u.k:Nat)),Q0 { s.w with lr:=0 } { u.w with lr:=0 } h2 x.rd ⟨true,0⟩ ⟨true,0⟩ (Z1_ 1 (u.k:Nat)),h3,h4,rfl,h6⟩
  exact ⟨h1,h2,h3,h4,h5,h6⟩
theorem Sm.step (h:Sm s u) (hr:J8 x=true->¬ 0<s.out->z7 x (works.getD s.k false)=1->le (reads.getD s.k zV) (reads'.getD s.k zV)) (hg:goB x s=true):Sm (S6 reads works i x s) (S6 reads' works i x u):=by
 have hm:=fun a1 a2=>h.mem (x:=x) (works.getD s.k false) (hr a1 a2)
 obtain ⟨h1,h2,h3,h4,h5,h6,h7,h8⟩:=h
 have h':Sm s u:=⟨h1,h2,h3,h4,h5,h6,h7,h8⟩
 unfold S6
 rw [<-h7]
 by_cases ho:0<s.out
 .rw [if_pos ho,if_pos ho]
  exact ⟨h1,h2,h3,by dsimp only;rw [h4],h5,h6,rfl,by dsimp only;rw [h8]⟩
 rw [if_neg ho,if_neg ho]
 by_cases hmm:J8 x=true
 .rw [if_pos hmm,if_pos hmm]
  obtain ⟨a1,a2,a3,a4,a5,a6⟩:=hm hmm ho
  rw [<-h8] at *
  exact ⟨a1,a2,a3,a4,a5,a6,rfl,rfl⟩
 rw [if_neg hmm,if_neg hmm]
 by_cases hb:JK_ x.op=true
 .rw [if_pos hb,if_pos hb]
  have hk:brK s.w x=true:=by
   unfold goB at hg
   simpa [hmm,hb,show s.out<=0 by omega] using hg
  refine ⟨h1,h2,?_,h4,h5,h6,(h'.brk hk).2,h8⟩
  show o64 s.w.path (o64 (o6 s.w x.aR x.aN) (o6 s.w x.bR x.bN))=o64 u.w.path (o64 (o6 u.w x.aR x.aN) (o6 u.w x.bR x.bN))
  rw [h3,h'.argh,h'.argh]
 rw [if_neg hb,if_neg hb]
 have hp:Sm ⟨N9 s.w x,s.out,s.k⟩ ⟨N9 u.w x,u.out,u.k⟩:=by
  unfold N9
  split
  .exact ⟨h1,h2,h3,h4,h5,h6,h7,h8⟩
  split
  .exact ⟨WG_ h1 (h'.arg _ _) _ _ _,Q0 _ _ h2 _ _ _ _,h3,h4,h5,h6,h7,h8⟩
  rw [h'.argh,h'.argh]
  refine ⟨WG_ h1 (fun hk=>?_) _ _ _,Q0 _ _ h2 _ _ _ _,h3,h4,h5,h6,h7,h8⟩
  simp only [Bool.and_eq_true] at hk
  rw [h'.arg _ _ hk.1,h'.arg _ _ hk.2]
 exact ⟨hp.regs,hp.hangs,hp.path,hp.left,hp.lr,hp.lrLoc,rfl,hp.k⟩
theorem Sm.fx (h : Sm s u) (hr : ¬ 0 < s.out → z7 x (works.getD s.k false) = 1 → le (reads.getD s.k zV) (reads'.getD s.k zV)) : (fxP reads works s x).st = (fxP reads' works u x).st ∧ (fxP reads works s x).pr = (fxP reads' works u x).pr ∧ (fxP reads works s x).pl = (fxP reads' works u x).pl ∧
    (fxP reads works s x).vl=(fxP reads' works u x).vl/\(fxP reads works s x).ph=(fxP reads' works u x).ph/\le (fxP reads works s x).wr (fxP reads' works u x).wr:=by
  unfold fxP
  rw [<-h.out,<-h.k]
  split
  . exact ⟨rfl,rfl,rfl,rfl,rfl,le_refl _⟩
  rename_i ho
  replace hr:=hr ho
  unfold fxM Y1_
  dsimp only
  rw [h.lr,h.lrLoc,h.hangs,h.path,h.argh]
  refine ⟨rfl,rfl,rfl,?_,rfl,?_⟩
  . (repeat' split)<;>simp_all
  split
  . exact h.arg _ _
  split
  . rename_i e12;exact zCd (zcy (h.arg _ _) (hr (by unfold z7;rw [if_neg (by omega)])))
  split
  . exact h.arg _ _
  exact le_refl _
end
theorem zKp {th:Nat}:∀ (l:List Ins) (j b:Nat) (x:Ins),l[b]?=some x->J8 x=true->(Yh_ th j l)[L5 (l.take b)]?=some (th,j+b)
 | [],j,b,x,h,_=>by simp at h
 | y::l,j,b,x,h,hm=>by
  cases b with
  | zero =>
   simp only [List.getElem?_cons_zero,Option.some.injEq] at h
   subst h
   rw [Yh_,if_pos hm];rfl
  | succ b =>
   have ih:=zKp (th:=th) l (j+1) b x (by simpa using h) hm
   rw [take_succ_cons,L1,Yh_]
   by_cases hy:J8 y=true
   .rw [if_pos hy,if_pos hy,Nat.add_comm 1,List.getElem?_cons_succ,ih,show j+1+b=j+(b+1) by omega]
   rw [if_neg hy,if_neg hy,Nat.zero_add,ih,show j+1+b=j+(b+1) by omega]
theorem zKq:∀ (t:List (List Ins)) (j i b:Nat) (l:List Ins) (x:Ins),t[i]?=some l->l[b]?=some x->J8 x=true->(M5 j t)[kOf t i+L5 (l.take b)]?=some (j+i,b)
 | [],j,i,b,l,x,h,_,_=>by simp at h
 | y::r,j,i,b,l,x,h,hx,hm=>by
  cases i with
  | zero =>
   simp only [List.getElem?_cons_zero,Option.some.injEq] at h
   subst h
   have h1:=zKp (th:=j) y 0 b x hx hm
   rw [M5,show kOf (y::r) 0=0 from rfl,Nat.zero_add,List.getElem?_append_left (List.getElem?_eq_some_iff.1 h1).1,h1]
   simp
  | succ i =>
   have ih:=zKq r (j+1) i b l x (by simpa using h) hx hm
   rw [M5,s8,List.getElem?_append_right (by rw [d6];omega),d6,show L5 y+kOf r i+L5 (l.take b)-L5 y=kOf r i+L5 (l.take b) by omega,ih,show j+1+i=j+(i+1) by omega]
def Yl_ (t:Tst) (i b:Nat):Nat:=kOf t.ths i+L5 ((lth t i).take b)
def opAt (t:Tst) (k:Nat):Nat:=((M5 0 t.ths).getD k (0,0)).2
theorem Y7_ {t:Tst} {i b:Nat} {x:Ins} (hx:(lth t i)[b]?=some x):t.ths[i]?=some (lth t i):=by
 unfold lth at hx ⊢
 cases h:t.ths[i]? with
 | none=>rw [List.getD,h] at hx;simp at hx
 | some l=>simp [List.getD,h]
theorem y5 {t:Tst} {i b:Nat} {x:Ins} (hx:(lth t i)[b]?=some x) (hm:J8 x=true):Yl_ t i b<nO t/\opX t (Yl_ t i b)=x/\G5 t (Yl_ t i b)=i/\opAt t (Yl_ t i b)=b:=by
 have h:=zKq t.ths 0 i b (lth t i) x (Y7_ hx) hx hm
 rw [Nat.zero_add] at h
 have hg:(M5 0 t.ths).getD (Yl_ t i b) (0,0)=(i,b):=by unfold Yl_;rw [List.getD,h];rfl
 refine ⟨(List.getElem?_eq_some_iff.1 h).1,?_,by unfold G5;rw [hg],by unfold opAt;rw [hg]⟩
 unfold opX;rw [hg]
 unfold Yi_
 show (lth t i).getD b i0=x
 rw [List.getD,hx];rfl
theorem Q4 {t:Tst} {k:Nat} (hk:k<nO t):(lth t (G5 t k))[opAt t k]?=some (opX t k)/\J8 (opX t k)=true/\Yl_ t (G5 t k) (opAt t k)=k/\G5 t k<t.ths.length:=by
 have h1:(M5 0 t.ths)[k]?=some ((M5 0 t.ths).getD k (0,0)):=by rw [List.getD,List.getElem?_eq_getElem hk];rfl
 obtain ⟨h2,h3,l,x,h4,h5,h6⟩:=V3_ (List.mem_of_getElem? h1)
 rw [Nat.sub_zero] at h4
 have e0:lth t (G5 t k)=l:=zRh h4
 have e:opX t k=x:=by
  unfold opX Yi_
  show (lth t (G5 t k)).getD _ i0=x
  rw [e0,List.getD,h5];rfl
 refine ⟨by rw [e,e0];exact h5,by rw [e];exact h6,(zeg hk).symm,by unfold G5;omega⟩
structure TG (t:Tst):Prop where
 n64:nO t<=64
 op1:∀ l∈t.ths,∀ x∈l,x.op=1->x.aR=false
theorem TG.one {t:Tst} (h:TG t) {i b:Nat} {x:Ins} (hx:(lth t i)[b]?=some x):x.op=1->x.aR=false:=h.op1 _ (List.mem_of_getElem? (Y7_ hx)) _ (List.mem_of_getElem? hx)
section
variable {t:Tst} {reads reads':List Vl} {works:List Bool} {i b:Nat} {x:Ins}
theorem G0 (hx:(lth t i)[b]?=some x):F1 t reads works i (b+1)=if (F1 t reads works i b).2 then (S6 reads works b x (F1 t reads works i b).1,goB x (F1 t reads works i b).1) else F1 t reads works i b:=by
 have hb:((lth t i).take b).length=b:=by rw [length_take];have:=(List.getElem?_eq_some_iff.1 hx).1;omega
 unfold F1
 rw [M1 hx,WE_,hb,Nat.zero_add]
 split
 .rw [v6]
  split
  .rename_i h;rw [v6,h]
  rename_i h;simp only [Bool.not_eq_true] at h;rw [h]
 rfl
theorem Y8_ (hb:(lth t i).length<=b):F1 t reads works i b=F1 t reads works i (lth t i).length:=by
 unfold F1;rw [take_of_length_le hb,take_length]
theorem I3 (hb:¬ b<(lth t i).length):F1 t reads works i (b+1)=F1 t reads works i b:=by rw [Y8_ (by omega:(lth t i).length<=b+1),Y8_ (by omega:(lth t i).length<=b)]
theorem Zo_ (h:(F1 t reads works i b).2=true):(F1 t reads works i b).1.k=Yl_ t i b:=zRg _ _ _ h
theorem f5 (h:(F1 t reads works i (b+1)).2=true):(F1 t reads works i b).2=true:=by
 by_cases hb:b<(lth t i).length
 .rw [G0 (List.getElem?_eq_getElem hb)] at h
  cases h2:(F1 t reads works i b).2 with
  | true=>rfl
  | false=>rw [h2] at h;simp [h2] at h
 rwa [Y8_ (by omega:(lth t i).length<=b),<-Y8_ (t:=t) (i:=i) (b:=b+1) (by omega)]
theorem UR_:∀ {c:Nat},b<=c->(F1 t reads works i c).2=true->(F1 t reads works i b).2=true
 | 0,h,h2=>by rwa [Nat.le_zero.1 h]
 | c+1,h,h2=>by
  by_cases e:b=c+1
  .rw [e];exact h2
  exact UR_ (c:=c) (by omega) (f5 h2)
theorem zDk (ht:TG t) (hx:(lth t i)[b]?=some x) (h:(F1 t reads works i b).2=true):J8 x=true->(F1 t reads works i b).1.k<64/\opX t (F1 t reads works i b).1.k=x:=fun hm=>by
 rw [Zo_ h]
 have h1:=y5 hx hm
 have:=ht.n64
 exact ⟨by omega,h1.2.1⟩
theorem y6 (ht:TG t):∀ b,(F1 t reads works i b).2=true->Wu (F1 t reads works i b).1.w
 | 0,_=>wu0
 | b+1,h=>by
  by_cases hb:b<(lth t i).length
  .have hp:=f5 h
   have hx:=List.getElem?_eq_getElem hb
   rw [G0 hx,if_pos hp]
   exact zXr (y6 ht b hp) fun hm=>(zDk ht hx hp hm).1
  rw [I3 hb] at h ⊢
  exact y6 ht b h
def known (t:Tst) (reads:List Vl) (q:Nat):Prop:=rdB (opX t q).op=true->(reads.getD q zV).k=true
theorem t7 (ht:TG t):∀ b,(F1 t reads works i b).2=true->Kin (known t reads) (F1 t reads works i b).1.w
 | 0,_=>znp
 | b+1,h=>by
  by_cases hb:b<(lth t i).length
  .have hp:=f5 h
   have hx:=List.getElem?_eq_getElem hb
   rw [G0 hx,if_pos hp]
   refine (t7 ht b hp).step (y6 ht b hp) (fun hm=>(zDk ht hx hp hm).1) (ht.one hx) fun hm hr hG=>?_
   exact hG (by rw [(zDk ht hx hp hm).2];exact hr)
  rw [I3 hb] at h ⊢
  exact t7 ht b h
def fxO (t:Tst) (reads:List Vl) (works:List Bool) (k:Nat):Fx:=d9 (C9 t reads works).f k
theorem V5 {k:Nat} (hk:k<nO t):fxO t reads works k=if (F1 t reads works (G5 t k) (opAt t k)).2 then fxP reads works (F1 t reads works (G5 t k) (opAt t k)).1 (opX t k) else fx0:=by
 obtain ⟨h1,h2,h3,_⟩:=Q4 hk
 have:=zFg t reads works h1 h2
 unfold Yl_ at h3
 rw [h3] at this
 exact this
theorem VP_ (hx : (lth t i)[b]? = some x) (hm : J8 x = true) (hp : (F1 t reads works i b).2 = true) (ho : ¬ 0 < (F1 t reads works i b).1.out) :
    Yl_ t i b<nO t/\(F1 t reads works i b).1.k=Yl_ t i b/\(fxO t reads works (Yl_ t i b)).st=z7 x (works.getD (Yl_ t i b) false):=by
  obtain ⟨a1,a2,a3,a4⟩:=y5 hx hm
  refine ⟨a1,Zo_ hp,?_⟩
  rw [V5 a1,a2,a3,a4,if_pos hp]
  unfold fxP
  rw [if_neg ho,Zo_ hp];rfl
def RLe (t:Tst) (works:List Bool) (reads reads':List Vl):Prop:=∀ q,q<nO t->(fxO t reads works q).st=1->le (reads.getD q zV) (reads'.getD q zV)
theorem RLe.of (h:∀ q,le (reads.getD q zV) (reads'.getD q zV)):RLe t works reads reads':=fun q _ _=>h q
theorem RLe.here (hr : RLe t works reads reads') (hx : (lth t i)[b]? = some x) (hp : (F1 t reads works i b).2 = true) : J8 x = true → ¬ 0 < (F1 t reads works i b).1.out → z7 x (works.getD (F1 t reads works i b).1.k false) = 1 →
    le (reads.getD (F1 t reads works i b).1.k zV) (reads'.getD (F1 t reads works i b).1.k zV):=fun hm ho hs=>by
  obtain ⟨a1,a2,a3⟩:=VP_ hx hm hp ho
  rw [a2] at hs ⊢
  exact hr _ a1 (a3.trans hs)
theorem Zp_ (hr:RLe t works reads reads'):∀ b,(F1 t reads works i b).2=true->(F1 t reads' works i b).2=true/\Sm (F1 t reads works i b).1 (F1 t reads' works i b).1
 | 0,_=>⟨rfl,Sm.refl _⟩
 | b+1,h=>by
  by_cases hb:b<(lth t i).length
  .have hp:=f5 h
   have hx:=List.getElem?_eq_getElem hb
   obtain ⟨h1,h2⟩:=Zp_ hr b hp
   rw [G0 (reads:=reads) hx,if_pos hp] at h ⊢
   rw [G0 (reads:=reads') hx,if_pos h1]
   exact ⟨h2.go h,h2.step (hr.here hx hp) h⟩
  rw [I3 hb] at h ⊢
  rw [I3 hb]
  exact Zp_ hr b h
theorem Q3_ (ht:TG t) (hx:(lth t i)[b]?=some x) (h:(F1 t reads works i (b+1)).2=true) {q:Nat} (hq:R7 (F1 t reads works i b).1.w.path q=true):R7 (F1 t reads works i (b+1)).1.w.path q=true:=by
 have hp:=f5 h
 have hu:=y6 ht b hp
 rw [G0 hx,if_pos hp]
 generalize (F1 t reads works i b).1=s at *
 show R7 (S6 reads works b x s).w.path q=true
 unfold S6
 split
 .exact hq
 split
 .have:(U5 s.w x s.k (reads.getD s.k zV) (works.getD s.k false)).path=s.w.path:=by
   unfold U5
   split
   .rfl
   split
   .rfl
   split
   .rfl
   split
   .rfl
   split
   .unfold Xo_;cases works.getD s.k false<;>rfl
   rfl
  rw [this];exact hq
 split
 .show R7 (o64 s.w.path (o64 (o6 s.w x.aR x.aN) (o6 s.w x.bR x.bN))) q=true
  rw [(O5 hu.path (O5 (Q8 hu _ _) (Q8 hu _ _)).1).2,hq,Bool.true_or]
 have:(N9 s.w x).path=s.w.path:=by unfold N9;split;rfl;split<;>rfl
 rw [this];exact hq
theorem zKr (ht:TG t) {q:Nat}:∀ {c:Nat},b<=c->(F1 t reads works i c).2=true->R7 (F1 t reads works i b).1.w.path q=true->R7 (F1 t reads works i c).1.w.path q=true
 | 0,h,_,hq=>by rwa [Nat.le_zero.1 h] at hq
 | c+1,h,h2,hq=>by
  by_cases e:b=c+1
  .rw [<-e];exact hq
  have:=zKr ht (c:=c) (by omega) (f5 h2) hq
  by_cases hc:c<(lth t i).length
  .exact Q3_ ht (List.getElem?_eq_getElem hc) h2 this
  rw [I3 hc];exact this
theorem US_ (ht:TG t) (hr:RLe t works reads reads'):∀ b,(F1 t reads' works i b).2=true->(∀ q,R7 (F1 t reads' works i b).1.w.path q=true->known t reads q)->(F1 t reads works i b).2=true
 | 0,_,_=>rfl
 | b+1,h,hk=>by
  have hp:=f5 h
  by_cases hb:b<(lth t i).length
  .have hx:=List.getElem?_eq_getElem hb
   have hpr:=US_ ht hr b hp fun q hq=>hk q (Q3_ ht hx h hq)
   have hs:=(Zp_ hr b hpr).2
   rw [G0 hx,if_pos hpr]
   show goB _ (F1 t reads works i b).1=true
   rw [G0 hx,if_pos hp] at h hk
   replace h:goB (lth t i)[b] (F1 t reads' works i b).1=true:=h
   replace hk:∀ q,R7 (S6 reads' works b (lth t i)[b] (F1 t reads' works i b).1).w.path q=true->known t reads q:=hk
   have hkin:=t7 (works:=works) ht b hpr
   have hu:=y6 (works:=works) ht b hpr
   generalize (F1 t reads works i b).1=s at *
   generalize (F1 t reads' works i b).1=u at *
   unfold goB
   by_cases h1:0<s.out
   .simp [show ¬ s.out<=0 by omega]
   by_cases h2:J8 (lth t i)[b]=true
   .simp [h2]
   by_cases h3:JK_ (lth t i)[b].op=true
   .have:brK s.w (lth t i)[b]=true:=hkin.br hu fun q hq=>hk q (by
     unfold S6
     rw [<-hs.out,if_neg h1,if_neg h2,if_pos h3]
     show R7 (o64 u.w.path (o64 (o6 u.w _ _) (o6 u.w _ _))) q=true
     rw [<-hs.path,<-hs.argh,<-hs.argh];exact hq)
    simp [this]
   simp [h3]
  rw [I3 hb] at h hk ⊢
  exact US_ ht hr b h hk
end
def WH_ (t:Tst) (reads:List Vl) (works:List Bool) (k q:Nat):Prop:=R7 (F1 t reads works (G5 t k) (opAt t k)).1.w.path q=true
section
variable {t:Tst} {reads reads':List Vl} {works:List Bool} {k:Nat}
theorem zei (s:Pw) (x:Ins):(fxP reads works s x).st≠0:=by
 unfold fxP;split
 .show (2:Int)≠0;decide
 exact zVa _ _
theorem O6 (hk:k<nO t):(fxO t reads works k).st≠0↔(F1 t reads works (G5 t k) (opAt t k)).2=true:=by
 rw [V5 hk]
 split
 .rename_i h;simp [h,zei]
 rename_i h;simp [h,fx0]
theorem Zq_ (hr : RLe t works reads reads') (hk : k < nO t) (h : (fxO t reads works k).st ≠ 0) :
    (fxO t reads works k).st=(fxO t reads' works k).st/\(fxO t reads works k).pr=(fxO t reads' works k).pr/\(fxO t reads works k).pl=(fxO t reads' works k).pl ∧
    (fxO t reads works k).vl=(fxO t reads' works k).vl/\(fxO t reads works k).ph=(fxO t reads' works k).ph/\le (fxO t reads works k).wr (fxO t reads' works k).wr:=by
  have h1:=(O6 hk).1 h
  obtain ⟨h2,h3⟩:=Zp_ hr _ h1
  rw [V5 hk,V5 hk,if_pos h1,if_pos h2]
  obtain ⟨p1,p2,p3,_⟩:=Q4 hk
  exact h3.fx (hr.here p1 h1 p2)
theorem zej (hr:RLe t works reads reads') (hk:k<nO t):le (fxO t reads works k).wr (fxO t reads' works k).wr:=by
 by_cases h:(fxO t reads works k).st≠0
 .exact (Zq_ hr hk h).2.2.2.2.2
 have h2:¬ (F1 t reads works (G5 t k) (opAt t k)).2=true:=fun hc=>h ((O6 hk).2 hc)
 rw [V5 hk,if_neg h2]
 intro hc;cases hc
theorem zXs (ht:TG t) (hr:RLe t works reads reads') (hk:k<nO t) (h:(fxO t reads' works k).st≠0) (hp:∀ q,WH_ t reads' works k q->known t reads q):(fxO t reads works k).st≠0 :=
 (O6 hk).2 (US_ ht hr _ ((O6 hk).1 h) hp)
theorem WI_ (hk : k < nO t) (h : (fxO t reads works k).st = 1) : (F1 t reads works (G5 t k) (opAt t k)).2 = true ∧ ¬ 0 < (F1 t reads works (G5 t k) (opAt t k)).1.out ∧ ¬ ((opX t k).op = 14 ∧ works.getD k false = false) ∧
    fxO t reads works k=fxM (F1 t reads works (G5 t k) (opAt t k)).1.w (opX t k) (reads.getD k zV) (works.getD k false)/\(∀ q,R7 (fxO t reads works k).ph q=true↔WH_ t reads works k q):=by
  have h1:=(O6 hk).1 (by rw [h];decide)
  have e:=V5 (reads:=reads) (works:=works) hk
  rw [if_pos h1] at e
  have hkk:(F1 t reads works (G5 t k) (opAt t k)).1.k=k:=by rw [Zo_ h1];exact (Q4 hk).2.2.1
  have ho:¬ 0<(F1 t reads works (G5 t k) (opAt t k)).1.out:=fun hc=>by
    rw [e] at h;unfold fxP at h;rw [if_pos hc] at h;cases h
  have e2:fxO t reads works k=fxM (F1 t reads works (G5 t k) (opAt t k)).1.w (opX t k) (reads.getD k zV) (works.getD k false):=by
    rw [e];unfold fxP;rw [if_neg ho,hkk]
  have h14:¬ ((opX t k).op=14/\works.getD k false=false):=fun hc=>by
    rw [e2] at h
    have:z7 (opX t k) (works.getD k false)=1:=h
    unfold z7 at this
    rw [if_pos hc] at this;cases this
  refine ⟨h1,ho,h14,e2,fun q=>?_⟩
  rw [e2]
  show R7 (if (opX t k).op=14/\works.getD k false=false then 0 else _) q=true↔_
  rw [if_neg h14];rfl
theorem Zr_ (ht:TG t) (hk:k<nO t) (hw:wrB (opX t k).op=true) (h:(fxO t reads works k).st=1) (hv:∀ q,R7 (fxO t reads works k).vl q=true->known t reads q) (ha:(opX t k).op=12->known t reads k):(fxO t reads works k).wr.k=true:=by
 obtain ⟨h1,ho,h14,e,_⟩:=WI_ hk h
 have hkin:=t7 (works:=works) ht _ h1
 have hsome:(Y1_ (F1 t reads works (G5 t k) (opAt t k)).1.w (opX t k) (reads.getD k zV) (works.getD k false)).isSome=true:=by
  unfold Y1_
  split
  .rfl
  split
  .rfl
  rename_i n1 n2
  have h14':(opX t k).op=14:=by
   simp only [wrB,Bool.or_eq_true,decide_eq_true_eq] at hw
   omega
  rw [if_pos ⟨h14',by have:=fun hc=>h14 ⟨h14',hc⟩;simpa using this⟩];rfl
 rw [e] at hv ⊢
 have hv':∀ q,R7 (o6 (F1 t reads works (G5 t k) (opAt t k)).1.w (opX t k).aR (opX t k).aN) q=true->known t reads q:=fun q hq=>hv q (by
  show R7 (if _ then _ else _) q=true
  rw [if_pos hsome];exact hq)
 have harg:=hkin.arg hv'
 show ((Y1_ _ _ _ _).getD zV).k=true
 unfold Y1_ at hsome ⊢
 split
 .exact harg
 split
 .rename_i e12
  show (u7 _).k=true
  rw [zDj]
  show ((T9 _ _ _).k&&(reads.getD k zV).k)=true
  rw [harg,ha e12 (by simp [rdB,e12])];rfl
 split
 .exact harg
 rename_i n1 n2 n3;rw [if_neg n1,if_neg n2,if_neg n3] at hsome;cases hsome
end
def w7 (P:Nat->Prop) (m:Int):Prop:=∀ q,R7 m q=true->P q
structure Bt (P:Nat->Prop) (w:Wk):Prop where
 hangs:∀ x,w7 P (w.hangs x)
 path:w7 P w.path
theorem p8 {P:Nat->Prop}:w7 P 0:=fun q h=>by rw [Q2_] at h;cases h
theorem zAt {P:Nat->Prop} {a b:Int} (ha:U64 a) (hb:U64 b) (h1:w7 P a) (h2:w7 P b):w7 P (o64 a b):=fun q h=>by
 rw [(O5 ha hb).2,Bool.or_eq_true] at h
 exact h.elim (h1 q) (h2 q)
section
variable {P:Nat->Prop} {w:Wk}
theorem Bt.arg (h:Bt P w) (b:Bool) (n:Int):w7 P (o6 w b n):=by
 unfold o6;split
 .exact h.hangs _
 exact p8
theorem Bt.set (h:Bt P w) (rd:Int) (v:Vl) {on:Int} (ho:w7 P on):Bt P (QO_ w rd v on):=⟨fun x=>by
 show w7 P (if x=rd.toNat then on else w.hangs x)
 split
 .exact ho
 exact h.hangs x,h.path⟩
theorem Bt.up {Q:Nat->Prop} (h:Bt P w) (hpq:∀ q,P q->Q q):Bt Q w:=⟨fun x q hq=>hpq q (h.hangs x q hq),fun q hq=>hpq q (h.path q hq)⟩
theorem Bt.step {reads:List Vl} {works:List Bool} {i:Nat} {x:Ins} {s:Pw} (h:Bt P s.w) (hu:Wu s.w) (hk:J8 x=true->s.k<64) (hp:J8 x=true->¬ 0<s.out->z7 x (works.getD s.k false)=1->P s.k):Bt P (S6 reads works i x s).w:=by
 unfold S6
 split
 .exact ⟨h.hangs,h.path⟩
 rename_i ho
 split
 .rename_i hm
  have hb:z7 x (works.getD s.k false)=1->w7 P (Z1_ 1 (s.k:Nat)):=fun hs q hq=>by
   rw [(Zn_ (hk hm)).2,decide_eq_true_eq] at hq
   subst hq;exact hp hm ho hs
  dsimp only
  unfold U5
  split
  .rename_i e;exact h.set _ _ (hb (by unfold z7;rw [if_neg (by omega)]))
  split
  .rename_i e
   have:=h.set x.rd (reads.getD s.k zV) (hb (by unfold z7;rw [if_neg (by omega)]))
   exact ⟨this.hangs,this.path⟩
  split
  .exact h
  split
  .rename_i e;exact h.set _ _ (hb (by unfold z7;rw [if_neg (by omega)]))
  split
  .unfold Xo_
   have h':Bt P { s.w with lr:=0 }:=⟨h.hangs,h.path⟩
   cases hw:works.getD s.k false
   .exact h'.set _ _ p8
   exact h'.set _ _ (hb (by unfold z7;rw [hw];simp))
  exact h
 split
 .exact ⟨h.hangs,zAt hu.path (O5 (Q8 hu _ _) (Q8 hu _ _)).1 h.path (zAt (Q8 hu _ _) (Q8 hu _ _) (h.arg _ _) (h.arg _ _))⟩
 dsimp only
 unfold N9
 split
 .exact h
 split
 .exact h.set _ _ p8
 exact h.set _ _ (zAt (Q8 hu _ _) (Q8 hu _ _) (h.arg _ _) (h.arg _ _))
end
section
variable {t:Tst} {reads:List Vl} {works:List Bool} {i b:Nat}
theorem zKs {x:Ins} (hx:(lth t i)[b]?=some x) (hm:J8 x=true) {c:Nat} (hc:b<c):Yl_ t i b<Yl_ t i c:=by
 have h2:=o8 hx
 rw [hm] at h2
 simp only [if_true] at h2
 have h3:L5 ((lth t i).take (b+1))<=L5 ((lth t i).take c):=by
  unfold L5
  have:(lth t i).take (b+1)=((lth t i).take c).take (b+1):=by rw [take_take,Nat.min_eq_left hc]
  rw [this]
  exact List.Sublist.countP_le (take_sublist _ _)
 unfold Yl_;omega
theorem WJ_ (ht:TG t):∀ b,(F1 t reads works i b).2=true->Bt (fun q=>G5 t q=i/\opAt t q<b/\q<nO t/\(fxO t reads works q).st=1) (F1 t reads works i b).1.w
 | 0,_=>⟨fun x=>p8,p8⟩
 | b+1,h=>by
  have hp:=f5 h
  have ih:=(WJ_ ht b hp).up (Q:=fun q=>G5 t q=i/\opAt t q<b+1/\q<nO t/\(fxO t reads works q).st=1) fun q hq=>⟨hq.1,by omega,hq.2.2⟩
  by_cases hb:b<(lth t i).length
  .have hx:=List.getElem?_eq_getElem hb
   rw [G0 hx,if_pos hp]
   refine ih.step (y6 ht b hp) (fun hm=>(zDk ht hx hp hm).1) fun hm ho hs=>?_
   obtain ⟨a1,a2,a3,a4⟩:=y5 hx hm
   rw [Zo_ hp]
   refine ⟨a3,by rw [a4];omega,a1,?_⟩
   rw [V5 a1,a2,a3,a4,if_pos hp]
   unfold fxP
   rw [if_neg ho,Zo_ hp]
   rw [Zo_ hp] at hs
   exact hs
  rw [I3 hb];exact ih
theorem Zs_ (ht:TG t) {k:Nat} (hk:k<nO t) (h:(fxO t reads works k).st≠0) {q:Nat} (hq:WH_ t reads works k q):G5 t q=G5 t k/\opAt t q<opAt t k/\q<nO t/\(fxO t reads works q).st=1 :=
 (WJ_ ht _ ((O6 hk).1 h)).path q hq
theorem y7 (ht:TG t) {k:Nat} (hk:k<nO t) (h:(fxO t reads works k).st=1) {q:Nat} (hq:R7 (fxO t reads works k).vl q=true):G5 t q=G5 t k/\opAt t q<opAt t k/\q<nO t/\(fxO t reads works q).st=1:=by
 obtain ⟨h1,ho,h14,e,_⟩:=WI_ hk h
 rw [e] at hq
 replace hq:R7 (if (Y1_ (F1 t reads works (G5 t k) (opAt t k)).1.w (opX t k) (reads.getD k zV) (works.getD k false)).isSome then o6 (F1 t reads works (G5 t k) (opAt t k)).1.w (opX t k).aR (opX t k).aN else 0) q=true:=hq
 split at hq
 .exact (WJ_ ht _ h1).arg _ _ q hq
 rw [Q2_] at hq;cases hq
theorem UT_ {k q:Nat} (hk:k<nO t) (hq:q<nO t) (h:G5 t q=G5 t k):q<k↔opAt t q<opAt t k:=by
 obtain ⟨a1,a2,a3,_⟩:=Q4 hk
 obtain ⟨b1,b2,b3,_⟩:=Q4 hq
 constructor
 .intro hlt
  rcases Nat.lt_or_ge (opAt t q) (opAt t k) with h1|h1
  .exact h1
  rcases Nat.lt_or_eq_of_le h1 with h2|h2
  .have:=zKs a1 a2 h2
   rw [a3,<-h,b3] at this;omega
  rw [<-a3,<-b3,h,h2] at hlt;omega
 intro hlt
 rw [h] at b1
 have:=zKs b1 b2 hlt
 rw [a3,<-h,b3] at this;exact this
theorem UU_ (ht:TG t) {k q:Nat} (hk:k<nO t) (hq:q<nO t) (h:G5 t q=G5 t k) (hle:opAt t q<=opAt t k) (hs:(fxO t reads works k).st≠0) {p:Nat} (hp:WH_ t reads works q p):WH_ t reads works k p:=by
 unfold WH_ at hp ⊢
 rw [h] at hp
 exact zKr ht hle ((O6 hk).1 hs) hp
theorem zXt {k q:Nat} (hk:k<nO t) (hq:q<nO t) (h:G5 t q=G5 t k) (hle:opAt t q<=opAt t k) (hs:(fxO t reads works k).st≠0):(fxO t reads works q).st≠0:=by
 rw [O6 hq,h]
 exact UR_ hle ((O6 hk).1 hs)
end
theorem Q4_ {α:Type} {p q:α->Bool}:∀ {l:List α},(∀ a∈l,p a=true->q a=true)->(∃ a∈l,p a=false/\q a=true)->l.countP p<l.countP q
 | [],_,⟨a,h,_⟩=>by cases h
 | x::l,h,⟨a,ha,h1,h2⟩=>by
  have hl:l.countP p<=l.countP q:=countP_mono_left fun b hb=>h b (.tail _ hb)
  rw [countP_cons,countP_cons]
  rcases List.mem_cons.1 ha with rfl|ha
  .rw [h1,h2];simp;omega
  have:=Q4_ (l:=l) (fun b hb=>h b (.tail _ hb)) ⟨a,ha,h1,h2⟩
  have h3:=h x (.head _)
  by_cases hp:p x=true
  .rw [hp,h3 hp];simp;omega
  rw [if_neg hp];omega
def FLe (n:Nat) (f g:Nat->Fx):Prop:=∀ k,k<n->((f k).st≠0->(g k).st=(f k).st)/\le (f k).wr (g k).wr
theorem Q5_ {t:Tst} {reads reads':List Vl} {works:List Bool} (hr:RLe t works reads reads'):FLe (nO t) (fxO t reads works) (fxO t reads' works):=fun k hk =>
 ⟨fun h=>(Zq_ hr hk h).1.symm,zej hr hk⟩
structure Nx (t:Tst) where
 N:(Nat->Fx)->Nat->Vl
 mono:∀ f g,FLe (nO t) f g->∀ k,k<nO t->le (N f k) (N g k)
def itR (t:Tst) (w:List Bool) (N:Nx t):Nat->List Vl
 | 0=>List.replicate (nO t) zV
 | j+1=>tab (nO t) (N.N (fxO t (itR t w N j) w))
theorem UV_ {α:Type} {n i:Nat} {f:Nat->α} {d:α} (h:n<=i):(tab n f).getD i d=d:=by rw [List.getD,List.getElem?_eq_none (by rw [R6];exact h)];rfl
theorem zDl {n i:Nat} {d:Vl}:(List.replicate n d).getD i d=d:=by
 rw [List.getD,List.getElem?_replicate];split<;>rfl
section
variable {t:Tst} {w:List Bool} {N:Nx t}
theorem Zt_:∀ j q,le ((itR t w N j).getD q zV) ((itR t w N (j+1)).getD q zV)
 | 0,q=>by
  show le ((List.replicate (nO t) zV).getD q zV) _
  rw [zDl];intro h;cases h
 | j+1,q=>by
  by_cases hq:q<nO t
  .show le ((tab (nO t) (N.N (fxO t (itR t w N j) w))).getD q zV) ((tab (nO t) (N.N (fxO t (itR t w N (j+1)) w))).getD q zV)
   rw [I1 hq,I1 hq]
   exact N.mono _ _ (Q5_ (RLe.of (Zt_ j))) q hq
  show le ((tab (nO t) _).getD q zV) _
  rw [UV_ (by omega)];intro h;cases h
theorem zk7 {a b c:Vl} (h:le a b) (h':le b c):le a c:=fun hk=>by
 have e:=h hk
 rw [e];exact h' (by rw [<-e];exact hk)
theorem zKt (i j:Nat) (h:i<=j) (q:Nat):le ((itR t w N i).getD q zV) ((itR t w N j).getD q zV):=by
 induction j with
 | zero=>rw [Nat.le_zero.1 h];exact le_refl _
 | succ j ih =>
  by_cases e:i=j+1
  .rw [e];exact le_refl _
  exact zk7 (ih (by omega)) (Zt_ j q)
def knC (l:List Vl) (n:Nat):Nat:=(List.range n).countP fun q=>(l.getD q zV).k
theorem t8 (q:Nat):le ((itR t w N (nO t+1)).getD q zV) ((itR t w N (nO t)).getD q zV):=by
 have back:∀ j,(∀ q,le ((itR t w N (j+1)).getD q zV) ((itR t w N j).getD q zV))->∀ q,le ((itR t w N (j+2)).getD q zV) ((itR t w N (j+1)).getD q zV):=fun j h q=>by
  by_cases hq:q<nO t
  .show le ((tab (nO t) (N.N (fxO t (itR t w N (j+1)) w))).getD q zV) ((tab (nO t) (N.N (fxO t (itR t w N j) w))).getD q zV)
   rw [I1 hq,I1 hq]
   exact N.mono _ _ (Q5_ (RLe.of h)) q hq
  show le ((tab (nO t) _).getD q zV) _
  rw [UV_ (by omega)];intro h;cases h
 have key:∀ j,(∀ q,le ((itR t w N (j+1)).getD q zV) ((itR t w N j).getD q zV))\/j+1<=knC (itR t w N (j+1)) (nO t):=fun j=>by
  induction j with
  | zero =>
   rcases Classical.em (∀ q,le ((itR t w N 1).getD q zV) ((itR t w N 0).getD q zV)) with h|h
   .exact .inl h
   right
   obtain ⟨q,hq⟩:=Classical.not_forall.1 h
   have hk:((itR t w N 1).getD q zV).k=true:=Classical.byContradiction fun hc=>hq fun h=>absurd h hc
   have hq2:q<nO t:=Classical.byContradiction fun hc=>by
    have:((itR t w N 1).getD q zV)=zV:=UV_ (by omega)
    rw [this] at hk;cases hk
   exact List.countP_pos_iff.2 ⟨q,List.mem_range.2 hq2,hk⟩
  | succ j ih =>
   rcases Classical.em (∀ q,le ((itR t w N (j+2)).getD q zV) ((itR t w N (j+1)).getD q zV)) with h|h
   .exact .inl h
   right
   rcases ih with ih|ih
   .exact absurd (back j ih) h
   obtain ⟨q,hq⟩:=Classical.not_forall.1 h
   have hk:((itR t w N (j+2)).getD q zV).k=true:=Classical.byContradiction fun hc=>hq fun h=>absurd h hc
   have hk2:((itR t w N (j+1)).getD q zV).k=false:=by
    cases h2:((itR t w N (j+1)).getD q zV).k with
    | false=>rfl
    | true=>exact absurd (fun _=>(Zt_ (j+1) q h2).symm) hq
   have hq2:q<nO t:=Classical.byContradiction fun hc=>by
    have:((itR t w N (j+2)).getD q zV)=zV:=UV_ (by omega)
    rw [this] at hk;cases hk
   have:knC (itR t w N (j+1)) (nO t)<knC (itR t w N (j+1+1)) (nO t):=Q4_ (fun a _ ha=>by rw [<-Zt_ (j+1) a ha];exact ha) ⟨q,List.mem_range.2 hq2,hk2,hk⟩
   omega
 rcases key (nO t) with h|h
 .exact h q
 have:knC (itR t w N (nO t+1)) (nO t)<=nO t:=by
  have:=countP_le_length (l:=List.range (nO t)) (p:=fun q=>((itR t w N (nO t+1)).getD q zV).k)
  rwa [length_range] at this
 omega
end
structure Alike (t:Tst) (reads reads':List Vl) (works works':List Bool):Prop where
 rd:∀ q,q<nO t->rdB (opX t q).op=true->(fxO t reads works q).st=1->reads.getD q zV=reads'.getD q zV
 wk:∀ i b x,(lth t i)[b]?=some x->J8 x=true->x.op=14->(F1 t reads works i b).2=true->¬ 0<(F1 t reads works i b).1.out->works.getD (Yl_ t i b) false=works'.getD (Yl_ t i b) false
theorem zKu {w:Wk} {x:Ins} {k:Nat} {a b:Vl} {wk:Bool} (h:rdB x.op=true->a=b):U5 w x k a wk=U5 w x k b wk:=by
 by_cases hr:rdB x.op=true
 .rw [h hr]
 have:¬ x.op=9/\¬ x.op=13/\¬ (x.op=11\/x.op=12):=by
  simp only [rdB,Bool.or_eq_true,decide_eq_true_eq] at hr;omega
 unfold U5
 rw [if_neg this.1,if_neg this.2.1,if_neg this.1,if_neg this.2.1]
 split
 .rfl
 rw [if_neg this.2.2,if_neg this.2.2]
theorem zXu {w:Wk} {x:Ins} {k:Nat} {a:Vl} {u v:Bool} (h:x.op=14->u=v):U5 w x k a u=U5 w x k a v:=by
 by_cases e:x.op=14
 .rw [h e]
 unfold U5
 simp only [if_neg e]
theorem zXv {w:Wk} {x:Ins} {a:Vl} {u v:Bool} (h:x.op=14->u=v):Y1_ w x a u=Y1_ w x a v:=by
 by_cases e:x.op=14
 .rw [h e]
 unfold Y1_
 simp only [e,false_and]
theorem zRi {w:Wk} {x:Ins} {a b:Vl} {u v:Bool} (hr:rdB x.op=true->z7 x u=1->a=b) (hw:x.op=14->u=v):fxM w x a u=fxM w x b v:=by
 have e1:z7 x u=z7 x v:=by
  by_cases e:x.op=14
  .rw [hw e]
  unfold z7;simp only [e,false_and]
 have e2:Y1_ w x a u=Y1_ w x b v:=by
  by_cases e:x.op=14
  .have h12:¬ x.op=12:=by omega
   unfold Y1_
   rw [hw e]
   simp only [h12,if_false]
  rw [zXv hw]
  by_cases h12:x.op=12
  .rw [hr (by simp [rdB,h12]) (by unfold z7;rw [if_neg (by omega)])]
  unfold Y1_;simp only [h12,if_false]
 unfold fxM
 rw [e1,e2]
 by_cases e:x.op=14
 .rw [hw e]
 simp only [e,false_and]
section
variable {t:Tst} {reads reads':List Vl} {works works':List Bool}
theorem Alike.pre (h:Alike t reads reads' works works') {i:Nat}:∀ b,F1 t reads works i b=F1 t reads' works' i b
 | 0=>rfl
 | b+1=>by
  by_cases hb:b<(lth t i).length
  .have hx:=List.getElem?_eq_getElem hb
   have ih:=h.pre (i:=i) b
   rw [G0 hx,G0 (reads:=reads') hx,<-ih]
   by_cases hp:(F1 t reads works i b).2=true
   .rw [if_pos hp,if_pos hp]
    congr 1
    unfold S6
    split
    .rfl
    rename_i ho
    split
    .rename_i hm
     obtain ⟨a1,a2,a3⟩:=VP_ hx hm hp ho
     obtain ⟨b1,b2,_⟩:=y5 hx hm
     rw [a2]
     have hw:(lth t i)[b].op=14->works.getD (Yl_ t i b) false=works'.getD (Yl_ t i b) false:=fun e=>h.wk i b _ hx hm e hp ho
     rw [zXu hw]
     congr 1
     refine zKu fun hr=>h.rd _ a1 (by rw [b2];exact hr) ?_
     rw [a3];unfold z7;rw [if_neg fun e=>by simp [rdB,e.1] at hr]
    rfl
   rw [if_neg hp,if_neg hp]
  rw [I3 hb,I3 hb];exact h.pre b
theorem Alike.fx (h:Alike t reads reads' works works') {k:Nat} (hk:k<nO t):fxO t reads works k=fxO t reads' works' k:=by
 rw [V5 hk,V5 hk,<-h.pre]
 by_cases hp:(F1 t reads works (G5 t k) (opAt t k)).2=true
 .rw [if_pos hp,if_pos hp]
  obtain ⟨p1,p2,p3,_⟩:=Q4 hk
  have hkk:(F1 t reads works (G5 t k) (opAt t k)).1.k=k:=by rw [Zo_ hp];exact p3
  unfold fxP
  split
  .rfl
  rename_i ho
  obtain ⟨a1,a2,a3⟩:=VP_ p1 p2 hp ho
  rw [p3] at a3
  rw [hkk]
  refine zRi (fun hr hs=>h.rd k hk hr (a3.trans hs)) fun e=>?_
  have:=h.wk _ _ _ p1 p2 e hp ho
  rwa [p3] at this
 rw [if_neg hp,if_neg hp]
theorem zek {n:Nat} {f g:Fl} (hf:FlOk n f) (hg:FlOk n g) (h:∀ k,k<n->d9 f k=d9 g k):f=g:=by
 have key:∀ {α:Type} {l m:List α} (d:α),l.length=n->m.length=n->(∀ k,k<n->l.getD k d=m.getD k d)->l=m:=fun {α l m} d hl hm he=>by
  apply ext_getElem (by omega)
  intro i h1 h2
  have:=he i (by omega)
  simpa [List.getD,List.getElem?_eq_getElem h1,List.getElem?_eq_getElem h2] using this
 obtain ⟨a1,a2,a3,a4,a5,a6⟩:=hf
 obtain ⟨b1,b2,b3,b4,b5,b6⟩:=hg
 have hh:=fun k hk=>Fx.mk.inj (h k hk)
 cases f;cases g
 simp only [Fl.mk.injEq]
 exact ⟨key 0 a1 b1 fun k hk=>(hh k hk).1,key zV a2 b2 fun k hk=>(hh k hk).2.1,key 0 a3 b3 fun k hk=>(hh k hk).2.2.1,key 0 a4 b4 fun k hk=>(hh k hk).2.2.2.1,key 0 a5 b5 fun k hk=>(hh k hk).2.2.2.2.1,key 0 a6 b6 fun k hk=>(hh k hk).2.2.2.2.2⟩
theorem zXw (t:Tst):nO t=Zw_ t:=ZR_ 0 t.ths
theorem Q1 (t:Tst) (reads:List Vl) (works:List Bool):FlOk (nO t) (C9 t reads works).f:=by
 rw [zXw]
 have:∀ (ls:List (List Ins)) (s:Os'),FlOk (Zw_ t) s.f->FlOk (Zw_ t) (Xp_ reads works ls s).f:=fun ls=>by
  induction ls with
  | nil=>exact fun s h=>h
  | cons l r ih=>exact fun s h=>ih _ (Y0_ h)
 exact this _ _ (J8_ _)
theorem zRj (ls:List (List Ins)):∀ s:Os',(Xp_ reads works ls s).k=s.k+(ls.map L5).sum:=by
 induction ls with
 | nil=>intro s;rfl
 | cons l r ih=>intro s;rw [Xp_,ih];show s.k+L5 l+_=_;simp;omega
theorem Alike.eq (h:Alike t reads reads' works works'):C9 t reads works=C9 t reads' works':=by
 have e1:(C9 t reads works).f=(C9 t reads' works').f:=zek (Q1 _ _ _) (Q1 _ _ _) fun k hk=>h.fx hk
 have l1:=Zm_ t reads works
 have l2:=Zm_ t reads' works'
 have e2:(C9 t reads works).left=(C9 t reads' works').left:=by
  apply List.ext_getElem? ;intro i
  by_cases hi:i<t.ths.length
  .rw [(p7 t reads works hi).2,(p7 t reads' works' hi).2,h.pre]
  rw [List.getElem?_eq_none (by omega),List.getElem?_eq_none (by omega)]
 have e3:(C9 t reads works).regs=(C9 t reads' works').regs:=by
  apply List.ext_getElem? ;intro i
  by_cases hi:i<t.ths.length
  .rw [(p7 t reads works hi).1,(p7 t reads' works' hi).1,h.pre]
  rw [List.getElem?_eq_none (by omega),List.getElem?_eq_none (by omega)]
 have e4:(C9 t reads works).whole=(C9 t reads' works').whole:=by
  rw [Bool.eq_iff_iff,s9,s9]
  simp only [h.pre]
 have e5:(C9 t reads works).k=(C9 t reads' works').k:=by unfold C9;rw [zRj,zRj]
 generalize C9 t reads works=a at *
 generalize C9 t reads' works'=b at *
 cases a;cases b
 simp only at e1 e2 e3 e4 e5
 subst e1 e2 e3 e4 e5;rfl
end
def poA (t:Tst) (a b:Nat):Bool:=decide (G5 t a=G5 t b)&&decide (a<b)
def Wf_ (t:Tst) (pos:Nat->Nat) (k i:Nat):Bool:=!decide (i=k)&&(wrB (opX t i).op&&(decide ((opX t i).loc=(opX t k).loc)&&(!decide (pos k<pos i)||poA t i k)))
def H3 (t:Tst) (pos:Nat->Nat) (f:Nat->Fx) (k:Nat):Nat->Nat
 | 0=>0
 | m+1=>if Wf_ t pos k m&&(decide ((f m).st=1)&&(decide (H3 t pos f k m=0)||decide (pos (H3 t pos f k m-1)<pos m))) then m+1 else H3 t pos f k m
def Q6_ (t:Tst) (pos:Nat->Nat) (f:Nat->Fx) (k:Nat):Bool:=(List.range (nO t)).all fun i=>!(Wf_ t pos k i&&decide ((f i).st=0))
def zel (t:Tst) (k:Nat):Vl:=⟨true,(t.locs.getD (opX t k).loc.toNat ⟨ByteArray.empty,0⟩).v⟩
def nxO (t:Tst) (pos:Nat->Nat) (f:Nat->Fx) (k:Nat):Vl :=
 if rdB (opX t k).op&&Q6_ t pos f k then (if H3 t pos f k (nO t)=0 then zel t k else (f (H3 t pos f k (nO t)-1)).wr) else zV
section
variable {t:Tst} {pos:Nat->Nat} {f g:Nat->Fx} {k:Nat}
theorem G7 : ∀ m, (H3 t pos f k m = 0 → ∀ i, i < m → ¬ (Wf_ t pos k i = true ∧ (f i).st = 1)) ∧
    (H3 t pos f k m≠0->H3 t pos f k m-1<m/\Wf_ t pos k (H3 t pos f k m-1)=true/\(f (H3 t pos f k m-1)).st=1/\∀ i,i<m->Wf_ t pos k i=true->(f i).st=1->pos i<=pos (H3 t pos f k m-1))
  | 0=>⟨fun _ i h=>absurd h (Nat.not_lt_zero _),fun h=>absurd rfl h⟩
  | m+1=>by
    obtain ⟨h1,h2⟩:=G7 m
    unfold H3
    by_cases hc:(Wf_ t pos k m&&(decide ((f m).st=1)&&(decide (H3 t pos f k m=0)||decide (pos (H3 t pos f k m-1)<pos m))))=true
    . rw [if_pos hc]
      simp only [Bool.and_eq_true,Bool.or_eq_true,decide_eq_true_eq] at hc
      obtain ⟨c1,c2,c3⟩:=hc
      refine ⟨fun h=>absurd h (by omega),fun _=>⟨by omega,c1,c2,fun i hi a1 a2=>?_⟩⟩
      show pos i<=pos m
      by_cases e:i=m
      . subst e;exact Nat.le_refl _
      rcases c3 with c3|c3
      . exact absurd ⟨a1,a2⟩ (h1 c3 i (by omega))
      by_cases e0:H3 t pos f k m=0
      . exact absurd ⟨a1,a2⟩ (h1 e0 i (by omega))
      have:=(h2 e0).2.2.2 i (by omega) a1 a2
      omega
    rw [if_neg hc]
    simp only [Bool.and_eq_true,Bool.or_eq_true,decide_eq_true_eq] at hc
    refine ⟨fun h i hi a=>?_,fun h=>?_⟩
    . by_cases e:i=m
      . subst e;exact hc ⟨a.1,a.2,.inl h⟩
      exact h1 h i (by omega) a
    obtain ⟨a1,a2,a3,a4⟩:=h2 h
    refine ⟨by omega,a2,a3,fun i hi b1 b2=>?_⟩
    by_cases e:i=m
    . subst e
      rcases Nat.lt_or_ge (pos (H3 t pos f k i-1)) (pos i) with h5|h5
      . exact absurd ⟨b1,b2,.inr h5⟩ hc
      exact h5
    exact a4 i (by omega) b1 b2
theorem u0:Q6_ t pos f k=true↔∀ i,i<nO t->Wf_ t pos k i=true->(f i).st≠0:=by
 unfold Q6_
 simp only [all_eq_true,mem_range,Bool.not_eq_true',Bool.and_eq_false_iff,decide_eq_false_iff_not]
 constructor
 .intro h i hi hc e
  rcases h i hi with h|h
  .rw [hc] at h;cases h
  exact h e
 intro h i hi
 by_cases hc:Wf_ t pos k i=true
 .exact .inr (h i hi hc)
 left;simpa using hc
theorem zKv:∀ m,H3 t pos f k m<=m
 | 0=>Nat.le_refl _
 | m+1=>by unfold H3;have:=zKv m;split<;>omega
theorem VQ_ (h:∀ i,i<nO t->Wf_ t pos k i=true->((f i).st=1↔(g i).st=1)):∀ m,m<=nO t->H3 t pos f k m=H3 t pos g k m
 | 0,_=>rfl
 | m+1,hm=>by
  have ih:=VQ_ h m (by omega)
  unfold H3
  rw [ih]
  by_cases hc:Wf_ t pos k m=true
  .have e:decide ((f m).st=1)=decide ((g m).st=1):=by
    rw [Bool.eq_iff_iff,decide_eq_true_eq,decide_eq_true_eq];exact h m (by omega) hc
   rw [e]
  rw [Bool.not_eq_true] at hc
  rw [hc];rfl
theorem zDm (h:FLe (nO t) f g) (hd:Q6_ t pos f k=true):Q6_ t pos g k=true/\H3 t pos f k (nO t)=H3 t pos g k (nO t):=by
 rw [u0] at hd
 refine ⟨u0.2 fun i hi hc=>?_,VQ_ (fun i hi hc=>?_) _ (Nat.le_refl _)⟩
 .rw [(h i hi).1 (hd i hi hc)];exact hd i hi hc
 rw [(h i hi).1 (hd i hi hc)]
theorem zPm (h:FLe (nO t) f g):le (nxO t pos f k) (nxO t pos g k):=by
 unfold nxO
 by_cases hc:(rdB (opX t k).op&&Q6_ t pos f k)=true
 .obtain ⟨c1,c2⟩:=Bool.and_eq_true_iff.1 hc
  obtain ⟨d1,d2⟩:=zDm h c2
  rw [if_pos hc,if_pos (show (rdB (opX t k).op&&Q6_ t pos g k)=true by rw [c1,d1];rfl),d2]
  split
  .exact le_refl _
  rename_i hn
  have:=zKv (t:=t) (pos:=pos) (f:=g) (k:=k) (nO t)
  exact (h _ (by omega)).2
 rw [if_neg hc]
 intro hk;cases hk
end
def nxN (t:Tst) (pos:Nat->Nat):Nx t:=⟨nxO t pos,fun _ _ h _ _=>zPm h⟩
def U4 (t:Tst) (w:List Bool) (pos:Nat->Nat):List Vl:=itR t w (nxN t pos) (nO t)
def flO (t:Tst) (w:List Bool) (pos:Nat->Nat):Os':=C9 t (U4 t w pos) w
def D6 (t:Tst) (w:List Bool) (pos:Nat->Nat):Nat->Fx:=fxO t (U4 t w pos) w
def frK (t:Tst) (pos:Nat->Nat) (f:Nat->Fx) (k:Nat):Int:=if rdB (opX t k).op&&decide ((f k).st=1) then (H3 t pos f k (nO t):Int)-1 else -1
def frO (t:Tst) (w:List Bool) (pos:Nat->Nat):List Int:=tab (nO t) (frK t pos (D6 t w pos))
def csO (t:Tst) (w:List Bool) (pos:Nat->Nat):Cs:=⟨t,flO t w pos,frO t w pos⟩
def zXx (t:Tst) (w:List Bool) (pos:Nat->Nat) (k:Nat):Option Nat:=if H3 t pos (D6 t w pos) ((D6 t w pos k).pr-1).toNat (nO t)=0 then none else some (pos (H3 t pos (D6 t w pos) ((D6 t w pos k).pr-1).toNat (nO t)-1))
def zky (t:Tst) (w:List Bool) (pos:Nat->Nat) (k:Nat):Prop :=
 (opX t k).op=14->(D6 t w pos k).st=1->(D6 t w pos k).pr≠0 ∧
  (∀ p,zXx t w pos k=some p->p<=pos k) ∧
  ∀ i,i<nO t->wrB (opX t i).op=true->(D6 t w pos i).st=1->(opX t i).loc=(opX t k).loc->G5 t i≠G5 t k->(∀ p,zXx t w pos k=some p->p<pos i)->¬ pos i<pos k
structure OrdE (ord:Cs->Rl) (t:Tst) (w:List Bool) (pos:Nat->Nat):Prop where
 inj:∀ a b,a<nO t->b<nO t->pos a=pos b->a=b
 whole:(flO t w pos).whole=true
 kept:∀ a b,a<nO t->b<nO t->ord (csO t w pos) a b=true->pos a<pos b
 par:∀ k,k<nO t->zky t w pos k
def ZA_ (t:Tst) (pos:Nat->Nat) (f:Nat->Fx) (loc:Nat):Nat->Nat
 | 0=>0
 | m+1=>if wrB (opX t m).op&&(decide ((opX t m).loc=(loc:Nat))&&(decide ((f m).st=1)&&(decide (ZA_ t pos f loc m=0)||decide (pos (ZA_ t pos f loc m-1)<pos m)))) then m+1 else ZA_ t pos f loc m
def zem (t:Tst) (w:List Bool) (pos:Nat->Nat) (loc:Nat):Int:=if ZA_ t pos (D6 t w pos) loc (nO t)=0 then (t.locs.getD loc ⟨ByteArray.empty,0⟩).v else ((D6 t w pos) (ZA_ t pos (D6 t w pos) loc (nO t)-1)).wr.v
def Z1 (t:Tst) (w:List Bool) (pos:Nat->Nat):List Int:=W5 t (X4_ (csO t w pos)) fun i=>if i<t.locs.length then zem t w pos i else 0
structure OrdOk (t:Tst) (ord:Cs->Rl):Prop where
 po:∀ c:Cs,c.t=t->FlOk c.n c.f.f->∀ a b,ord c a b=true->poP c a b=true
 loc:∀ c:Cs,c.t=t->FlOk c.n c.f.f->∀ a b,poP c a b=true->(c.x a).loc=(c.x b).loc->c.wr b=true->ord c a b=true
 path:∀ c:Cs,c.t=t->FlOk c.n c.f.f->∀ a b,poP c a b=true->c.wr b=true->R7 (c.f.f.path.getD b 0) a=true->ord c a b=true
 vl:∀ c:Cs,c.t=t->FlOk c.n c.f.f->∀ a b,poP c a b=true->c.wr b=true->R7 (c.f.f.value.getD b 0) a=true->ord c a b=true
 inn:∀ c:Cs,c.t=t->FlOk c.n c.f.f->∀ a m b,poP c a m=true->poP c m b=true->c.rd a=true->c.wr m=true->c.rd b=true->c.fr.getD b (-1)=(m:Nat)->R7 (c.f.f.value.getD m 0) a=true->ord c a b=true
 amo:∀ c:Cs,c.t=t->FlOk c.n c.f.f->∀ m b,poP c m b=true->(c.x m).op=12->c.rd b=true->c.fr.getD b (-1)=(m:Nat)->ord c m b=true
section
variable {t:Tst} {w:List Bool} {reads:List Vl}
def JQ_ (t:Tst) (reads:List Vl) (w:List Bool) (pos:Nat->Nat) (k:Nat):Nat :=
 (List.range (nO t)).foldr (fun q m=>if q=k\/(rdB (opX t q).op=true/\R7 (F1 t reads w (G5 t k) (opAt t k)).1.w.path q=true) then Nat.max (pos q) m else m) 0
theorem zDn {P:Nat->Prop} [DecidablePred P] {pos:Nat->Nat} {B:Nat}:∀ {l:List Nat},l.foldr (fun q m=>if P q then Nat.max (pos q) m else m) 0<=B↔∀ q∈l,P q->pos q<=B
 | []=>by simp
 | a::l=>by
  have ih:=zDn (P:=P) (pos:=pos) (B:=B) (l:=l)
  rw [foldr_cons]
  by_cases h:P a
  .rw [if_pos h]
   constructor
   .intro hm q hq hp
    rcases List.mem_cons.1 hq with rfl|hq
    .exact Nat.le_trans (Nat.le_max_left _ _) hm
    exact ih.1 (Nat.le_trans (Nat.le_max_right _ _) hm) q hq hp
   intro hh
   exact Nat.max_le.2 ⟨hh a (.head _) h,ih.2 fun q hq hp=>hh q (.tail _ hq) hp⟩
  rw [if_neg h,ih]
  constructor
  .intro hh q hq hp
   rcases List.mem_cons.1 hq with rfl|hq
   .exact absurd hp h
   exact hh q hq hp
  exact fun hh q hq hp=>hh q (.tail _ hq) hp
variable {pos:Nat->Nat}
theorem zDo {k B:Nat} (hk:k<nO t):JQ_ t reads w pos k<=B↔pos k<=B/\∀ q,q<nO t->rdB (opX t q).op=true->WH_ t reads w k q->pos q<=B:=by
 unfold JQ_
 rw [zDn (P:=fun q=>q=k\/(rdB (opX t q).op=true/\R7 (F1 t reads w (G5 t k) (opAt t k)).1.w.path q=true))]
 constructor
 .intro h
  exact ⟨h k (List.mem_range.2 hk) (.inl rfl),fun q hq h1 h2=>h q (List.mem_range.2 hq) (.inr ⟨h1,h2⟩)⟩
 rintro ⟨h1,h2⟩ q hq (rfl|h3)
 .exact h1
 exact h2 q (List.mem_range.1 hq) h3.1 h3.2
theorem UW_ {k:Nat} (hk:k<nO t):pos k<=JQ_ t reads w pos k:=((zDo hk).1 (Nat.le_refl _)).1
theorem zDp {k q:Nat} (hk:k<nO t) (hq:q<nO t) (hr:rdB (opX t q).op=true) (hp:WH_ t reads w k q):pos q<=JQ_ t reads w pos k:=((zDo hk).1 (Nat.le_refl _)).2 q hq hr hp
def WK_ (t:Tst) (reads:List Vl) (w:List Bool) (pos:Nat->Nat) (k:Nat):Nat:=JQ_ t reads w pos k*(nO t+1)+k
theorem zen {q k:Nat} (hq:q<nO t) (h:JQ_ t reads w pos q<JQ_ t reads w pos k):WK_ t reads w pos q<WK_ t reads w pos k:=by
 unfold WK_
 have:(JQ_ t reads w pos q+1)*(nO t+1)<=JQ_ t reads w pos k*(nO t+1):=Nat.mul_le_mul_right _ h
 rw [Nat.add_mul] at this
 omega
theorem zeo {q k:Nat} (h:JQ_ t reads w pos q<=JQ_ t reads w pos k) (hlt:q<k):WK_ t reads w pos q<WK_ t reads w pos k:=by
 unfold WK_
 have:JQ_ t reads w pos q*(nO t+1)<=JQ_ t reads w pos k*(nO t+1):=Nat.mul_le_mul_right _ h
 omega
abbrev csR (t:Tst) (reads:List Vl) (w:List Bool) (fr:List Int):Cs:=⟨t,C9 t reads w,fr⟩
theorem UX_ {fr:List Int} {k:Nat}:(csR t reads w fr).run k=true↔(fxO t reads w k).st=1:=decide_eq_true_iff
theorem VR_ {fr:List Int} {k:Nat}:(csR t reads w fr).rd k=true↔(fxO t reads w k).st=1/\rdB (opX t k).op=true:=by
 show ((csR t reads w fr).run k&&rdB (opX t k).op)=true↔_
 rw [Bool.and_eq_true,UX_]
theorem S2 {fr:List Int} {k:Nat}:(csR t reads w fr).wr k=true↔(fxO t reads w k).st=1/\wrB (opX t k).op=true:=by
 show ((csR t reads w fr).run k&&wrB (opX t k).op)=true↔_
 rw [Bool.and_eq_true,UX_]
theorem Zu_ {fr:List Int} {a b:Nat}:poP (csR t reads w fr) a b=true↔a<b/\b<nO t/\G5 t a=G5 t b/\(fxO t reads w a).st=1/\(fxO t reads w b).st=1:=by
 show (decide (a<b)&&decide (b<nO t)&&decide (G5 t a=G5 t b)&&((csR t reads w fr).run a&&(csR t reads w fr).run b))=true↔_
 simp only [Bool.and_eq_true,decide_eq_true_eq,UX_]
 constructor
 .rintro ⟨⟨⟨h1,h2⟩,h3⟩,h4,h5⟩;exact ⟨h1,h2,h3,h4,h5⟩
 rintro ⟨h1,h2,h3,h4,h5⟩;exact ⟨⟨⟨h1,h2⟩,h3⟩,h4,h5⟩
theorem run_lt {k:Nat} (h:(fxO t reads w k).st=1):k<nO t:=Classical.byContradiction fun hc=>by
 have:=(Q1 t reads w).l1
 have e:(fxO t reads w k).st=0:=by
  show (C9 t reads w).f.state.getD k 0=0
  rw [List.getD,List.getElem?_eq_none (by omega)];rfl
 rw [e] at h;cases h
variable {ord:Cs->Rl} {fr:List Int}
def zZ3 (t:Tst) (ord:Cs->Rl) (reads:List Vl) (w:List Bool) (fr:List Int) (pos:Nat->Nat):Prop:=∀ a b,a<nO t->b<nO t->ord (csR t reads w fr) a b=true->pos a<pos b
theorem zDq (ht:TG t) (ho:OrdOk t ord) (hp:zZ3 t ord reads w fr pos) {i q:Nat} (hi:(fxO t reads w i).st=1) (hw:wrB (opX t i).op=true) (hq:WH_ t reads w i q):pos q<pos i:=by
 have hn:=run_lt hi
 obtain ⟨h1,h2,h3,h4⟩:=Zs_ ht hn (by omega) hq
 have hlt:=(UT_ hn h3 h1).2 h2
 exact hp q i h3 hn (ho.path (csR t reads w fr) rfl (Q1 t reads w) q i (Zu_.2 ⟨hlt,hn,h1,h4,hi⟩) (S2.2 ⟨hi,hw⟩) (((WI_ hn hi).2.2.2.2 q).2 hq))
theorem zep (ht:TG t) (ho:OrdOk t ord) (hp:zZ3 t ord reads w fr pos) {i q:Nat} (hi:(fxO t reads w i).st=1) (hw:wrB (opX t i).op=true) (hq:R7 (fxO t reads w i).vl q=true):pos q<pos i:=by
 have hn:=run_lt hi
 obtain ⟨h1,h2,h3,h4⟩:=y7 ht hn hi hq
 have hlt:=(UT_ hn h3 h1).2 h2
 exact hp q i h3 hn (ho.vl (csR t reads w fr) rfl (Q1 t reads w) q i (Zu_.2 ⟨hlt,hn,h1,h4,hi⟩) (S2.2 ⟨hi,hw⟩) hq)
theorem zKw (ht:TG t) {k q:Nat} (hk:k<nO t) (hq:q<nO t) (hth:G5 t q=G5 t k) (hlt:q<k) (hs:(fxO t reads w k).st≠0) (hpos:pos q<=JQ_ t reads w pos k):WK_ t reads w pos q<WK_ t reads w pos k :=
 zeo ((zDo hq).2 ⟨hpos,fun p hp hr hpp=>zDp hk hp hr (UU_ ht hk hq hth (Nat.le_of_lt ((UT_ hk hq hth).1 hlt)) hs hpp)⟩) hlt
theorem WL_ (ht : TG t) (ho : OrdOk t ord) (hp : zZ3 t ord reads w fr pos) {i k q : Nat} (hi : (fxO t reads w i).st = 1) (hw : wrB (opX t i).op = true) (hk : k < nO t) (hik : pos i < pos k)
    (hq:WH_ t reads w i q\/R7 (fxO t reads w i).vl q=true\/q=i):WK_ t reads w pos q<WK_ t reads w pos k:=by
  have hn:=run_lt hi
  have hfacts:q<nO t/\G5 t q=G5 t i/\opAt t q<=opAt t i/\pos q<=pos i:=by
    rcases hq with hq|hq|rfl
    . have:=Zs_ ht hn (by omega) hq
      exact ⟨this.2.2.1,this.1,Nat.le_of_lt this.2.1,Nat.le_of_lt (zDq ht ho hp hi hw hq)⟩
    . have:=y7 ht hn hi hq
      exact ⟨this.2.2.1,this.1,Nat.le_of_lt this.2.1,Nat.le_of_lt (zep ht ho hp hi hw hq)⟩
    exact ⟨hn,rfl,Nat.le_refl _,Nat.le_refl _⟩
  obtain ⟨f1,f2,f3,f4⟩:=hfacts
  have h1:JQ_ t reads w pos q<=pos i:=(zDo f1).2 ⟨f4,fun p hp' hr hpp=>Nat.le_of_lt (zDq ht ho hp hi hw (UU_ ht hn f1 f2 f3 (by omega) hpp))⟩
  have h2:pos k<=JQ_ t reads w pos k:=UW_ hk
  exact zen f1 (by omega)
theorem zKx (ht : TG t) (ho : OrdOk t ord) (hp : zZ3 t ord reads w fr pos) {i k q : Nat} (hi : (fxO t reads w i).st = 1) (hw : wrB (opX t i).op = true) (hk : (fxO t reads w k).st = 1) (hr : rdB (opX t k).op = true) (hth : G5 t i = G5 t k) (hik : i < k)
    (hfr:fr.getD k (-1)=(i:Nat)) (hq:(rdB (opX t q).op=true/\R7 (fxO t reads w i).vl q=true)\/(q=i/\(opX t i).op=12)):WK_ t reads w pos q<WK_ t reads w pos k:=by
  have hn:=run_lt hi
  have hkn:=run_lt hk
  have hpo:poP (csR t reads w fr) i k=true:=Zu_.2 ⟨hik,hkn,hth,hi,hk⟩
  rcases hq with ⟨hq1,hq⟩|⟨rfl,h12⟩
  . obtain ⟨a1,a2,a3,a4⟩:=y7 ht hn hi hq
    have hlt:=(UT_ hn a3 a1).2 a2
    have h5:=hp q k a3 hkn (ho.inn (csR t reads w fr) rfl (Q1 t reads w) q i k (Zu_.2 ⟨hlt,hn,a1,a4,hi⟩) hpo (VR_.2 ⟨a4,hq1⟩) (S2.2 ⟨hi,hw⟩) (VR_.2 ⟨hk,hr⟩) hfr hq)
    exact zKw ht hkn a3 (a1.trans hth) (by omega) (by omega) (Nat.le_trans (Nat.le_of_lt h5) (UW_ hkn))
  have h5:=hp q k hn hkn (ho.amo (csR t reads w fr) rfl (Q1 t reads w) q k hpo h12 (VR_.2 ⟨hk,hr⟩) hfr)
  exact zKw ht hkn hn hth hik (by omega) (Nat.le_trans (Nat.le_of_lt h5) (UW_ hkn))
theorem zeq (ht:TG t) {i k q:Nat} (hi:i<nO t) (hk:(fxO t reads w k).st=1) (hth:G5 t i=G5 t k) (hik:i<k) (hr:rdB (opX t q).op=true) (hq:WH_ t reads w i q):WK_ t reads w pos q<WK_ t reads w pos k:=by
 have hkn:=run_lt hk
 have hs:=zXt hkn hi hth (Nat.le_of_lt ((UT_ hkn hi hth).1 hik)) (by omega:(fxO t reads w k).st≠0)
 have hqk:=UU_ ht hkn hi hth (Nat.le_of_lt ((UT_ hkn hi hth).1 hik)) (by omega) hq
 obtain ⟨a1,a2,a3,a4⟩:=Zs_ ht hi hs hq
 have hlt:=(UT_ hi a3 a1).2 a2
 exact zKw ht hkn a3 (a1.trans hth) (by omega) (by omega) (zDp hkn a3 hr hqk)
end
theorem zDr {α:Type} {d:α} {n:Nat} {l m:List α} (hl:l.length=n) (hm:m.length=n) (h:∀ k,k<n->l.getD k d=m.getD k d):l=m:=by
 apply ext_getElem (by omega)
 intro i h1 h2
 have:=h i (by omega)
 simpa [List.getD,List.getElem?_eq_getElem h1,List.getElem?_eq_getElem h2] using this
theorem UY_ {t : Tst} {v : List Bool} : ∀ (f k : Nat) (v0 : List Bool), v0.length = nO t → k + f = nO t → (∀ q, k ≤ q → v0.getD q false = false) →
    (v∈zA6 t f k v0↔v.length=nO t/\(∀ q,q<k->v.getD q false=v0.getD q false)/\∀ q,k<=q->v.getD q false=true->(opX t q).op=14)
  | 0,k,v0,hl,hk,h0=>by
    unfold zA6
    rw [mem_singleton]
    constructor
    . rintro rfl
      exact ⟨hl,fun _ _=>rfl,fun q hq h=>by rw [h0 q hq] at h;cases h⟩
    rintro ⟨h1,h2,_⟩
    exact zDr h1 hl fun q hq=>h2 q (by omega)
  | f+1,k,v0,hl,hk,h0=>by
    have iA:=UY_ (v:=v) f (k+1) v0 hl (by omega) fun q hq=>h0 q (by omega)
    have iB:=UY_ (v:=v) f (k+1) (v0.set k true) (by rw [length_set];exact hl) (by omega) fun q hq=>by rw [r9,if_neg (by omega)];exact h0 q (by omega)
    unfold zA6
    rw [mem_append,iA]
    have hB:v∈(if (opX t k).op=14 then zA6 t f (k+1) (v0.set k true) else [])↔(opX t k).op=14/\v∈zA6 t f (k+1) (v0.set k true):=by
      split
      . rename_i h;simp [h]
      rename_i h;simp [h]
    rw [hB,iB]
    constructor
    . rintro (⟨h1,h2,h3⟩|⟨h4,h1,h2,h3⟩)
      . refine ⟨h1,fun q hq=>h2 q (by omega),fun q hq h=>?_⟩
        by_cases e:q=k
        . rw [h2 q (by omega),h0 q hq] at h;cases h
        exact h3 q (by omega) h
      refine ⟨h1,fun q hq=>?_,fun q hq h=>?_⟩
      . rw [h2 q (by omega),r9,if_neg (by omega)]
      by_cases e:q=k
      . rw [e];exact h4
      exact h3 q (by omega) h
    rintro ⟨h1,h2,h3⟩
    by_cases hv:v.getD k false=true
    . right
      refine ⟨h3 k (Nat.le_refl _) hv,h1,fun q hq=>?_,fun q hq=>h3 q (by omega)⟩
      rw [r9]
      by_cases e:q=k
      . rw [if_pos ⟨e,by omega⟩,e,hv]
      rw [if_neg (by omega)];exact h2 q (by omega)
    left
    refine ⟨h1,fun q hq=>?_,fun q hq=>h3 q (by omega)⟩
    by_cases e:q=k
    . rw [e,h0 k (Nat.le_refl _)];simpa using hv
    exact h2 q (by omega)
theorem zAu {t:Tst} {v:List Int}:∀ (f k:Nat) (p:List Int),v∈Wc_ t f k p↔∃ s,v=p++s/\s.length=f/\∀ q,q<f->s.getD q 0∈YU_ t (k+q)
 | 0,k,p=>by
  unfold Wc_
  rw [mem_singleton]
  constructor
  .rintro rfl;exact ⟨[],by simp,rfl,fun q hq=>absurd hq (Nat.not_lt_zero _)⟩
  rintro ⟨s,rfl,hs,_⟩
  rw [List.length_eq_zero_iff.1 hs,append_nil]
 | f+1,k,p=>by
  unfold Wc_
  rw [mem_flatMap]
  constructor
  .rintro ⟨i,hi,h⟩
   obtain ⟨s,rfl,hs,h2⟩:=(zAu f (k+1) (p++[i])).1 h
   refine ⟨i::s,by simp,by simp [hs],fun q hq=>?_⟩
   cases q with
   | zero=>simpa using hi
   | succ q =>
    have:=h2 q (by omega)
    rw [getD_cons_succ,show k+(q+1)=k+1+q by omega];exact this
  rintro ⟨s,rfl,hs,h2⟩
  cases s with
  | nil=>cases hs
  | cons i s =>
   refine ⟨i,by simpa using h2 0 (by omega),(zAu f (k+1) (p++[i])).2 ⟨s,by simp,by simpa using hs,fun q hq=>?_⟩⟩
   have:=h2 (q+1) (by omega)
   rw [getD_cons_succ,show k+(q+1)=k+1+q by omega] at this;exact this
theorem zAv {t:Tst} {v:List Int}:v∈Wc_ t (nO t) 0 []↔v.length=nO t/\∀ q,q<nO t->v.getD q 0∈YU_ t q:=by
 rw [zAu]
 constructor
 .rintro ⟨s,rfl,hs,h⟩
  exact ⟨by simpa using hs,fun q hq=>by have:=h q hq;rw [Nat.zero_add] at this;simpa using this⟩
 rintro ⟨h1,h2⟩
 exact ⟨v,by simp,h1,fun q hq=>by rw [Nat.zero_add];exact h2 q hq⟩
theorem WM_ {t:Tst} {k:Nat} {i:Int}:i∈YU_ t k↔i=-1\/rdB (opX t k).op=true/\∃ m:Nat,i=m/\m<nO t/\zCs t k m=true:=by
 unfold YU_
 split
 .rename_i h
  unfold JO_
  simp only [mem_cons,mem_map,List.mem_filter,mem_range,h,true_and]
  constructor
  .rintro (h1|⟨m,⟨h2,h3⟩,rfl⟩)
   .exact .inl h1
   exact .inr ⟨m,rfl,h2,h3⟩
  rintro (h1|⟨m,rfl,h2,h3⟩)
  .exact .inl h1
  exact .inr ⟨m,⟨h2,h3⟩,rfl⟩
 rename_i h
 simp [h]
theorem YE_ {α:Type}:∀ {l:List α} {i:Nat} (h:i<l.length),(l[i]::l.eraseIdx i).Perm l
 | x::l,0,h=>by simp
 | x::l,i+1,h=>by
  have:=YE_ (l:=l) (i:=i) (by simpa using h)
  simp only [getElem_cons_succ,eraseIdx_cons_succ]
  exact (List.Perm.swap _ _ _).trans (this.cons x)
theorem zAw {q:List Nat}:∀ (f:Nat) (a l:List Nat),l.length=f->(q∈zIy f a l↔∃ p,p.Perm l/\q=a++p)
 | 0,a,l,h=>by
  rw [List.length_eq_zero_iff.1 h]
  unfold zIy
  rw [mem_singleton]
  constructor
  .rintro rfl;exact ⟨[],.refl _,by simp⟩
  rintro ⟨p,hp,rfl⟩
  rw [hp.eq_nil,append_nil]
 | f+1,a,l,h=>by
  unfold zIy
  simp only [mem_flatMap,mem_range]
  constructor
  .rintro ⟨i,hi,hq⟩
   obtain ⟨p,hp,rfl⟩:=(zAw f _ _ (by rw [length_eraseIdx_of_lt hi];omega)).1 hq
   have e:l.getD i 0=l[i]:=by rw [List.getD,List.getElem?_eq_getElem hi];rfl
   rw [e]
   exact ⟨l[i]::p,(hp.cons _).trans (YE_ hi),by simp⟩
  rintro ⟨p,hp,rfl⟩
  cases p with
  | nil=>have:=hp.length_eq;rw [h] at this;cases this
  | cons x p =>
   obtain ⟨i,hi,hx⟩:=List.mem_iff_getElem.1 (hp.mem_iff.1 (mem_cons_self ..))
   have e:l.getD i 0=x:=by rw [List.getD,List.getElem?_eq_getElem hi];exact hx
   refine ⟨i,hi,(zAw f _ _ (by rw [length_eraseIdx_of_lt hi];omega)).2 ⟨p,?_,by rw [e];simp⟩⟩
   have h2:=YE_ hi
   rw [hx] at h2
   exact (hp.trans h2.symm).cons_inv
theorem zKy {q l:List Nat}:q∈zIy l.length [] l↔q.Perm l:=by
 rw [zAw _ _ _ rfl]
 constructor
 .rintro ⟨p,hp,rfl⟩;simpa using hp
 intro h;exact ⟨q,h,by simp⟩
theorem zKz (pos:Nat->Nat):∀ (l:List Nat),l.Nodup->(∀ a∈l,∀ b∈l,pos a=pos b->a=b)->∃ p:List Nat,p.Perm l/\p.Pairwise fun a b=>pos a<pos b
 | [],_,_=>⟨[],.refl _,.nil⟩
 | x::l,hn,hi=>by
  obtain ⟨hx,hl⟩:=List.nodup_cons.1 hn
  obtain ⟨p,hp,hs⟩:=zKz pos l hl fun a ha b hb=>hi a (.tail _ ha) b (.tail _ hb)
  refine ⟨p.filter (fun a=>decide (pos a<pos x))++x::p.filter (fun a=>!decide (pos a<pos x)),?_,?_⟩
  .refine List.perm_middle.trans (List.Perm.cons x (List.Perm.trans ?_ hp))
   exact filter_append_perm _ _
  rw [pairwise_append]
  refine ⟨hs.sublist filter_sublist,List.pairwise_cons.2 ⟨fun b hb=>?_,hs.sublist filter_sublist⟩,fun a ha b hb=>?_⟩
  .obtain ⟨h1,h2⟩:=List.mem_filter.1 hb
   have h3:¬ pos b<pos x:=by simpa using h2
   have hbl:=hp.mem_iff.1 h1
   have:pos b≠pos x:=fun e=>hx (hi b (.tail _ hbl) x (.head _) e▸hbl)
   omega
  obtain ⟨h1,h2⟩:=List.mem_filter.1 ha
  have h3:pos a<pos x:=by simpa using h2
  rcases List.mem_cons.1 hb with rfl|hb
  .exact h3
  have h4:¬ pos b<pos x:=by simpa using (List.mem_filter.1 hb).2
  omega
theorem zAx {p:List Nat} {a b:Nat}:X3_ p a b=true↔∃ u v x,p=u++a::v/\b∈v/\x=0:=by
 induction p with
 | nil=>simp [X3_]
 | cons y p ih =>
  unfold X3_
  rw [Bool.or_eq_true,ih,Bool.and_eq_true,decide_eq_true_eq,decide_eq_true_eq]
  constructor
  .rintro (⟨rfl,h⟩|⟨u,v,x,rfl,h,e⟩)
   .exact ⟨[],p,0,rfl,h,rfl⟩
   exact ⟨y::u,v,x,rfl,h,e⟩
  rintro ⟨u,v,x,h,hb,e⟩
  cases u with
  | nil =>
   simp only [nil_append,List.cons.injEq] at h
   obtain ⟨rfl,rfl⟩:=h
   exact .inl ⟨rfl,hb⟩
  | cons z u =>
   simp only [cons_append,List.cons.injEq] at h
   obtain ⟨rfl,rfl⟩:=h
   exact .inr ⟨u,v,x,rfl,hb,e⟩
theorem zDs {p:List Nat} {a b:Nat} (h:X3_ p a b=true):a∈p/\b∈p:=by
 obtain ⟨u,v,x,rfl,hb,_⟩:=zAx.1 h
 exact ⟨by simp,by simp [hb]⟩
theorem zL0 {p:List Nat} {a b:Nat} (ha:a∈p) (hb:b∈p) (hne:a≠b):X3_ p a b=true\/X3_ p b a=true:=by
 induction p with
 | nil=>cases ha
 | cons y p ih =>
  simp only [X3_,Bool.or_eq_true,Bool.and_eq_true,decide_eq_true_eq]
  rcases List.mem_cons.1 ha with e1|ha2
  .rcases List.mem_cons.1 hb with e2|hb2
   .exact absurd (e1.trans e2.symm) hne
   exact .inl (.inl ⟨e1.symm,hb2⟩)
  rcases List.mem_cons.1 hb with e2|hb2
  .exact .inr (.inl ⟨e2.symm,ha2⟩)
  exact (ih ha2 hb2).imp .inr .inr
theorem VS_ {pos:Nat->Nat} {p:List Nat} (hs:p.Pairwise fun a b=>pos a<pos b) {a b:Nat}:X3_ p a b=true↔a∈p/\b∈p/\pos a<pos b:=by
 constructor
 .intro h
  obtain ⟨h1,h2⟩:=zDs h
  refine ⟨h1,h2,?_⟩
  obtain ⟨u,v,x,rfl,hb,_⟩:=zAx.1 h
  exact (List.pairwise_cons.1 (List.pairwise_append.1 hs).2.1).1 b hb
 rintro ⟨h1,h2,h3⟩
 rcases zL0 h1 h2 (fun e=>by rw [e] at h3;omega) with h|h
 .exact h
 exfalso
 obtain ⟨u,v,x,rfl,hb,_⟩:=zAx.1 h
 have:=(List.pairwise_cons.1 (List.pairwise_append.1 hs).2.1).1 a hb
 omega
def zFh:Nat->List (List Nat)->List Int->List Int
 | _,[],l=>l
 | loc,p::r,l=>zFh (loc+1) r (zA7 l loc p)
theorem WN_ {c : Cs} {las : List Int} {co : Rl} : ∀ (f loc : Nat) (l : List Int) (co0 : Rl), (las, co) ∈ zLq c f loc l co0 ↔
    ∃ ps:List (List Nat),ps.length=f/\(∀ i,i<f->(ps.getD i []).Perm (W8 c (loc+i) c.n))/\las=zFh loc ps l/\co=fun a b=>co0 a b||ps.any fun p=>X3_ p a b
  | 0,loc,l,co0=>by
    unfold zLq
    rw [mem_singleton]
    constructor
    . intro h
      obtain ⟨rfl,rfl⟩:=Prod.mk.inj h
      exact ⟨[],rfl,fun i hi=>absurd hi (Nat.not_lt_zero _),rfl,by funext a b;simp⟩
    rintro ⟨ps,hp,_,rfl,rfl⟩
    rw [List.length_eq_zero_iff.1 hp]
    congr 1
    funext a b;simp
  | f+1,loc,l,co0=>by
    unfold zLq
    rw [mem_flatMap]
    constructor
    . rintro ⟨p,hp,h⟩
      obtain ⟨ps,h1,h2,rfl,rfl⟩:=(WN_ f (loc+1) _ _).1 h
      refine ⟨p::ps,by simp [h1],fun i hi=>?_,rfl,?_⟩
      . cases i with
        | zero=>exact zKy.1 hp
        | succ i=>rw [getD_cons_succ,show loc+(i+1)=loc+1+i by omega];exact h2 i (by omega)
      funext a b;simp [Bool.or_assoc]
    rintro ⟨ps,hp,h2,rfl,rfl⟩
    cases ps with
    | nil=>cases hp
    | cons p ps =>
      refine ⟨p,zKy.2 (by simpa using h2 0 (by omega)),(WN_ f (loc+1) _ _).2 ⟨ps,by simpa using hp,fun i hi=>?_,rfl,?_⟩⟩
      . have:=h2 (i+1) (by omega)
        rw [getD_cons_succ,show loc+(i+1)=loc+1+i by omega] at this;exact this
      funext a b;simp [Bool.or_assoc]
theorem zPn (l:List Int) (loc:Nat) (p:List Nat):(zA7 l loc p).length=l.length:=by unfold zA7;split<;>simp
theorem zL1:∀ (ps:List (List Nat)) (loc:Nat) (l:List Int) (i:Nat),loc+ps.length<=l.length->(zFh loc ps l).getD i 0=if loc<=i/\i<loc+ps.length then (match (ps.getD (i-loc) []).getLast? with|none=>l.getD i 0|some k=>(k:Int)+1) else l.getD i 0
 | [],loc,l,i,_=>by unfold zFh;rw [if_neg (by intro h;have:=h.2;simp at this;omega)]
 | p::r,loc,l,i,h=>by
  have h':loc+(r.length+1)<=l.length:=by simpa using h
  unfold zFh
  rw [zL1 r (loc+1) _ i (by rw [zPn];omega),length_cons]
  have hT:(zA7 l loc p).getD i 0=if i=loc then (match p.getLast? with|none=>l.getD i 0|some k=>(k:Int)+1) else l.getD i 0:=by
   unfold zA7
   cases p.getLast? with
   | none=>simp
   | some k =>
    dsimp only
    rw [r9]
    by_cases e:i=loc
    .rw [if_pos ⟨e,by omega⟩,if_pos e]
    rw [if_neg (by omega),if_neg e]
  by_cases e:i=loc
  .subst e
   rw [if_neg (by omega),if_pos (by omega),hT,if_pos rfl,Nat.sub_self]
   first|rfl|simp
  by_cases hc:loc+1<=i/\i<loc+1+r.length
  .rw [if_pos hc,if_pos (by omega),hT,if_neg e]
   obtain ⟨m,hm⟩:∃ m,i-loc=m+1:=⟨i-loc-1,by omega⟩
   rw [hm,getD_cons_succ,show i-(loc+1)=m by omega]
  rw [if_neg hc,if_neg (by omega),hT,if_neg e]
theorem L3 {c:Cs} {loc k:Nat}:k∈W8 c loc c.n↔k<c.n/\c.wr k=true/\(c.x k).loc=(loc:Nat):=by
 unfold W8
 simp [List.mem_filter,and_assoc]
theorem zL2 {c:Cs} {loc m:Nat}:(W8 c loc m).Nodup:=List.Pairwise.sublist filter_sublist nodup_range
theorem zDt {p:Rl} {pos:Nat->Nat} (h:∀ a b,p a b=true->pos a<pos b):∀ (n a b:Nat),wN p n a b=true->pos a<pos b
 | 0,a,b,hw=>h a b hw
 | n+1,a,b,hw=>by
  simp only [wN,Bool.or_eq_true,Bool.and_eq_true] at hw
  rcases hw with hw|⟨h1,h2⟩
  .exact zDt h n a b hw
  have:=zDt h n a n h1
  have:=zDt h n n b h2
  omega
theorem zL3 {p:Rl} {pos:Nat->Nat} (h:∀ a b,p a b=true->pos a<pos b):a8 p=false:=by
 cases hl:a8 p with
 | false=>rfl
 | true =>
  unfold a8 at hl
  obtain ⟨a,_,ha⟩:=F2.1 hl
  have:=zDt h 16 a a ha
  omega
theorem zDu {p:Rl}:zEx p=true↔∃ a b,a<16/\b<16/\p a b=true:=by
 unfold zEx
 rw [F2]
 constructor
 .rintro ⟨a,ha,h⟩
  obtain ⟨b,hb,h⟩:=F2.1 h
  exact ⟨a,b,ha,hb,h⟩
 rintro ⟨a,b,ha,hb,h⟩
 exact ⟨a,ha,F2.2 ⟨b,hb,h⟩⟩
section
variable {t:Tst} {w:List Bool} {reads:List Vl} {pos:Nat->Nat} {ord:Cs->Rl}
theorem Y9_ (h:(C9 t reads w).whole=true) {k:Nat} (hk:k<nO t):(fxO t reads w k).st≠0:=by
 obtain ⟨p1,_,_,p4⟩:=Q4 hk
 exact (O6 hk).2 (UR_ (Nat.le_of_lt (List.getElem?_eq_some_iff.1 p1).1) ((s9 t reads w).1 h _ p4).1)
theorem zAy {i:Nat}:∀ b,(F1 t reads w i b).2=true->(F1 t reads w i b).1.w.lr=0\/∃ q:Nat,(F1 t reads w i b).1.w.lr=(q:Int)+1/\q<nO t/\(opX t q).op=13/\G5 t q=i/\opAt t q<b/\(fxO t reads w q).st=1/\(opX t q).loc=(F1 t reads w i b).1.w.lrLoc
 | 0,_=>.inl rfl
 | b+1,h=>by
  have hp:=f5 h
  have ih:=zAy b hp
  by_cases hb:b<(lth t i).length
  .have hx:=List.getElem?_eq_getElem hb
   have hat:=VP_ (reads:=reads) (works:=w) hx
   have hno:=y5 hx
   rw [G0 hx,if_pos hp]
   have up:∀ {a c:Int},a=(F1 t reads w i b).1.w.lr->c=(F1 t reads w i b).1.w.lrLoc->a=0\/∃ q:Nat,a=(q:Int)+1/\q<nO t/\(opX t q).op=13/\G5 t q=i/\opAt t q<b+1/\(fxO t reads w q).st=1/\(opX t q).loc=c:=fun e1 e2=>by
    subst e1 e2
    rcases ih with ih|⟨q,h1,h2,h3,h4,h5,h6⟩
    .exact .inl ih
    exact .inr ⟨q,h1,h2,h3,h4,by omega,h6⟩
   generalize hs:(F1 t reads w i b).1=s at *
   unfold S6
   split
   .exact up rfl rfl
   rename_i ho
   split
   .rename_i hm
    obtain ⟨a1,a2,a3⟩:=hat hm hp ho
    obtain ⟨b1,b2,b3,b4⟩:=hno hm
    dsimp only
    unfold U5
    split
    .exact up rfl rfl
    split
    .rename_i h13
     right
     refine ⟨s.k,rfl,by omega,by rw [a2,b2];exact h13,by rw [a2];exact b3,by rw [a2,b4];omega,?_,by rw [a2,b2]⟩
     rw [a2,a3];unfold z7;rw [if_neg (by omega)]
    split
    .exact up rfl rfl
    split
    .exact up rfl rfl
    split
    .unfold Xo_
     left
     cases w.getD s.k false<;>rfl
    exact up rfl rfl
   split
   .exact up rfl rfl
   dsimp only
   unfold N9
   split
   .exact up rfl rfl
   split<;>exact up rfl rfl
  rw [I3 hb]
  rcases ih with ih|⟨q,h1,h2,h3,h4,h5,h6⟩
  .exact .inl ih
  exact .inr ⟨q,h1,h2,h3,h4,by omega,h6⟩
theorem zL4 {k:Nat} (h:(fxO t reads w k).st=1) (hp:(fxO t reads w k).pr≠0):(opX t k).op=14/\∃ q:Nat,(fxO t reads w k).pr=(q:Int)+1/\q<k/\(opX t q).op=13/\G5 t q=G5 t k/\(fxO t reads w q).st=1/\(opX t q).loc=(opX t k).loc:=by
 have hk:=run_lt h
 obtain ⟨h1,ho,h14,e,_⟩:=WI_ hk h
 rw [e] at hp ⊢
 replace hp:(if (opX t k).op=14/\0<(F1 t reads w (G5 t k) (opAt t k)).1.w.lr/\(F1 t reads w (G5 t k) (opAt t k)).1.w.lrLoc=(opX t k).loc then (F1 t reads w (G5 t k) (opAt t k)).1.w.lr else 0)≠0:=hp
 show (opX t k).op=14/\∃ q:Nat,(if (opX t k).op=14/\0<(F1 t reads w (G5 t k) (opAt t k)).1.w.lr/\(F1 t reads w (G5 t k) (opAt t k)).1.w.lrLoc=(opX t k).loc then (F1 t reads w (G5 t k) (opAt t k)).1.w.lr else 0)=(q:Int)+1/\_
 split at hp
 .rename_i hc
  rw [if_pos hc]
  refine ⟨hc.1,?_⟩
  rcases zAy _ h1 with h0|⟨q,a1,a2,a3,a4,a5,a6,a7⟩
  .omega
  exact ⟨q,a1,(UT_ hk a2 a4).2 a5,a3,a4,a6,a7.trans hc.2.2⟩
 exact absurd rfl hp
theorem zPo {k:Nat} (h:(fxO t reads w k).st=1) (h14:(opX t k).op=14):w.getD k false=true:=by
 have:=(WI_ (run_lt h) h).2.2.1
 cases e:w.getD k false with
 | true=>rfl
 | false=>exact absurd ⟨h14,e⟩ this
theorem L4 (hinj:∀ a b,a<nO t->b<nO t->pos a=pos b->a=b) {k i:Nat} (hk:k<nO t) (hi:i<nO t) (h:Wf_ t pos k i=true):i≠k/\wrB (opX t i).op=true/\(opX t i).loc=(opX t k).loc/\(pos i<pos k\/(G5 t i=G5 t k/\i<k)):=by
 unfold Wf_ poA at h
 simp only [Bool.and_eq_true,Bool.or_eq_true,Bool.not_eq_true',decide_eq_false_iff_not,decide_eq_true_eq] at h
 obtain ⟨h1,h2,h3,h4⟩:=h
 refine ⟨h1,h2,h3,?_⟩
 rcases h4 with h4|h4
 .have:pos i≠pos k:=fun e=>h1 (hinj i k hi hk e)
  exact .inl (by omega)
 exact .inr h4
theorem zDv {k i:Nat} (h1:i≠k) (h2:wrB (opX t i).op=true) (h3:(opX t i).loc=(opX t k).loc) (h4:¬ pos k<pos i\/(G5 t i=G5 t k/\i<k)):Wf_ t pos k i=true:=by
 unfold Wf_ poA
 simp only [Bool.and_eq_true,Bool.or_eq_true,Bool.not_eq_true',decide_eq_false_iff_not,decide_eq_true_eq]
 exact ⟨h1,h2,h3,h4⟩
theorem Q7_ {k:Nat} (hk:k<nO t) (d:Int):(frO t w pos).getD k d=frK t pos (D6 t w pos) k:=I1 hk
theorem UZ_ {k:Nat} (h:(D6 t w pos k).st=1) (hr:rdB (opX t k).op=true) (d:Int):(frO t w pos).getD k d=(H3 t pos (D6 t w pos) k (nO t):Int)-1:=by
 rw [Q7_ (run_lt h)]
 unfold frK
 rw [hr,h];rfl
theorem OrdE.resp (hE:OrdE ord t w pos):zZ3 t ord (U4 t w pos) w (frO t w pos) pos:=hE.kept
theorem Q8_ (ht:TG t) (ho:OrdOk t ord) (hE:OrdE ord t w pos) {k:Nat} (hk:(D6 t w pos k).st=1) (hr:rdB (opX t k).op=true):((U4 t w pos).getD k zV).k=true:=by
 have key:∀ m k,WK_ t (U4 t w pos) w pos k<m->(D6 t w pos k).st=1->rdB (opX t k).op=true->((U4 t w pos).getD k zV).k=true:=fun m=>by
  induction m with
  | zero=>intro k h;exact absurd h (Nat.not_lt_zero _)
  | succ m ih =>
   intro k hm hk hr
   have hkn:=run_lt hk
   have hnx:(nxO t pos (D6 t w pos) k).k=true:=by
    unfold nxO
    have hd:Q6_ t pos (D6 t w pos) k=true:=u0.2 fun i hi _=>Y9_ hE.whole hi
    rw [if_pos (show (rdB (opX t k).op&&Q6_ t pos (D6 t w pos) k)=true by rw [hr,hd];rfl)]
    split
    .rfl
    rename_i hL
    obtain ⟨s1,s2,s3,s4⟩:=(G7 (t:=t) (pos:=pos) (f:=D6 t w pos) (k:=k) (nO t)).2 hL
    have hfr:(frO t w pos).getD k (-1)=((H3 t pos (D6 t w pos) k (nO t)-1:Nat):Int):=by rw [UZ_ hk hr];omega
    generalize H3 t pos (D6 t w pos) k (nO t)-1=i at *
    obtain ⟨c1,c2,c3,c4⟩:=L4 hE.inj hkn s1 s2
    have hdep:∀ q,(rdB (opX t q).op=true/\R7 (D6 t w pos i).vl q=true)\/(q=i/\(opX t i).op=12)->WK_ t (U4 t w pos) w pos q<WK_ t (U4 t w pos) w pos k:=fun q hq=>by
     rcases c4 with c4|⟨c4,c5⟩
     .exact WL_ ht ho hE.resp s3 c2 hkn c4 (hq.elim (fun h=>.inr (.inl h.2)) fun h=>.inr (.inr h.1))
     exact zKx ht ho hE.resp s3 c2 hk hr c4 c5 hfr hq
    refine Zr_ ht s1 c2 s3 (fun q hq hqr=>?_) fun h12 hir=>?_
    .exact ih q (by have:=hdep q (.inl ⟨hqr,hq⟩);omega) (y7 ht s1 s3 hq).2.2.2 hqr
    exact ih i (by have:=hdep i (.inr ⟨rfl,h12⟩);omega) s3 hir
   have e:(itR t w (nxN t pos) (nO t+1)).getD k zV=nxO t pos (D6 t w pos) k:=I1 hkn
   have hs:=t8 (t:=t) (w:=w) (N:=nxN t pos) k
   rw [e] at hs
   show ((itR t w (nxN t pos) (nO t)).getD k zV).k=true
   rw [<-hs hnx];exact hnx
 exact key _ k (Nat.lt_succ_self _) hk hr
def stN (t:Tst) (fr:List Int):Nx t where
 N f k:=if rdB (opX t k).op then (if fr.getD k 0<0 then zel t k else if (fr.getD k 0).toNat<nO t/\(f (fr.getD k 0).toNat).st=1 then (f (fr.getD k 0).toNat).wr else zV) else zV
 mono f g h k _:=by
  split
  .split
   .exact le_refl _
   by_cases hc:(fr.getD k 0).toNat<nO t/\(f (fr.getD k 0).toNat).st=1
   .rw [if_pos hc]
    have:=h _ hc.1
    rw [if_pos ⟨hc.1,by rw [this.1 (by rw [hc.2];decide)];exact hc.2⟩]
    exact this.2
   rw [if_neg hc];intro hk;cases hk
  exact le_refl _
theorem WO_ (fr:List Int):∀ j,z8 t w fr j=C9 t (itR t w (stN t fr) j) w
 | 0=>rfl
 | j+1=>by
  show C9 t (knT t (z8 t w fr j).f fr) w=C9 t (tab (nO t) ((stN t fr).N (fxO t (itR t w (stN t fr) j) w))) w
  congr 1
  unfold knT
  congr 1
  funext k
  rw [WO_ fr j]
  show (if rdB (opX t k).op then _ else _)=(if rdB (opX t k).op then _ else _)
  split
  .split
   .rfl
   show (if (fxO t (itR t w (stN t fr) j) w (fr.getD k 0).toNat).st=1 then (fxO t (itR t w (stN t fr) j) w (fr.getD k 0).toNat).wr else zV)=_
   by_cases hc:(fxO t (itR t w (stN t fr) j) w (fr.getD k 0).toNat).st=1
   .rw [if_pos hc,if_pos ⟨run_lt hc,hc⟩]
   rw [if_neg hc,if_neg fun h=>hc h.2]
  rfl
theorem zL5 (ht:TG t) (ho:OrdOk t ord) (hE:OrdE ord t w pos):z8 t w (frO t w pos) (nO t)=flO t w pos:=by
 rw [WO_]
 have key:∀ j,j<=nO t->RLe t w (itR t w (nxN t pos) j) (itR t w (stN t (frO t w pos)) j):=fun j=>by
  induction j with
  | zero=>exact fun _ q _ _=>le_refl _
  | succ j ih =>
   intro hj q hq hrun
   have ih:=ih (by omega)
   have hF:(D6 t w pos q).st=1:=by
    rw [<-hrun]
    exact ((Zq_ (RLe.of (zKt (t:=t) (w:=w) (N:=nxN t pos) (j+1) (nO t) hj)) hq (by omega)).1).symm
   show le ((tab (nO t) (nxO t pos (fxO t (itR t w (nxN t pos) j) w))).getD q zV) ((tab (nO t) ((stN t (frO t w pos)).N (fxO t (itR t w (stN t (frO t w pos)) j) w))).getD q zV)
   rw [I1 hq,I1 hq]
   unfold nxO
   by_cases hc:(rdB (opX t q).op&&Q6_ t pos (fxO t (itR t w (nxN t pos) j) w) q)=true
   .rw [if_pos hc]
    obtain ⟨c1,c2⟩:=Bool.and_eq_true_iff.1 hc
    obtain ⟨d1,d2⟩:=zDm (Q5_ (RLe.of (zKt (t:=t) (w:=w) (N:=nxN t pos) j (nO t) (by omega)))) c2
    have hfr:(frO t w pos).getD q 0=(H3 t pos (fxO t (itR t w (nxN t pos) j) w) q (nO t):Int)-1:=by rw [UZ_ hF c1,d2];rfl
    show le _ (if rdB (opX t q).op then _ else _)
    rw [if_pos c1,hfr]
    by_cases hL:H3 t pos (fxO t (itR t w (nxN t pos) j) w) q (nO t)=0
    .rw [if_pos hL,hL,if_pos (by decide)];exact le_refl _
    obtain ⟨s1,s2,s3,s4⟩:=(G7 (t:=t) (pos:=pos) (f:=fxO t (itR t w (nxN t pos) j) w) (k:=q) (nO t)).2 hL
    rw [if_neg hL,if_neg (by omega),show ((H3 t pos (fxO t (itR t w (nxN t pos) j) w) q (nO t):Int)-1).toNat=H3 t pos (fxO t (itR t w (nxN t pos) j) w) q (nO t)-1 by omega]
    have hl:=Q5_ ih _ s1
    rw [if_pos ⟨s1,by rw [hl.1 (by rw [s3];decide)];exact s3⟩]
    exact hl.2
   rw [if_neg hc];intro hk;cases hk
 have hR:=key (nO t) (Nat.le_refl _)
 refine (Alike.eq (works':=w) ⟨fun q hq hr hrun=>?_,fun _ _ _ _ _ _ _ _=>rfl⟩).symm
 exact hR q hq hrun (Q8_ ht ho hE hrun hr)
def zAz (t:Tst) (w:List Bool) (pos:Nat->Nat):List Bool:=tab (nO t) fun k=>w.getD k false&&decide ((D6 t w pos k).st=1)
theorem zL6 {k:Nat} (hk:k<nO t):(zAz t w pos).getD k false=(w.getD k false&&decide ((D6 t w pos k).st=1)):=I1 hk
theorem Q9_ {j:Nat} (hj:j<=nO t):Alike t (itR t w (nxN t pos) j) (itR t w (nxN t pos) j) w (zAz t w pos) :=
 ⟨fun _ _ _ _=>rfl,fun i b x hx hm h14 hp hout=>by
  obtain ⟨a1,a2,a3⟩:=VP_ hx hm hp hout
  rw [zL6 a1]
  cases hw:w.getD (Yl_ t i b) false with
  | false=>rfl
  | true =>
   rw [hw] at a3
   have h1:(fxO t (itR t w (nxN t pos) j) w (Yl_ t i b)).st=1:=by rw [a3];unfold z7;simp
   have h2:(D6 t w pos (Yl_ t i b)).st=1:=by
    rw [<-h1]
    exact ((Zq_ (RLe.of (zKt (t:=t) (w:=w) (N:=nxN t pos) j (nO t) hj)) a1 (by omega)).1).symm
   rw [h2];rfl⟩
theorem zRk:∀ j,j<=nO t->itR t w (nxN t pos) j=itR t (zAz t w pos) (nxN t pos) j
 | 0,_=>rfl
 | j+1,hj=>by
  have ih:=zRk j (by omega)
  show tab (nO t) ((nxN t pos).N (fxO t (itR t w (nxN t pos) j) w))=tab (nO t) ((nxN t pos).N (fxO t (itR t (zAz t w pos) (nxN t pos) j) (zAz t w pos)))
  rw [<-ih]
  have:fxO t (itR t w (nxN t pos) j) w=fxO t (itR t w (nxN t pos) j) (zAz t w pos):=by
   funext k
   unfold fxO
   rw [(Q9_ (pos:=pos) (w:=w) (by omega:j<=nO t)).eq]
  rw [this]
theorem zXy:U4 t (zAz t w pos) pos=U4 t w pos:=(zRk (nO t) (Nat.le_refl _)).symm
theorem zL7:flO t (zAz t w pos) pos=flO t w pos:=by
 unfold flO
 rw [zXy]
 exact ((Q9_ (pos:=pos) (w:=w) (Nat.le_refl _)).eq).symm
theorem zDw:D6 t (zAz t w pos) pos=D6 t w pos:=by
 funext k
 show d9 (flO t (zAz t w pos) pos).f k=d9 (flO t w pos).f k
 rw [zL7]
theorem zRl:csO t (zAz t w pos) pos=csO t w pos:=by
 unfold csO frO
 rw [zL7,zDw]
theorem zPp (h:OrdE ord t w pos):OrdE ord t (zAz t w pos) pos :=
 ⟨h.inj,by rw [zL7];exact h.whole,by rw [zRl];exact h.kept,fun k hk=>by
  have:=h.par k hk
  unfold zky zXx at this ⊢
  rw [zDw];exact this⟩
theorem zXz:Z1 t (zAz t w pos) pos=Z1 t w pos:=by
 unfold Z1 zem
 rw [zRl,zDw]
theorem zB0:(zAz t w pos).length=nO t:=R6 ..
theorem zY0 {k:Nat} (h:(zAz t w pos).getD k false=true):(D6 t w pos k).st=1:=by
 by_cases hk:k<nO t
 .rw [zL6 hk,Bool.and_eq_true,decide_eq_true_eq] at h;exact h.2
 rw [List.getD,List.getElem?_eq_none (by rw [zB0];omega)] at h;cases h
end
structure TB (t:Tst):Prop where
 n16:nO t<=16
 locs:t.locs.length<=8
 loc:∀ k,k<nO t->0<=(opX t k).loc/\(opX t k).loc<t.locs.length
section
variable {t:Tst} {w:List Bool} {pos:Nat->Nat} {ord:Cs->Rl}
theorem zer {k:Nat}:(csO t w pos).rd k=true↔(D6 t w pos k).st=1/\rdB (opX t k).op=true:=VR_
theorem p9 {k:Nat}:(csO t w pos).wr k=true↔(D6 t w pos k).st=1/\wrB (opX t k).op=true:=S2
theorem JA_ {a b:Nat}:poP (csO t w pos) a b=true↔a<b/\b<nO t/\G5 t a=G5 t b/\(D6 t w pos a).st=1/\(D6 t w pos b).st=1:=Zu_
theorem zY1 {k i:Nat} (hi:(D6 t w pos i).st=1) (hc:Wf_ t pos k i=true):H3 t pos (D6 t w pos) k (nO t)≠0/\pos i<=pos (H3 t pos (D6 t w pos) k (nO t)-1):=by
 have hn:=run_lt hi
 obtain ⟨h1,h2⟩:=G7 (t:=t) (pos:=pos) (f:=D6 t w pos) (k:=k) (nO t)
 have hL:H3 t pos (D6 t w pos) k (nO t)≠0:=fun e=>h1 e i hn ⟨hc,hi⟩
 exact ⟨hL,(h2 hL).2.2.2 i hn hc hi⟩
theorem XA_ {f : Nat → Fx} {loc : Nat} : ∀ m, (ZA_ t pos f loc m = 0 → ∀ i, i < m → ¬ (wrB (opX t i).op = true ∧ (opX t i).loc = (loc : Nat) ∧ (f i).st = 1)) ∧
    (ZA_ t pos f loc m≠0->ZA_ t pos f loc m-1<m/\wrB (opX t (ZA_ t pos f loc m-1)).op=true/\(opX t (ZA_ t pos f loc m-1)).loc=(loc:Nat)/\(f (ZA_ t pos f loc m-1)).st=1/\∀ i,i<m->wrB (opX t i).op=true->(opX t i).loc=(loc:Nat)->(f i).st=1->pos i<=pos (ZA_ t pos f loc m-1))
  | 0=>⟨fun _ i h=>absurd h (Nat.not_lt_zero _),fun h=>absurd rfl h⟩
  | m+1=>by
    obtain ⟨h1,h2⟩:=XA_ (f:=f) (loc:=loc) m
    unfold ZA_
    by_cases hc:(wrB (opX t m).op&&(decide ((opX t m).loc=(loc:Nat))&&(decide ((f m).st=1)&&(decide (ZA_ t pos f loc m=0)||decide (pos (ZA_ t pos f loc m-1)<pos m)))))=true
    . rw [if_pos hc]
      simp only [Bool.and_eq_true,Bool.or_eq_true,decide_eq_true_eq] at hc
      obtain ⟨c0,c1,c2,c3⟩:=hc
      refine ⟨fun h=>absurd h (by omega),fun _=>⟨by omega,c0,c1,c2,fun i hi a0 a1 a2=>?_⟩⟩
      show pos i<=pos m
      by_cases e:i=m
      . subst e;exact Nat.le_refl _
      rcases c3 with c3|c3
      . exact absurd ⟨a0,a1,a2⟩ (h1 c3 i (by omega))
      by_cases e0:ZA_ t pos f loc m=0
      . exact absurd ⟨a0,a1,a2⟩ (h1 e0 i (by omega))
      have:=(h2 e0).2.2.2.2 i (by omega) a0 a1 a2
      omega
    rw [if_neg hc]
    simp only [Bool.and_eq_true,Bool.or_eq_true,decide_eq_true_eq] at hc
    refine ⟨fun h i hi a=>?_,fun h=>?_⟩
    . by_cases e:i=m
      . subst e;exact hc ⟨a.1,a.2.1,a.2.2,.inl h⟩
      exact h1 h i (by omega) a
    obtain ⟨a1,a2,a3,a4,a5⟩:=h2 h
    refine ⟨by omega,a2,a3,a4,fun i hi b1 b2 b3=>?_⟩
    by_cases e:i=m
    . subst e
      rcases Nat.lt_or_ge (pos (ZA_ t pos f loc i-1)) (pos i) with h5|h5
      . exact absurd ⟨b1,b2,b3,.inr h5⟩ hc
      exact h5
    exact a5 i (by omega) b1 b2 b3
structure Fits (t:Tst) (w:List Bool) (pos:Nat->Nat) (ps:List (List Nat)):Prop where
 len:ps.length=t.locs.length
 perm:∀ i,i<t.locs.length->(ps.getD i []).Perm (W8 (csO t w pos) i (nO t))
 sorted:∀ p∈ps,p.Pairwise fun a b=>pos a<pos b
theorem zY2 (hE:OrdE ord t w pos):∃ ps,Fits t w pos ps:=by
 have h:∀ i,∃ p:List Nat,p.Perm (W8 (csO t w pos) i (nO t))/\p.Pairwise fun a b=>pos a<pos b:=fun i =>
  zKz pos _ zL2 fun a ha b hb e=>hE.inj a b (L3.1 ha).1 (L3.1 hb).1 e
 refine ⟨(List.range t.locs.length).map fun i=>Classical.choose (h i),by simp,fun i hi=>?_,fun p hp=>?_⟩
 .rw [List.getD,List.getElem?_map,List.getElem?_range hi]
  exact (Classical.choose_spec (h i)).1
 obtain ⟨i,_,rfl⟩:=List.mem_map.1 hp
 exact (Classical.choose_spec (h i)).2
def coO (ps:List (List Nat)):Rl:=fun a b=>false||ps.any fun p=>X3_ p a b
theorem JB_ (hb:TB t) {ps:List (List Nat)} (hf:Fits t w pos ps) {a b:Nat}:coO ps a b=true↔(csO t w pos).wr a=true/\(csO t w pos).wr b=true/\(opX t a).loc=(opX t b).loc/\pos a<pos b:=by
 unfold coO
 rw [Bool.false_or,any_eq_true]
 constructor
 .rintro ⟨p,hp,h⟩
  obtain ⟨i,hi⟩:=List.getElem?_of_mem hp
  have hi2:i<t.locs.length:=by rw [<-hf.len];exact (List.getElem?_eq_some_iff.1 hi).1
  have hperm:=hf.perm i hi2
  rw [List.getD,hi] at hperm
  obtain ⟨h1,h2,h3⟩:=(VS_ (hf.sorted p hp)).1 h
  obtain ⟨a1,a2,a3⟩:=L3.1 (hperm.mem_iff.1 h1)
  obtain ⟨b1,b2,b3⟩:=L3.1 (hperm.mem_iff.1 h2)
  exact ⟨a2,b2,a3.trans b3.symm,h3⟩
 rintro ⟨h1,h2,h3,h4⟩
 have ha:=run_lt (p9.1 h1).1
 have hbn:=run_lt (p9.1 h2).1
 obtain ⟨l0,l1⟩:=hb.loc a ha
 have hi:(opX t a).loc.toNat<t.locs.length:=by omega
 have hperm:=hf.perm _ hi
 have hmem:ps.getD (opX t a).loc.toNat []∈ps:=by
  rw [List.getD,List.getElem?_eq_getElem (by rw [hf.len];exact hi)]
  exact List.getElem_mem _
 refine ⟨_,hmem,(VS_ (hf.sorted _ hmem)).2 ⟨hperm.mem_iff.2 (L3.2 ⟨ha,h1,?_⟩),hperm.mem_iff.2 (L3.2 ⟨hbn,h2,?_⟩),h4⟩⟩
 .show (opX t a).loc=_;omega
 show (opX t b).loc=_;omega
theorem zL8 (hb:TB t) (hE:OrdE ord t w pos) {ps:List (List Nat)} (hf:Fits t w pos ps) {a b:Nat} (h:O3 (csO t w pos) (coO ps) a b=true):pos a<pos b/\¬ poP (csO t w pos) b a=true:=by
 unfold O3 at h
 simp only [Bool.and_eq_true,Bool.or_eq_true,Bool.not_eq_true',decide_eq_true_eq,decide_eq_false_iff_not] at h
 obtain ⟨h1,h2,h3,h4,h5,h6,h7⟩:=h
 obtain ⟨r1,r2⟩:=zer.1 h3
 obtain ⟨w1,w2⟩:=p9.1 h5
 replace h6:(opX t b).loc=(opX t a).loc:=h6
 have hfr:(csO t w pos).fr.getD a 0=(H3 t pos (D6 t w pos) a (nO t):Int)-1:=UZ_ r1 r2 0
 rw [hfr] at h7
 have no:¬ Wf_ t pos a b=true:=fun hc=>by
  obtain ⟨hL,hm⟩:=zY1 w1 hc
  rcases h7 with h7|h7
  .omega
  rw [show ((H3 t pos (D6 t w pos) a (nO t):Int)-1).toNat=H3 t pos (D6 t w pos) a (nO t)-1 by omega] at h7
  have:=((JB_ hb hf).1 h7).2.2.2
  omega
 constructor
 .rcases Nat.lt_or_ge (pos a) (pos b) with h8|h8
  .exact h8
  exact absurd (zDv h4 w2 h6 (.inl (by omega))) no
 intro hp
 obtain ⟨p1,_,p3,_⟩:=JA_.1 hp
 exact no (zDv h4 w2 h6 (.inr ⟨p3,p1⟩))
theorem zY3 (hE:OrdE ord t w pos) {a b:Nat} (h:zLr (csO t w pos) a b=true):pos a<pos b/\(D6 t w pos a).st=1/\(D6 t w pos b).st=1/\H3 t pos (D6 t w pos) b (nO t)=a+1:=by
 unfold zLr at h
 simp only [Bool.and_eq_true,Bool.not_eq_true',decide_eq_true_eq] at h
 obtain ⟨h1,h2,h3⟩:=h
 replace h3:decide (G5 t a=G5 t b)=false:=h3
 rw [decide_eq_false_iff_not] at h3
 replace h2:(frO t w pos).getD b 0=(a:Nat):=h2
 rw [Q7_ (t:=t) h1] at h2
 unfold frK at h2
 split at h2
 .rename_i hc
  rw [Bool.and_eq_true,decide_eq_true_eq] at hc
  have hL:H3 t pos (D6 t w pos) b (nO t)=a+1:=by omega
  obtain ⟨s1,s2,s3,s4⟩:=(G7 (t:=t) (pos:=pos) (f:=D6 t w pos) (k:=b) (nO t)).2 (by omega)
  have e9:H3 t pos (D6 t w pos) b (nO t)-1=a:=by omega
  rw [e9] at s1 s2 s3
  obtain ⟨c1,c2,c3,c4⟩:=L4 hE.inj h1 s1 s2
  rcases c4 with c4|c4
  .exact ⟨c4,s3,hc.2,hL⟩
  exact absurd c4.1 h3
 omega
theorem zL9 (hb:TB t) (ho:OrdOk t ord) (hE:OrdE ord t w pos) {ps:List (List Nat)} (hf:Fits t w pos ps) {a b:Nat} (h:Zc_ (WU_ ord (csO t w pos)) (coO ps) (O3 (csO t w pos) (coO ps)) a b=true):pos a<pos b:=by
 unfold Zc_ WU_ at h
 simp only [Bool.or_eq_true] at h
 rcases h with ((h|h)|h)|h
 .obtain ⟨p1,p2,_⟩:=JA_.1 (ho.po (csO t w pos) rfl (Q1 t (U4 t w pos) w) a b h)
  exact hE.kept a b (by omega) p2 h
 .exact (zY3 hE h).1
 .exact ((JB_ hb hf).1 h).2.2.2
 exact (zL8 hb hE hf h).1
theorem zes (hb:TB t) (ho:OrdOk t ord) (hE:OrdE ord t w pos) {ps:List (List Nat)} (hf:Fits t w pos ps):zA8 (csO t w pos) (coO ps)=true:=by
 unfold zA8
 rw [all_eq_true]
 intro k hk
 replace hk:k<nO t:=List.mem_range.1 hk
 unfold zIz
 split
 .rfl
 rename_i hc
 rw [not_or] at hc
 obtain ⟨hpr,hwr⟩:=hc
 replace hpr:(D6 t w pos k).pr≠0:=hpr
 have hwr:(csO t w pos).wr k=true:=by simpa using hwr
 obtain ⟨w1,w2⟩:=p9.1 hwr
 obtain ⟨h14,q,e1,e2,e3,e4,e5,e6⟩:=zL4 w1 hpr
 obtain ⟨p1,p2,p3⟩:=hE.par k hk h14 w1
 have hbeg:zXx t w pos k=if H3 t pos (D6 t w pos) q (nO t)=0 then none else some (pos (H3 t pos (D6 t w pos) q (nO t)-1)):=by
  unfold zXx
  replace e1:(D6 t w pos k).pr=(q:Int)+1:=e1
  rw [e1,show ((q:Int)+1-1).toNat=q by omega]
 have hq13:rdB (opX t q).op=true:=by simp [rdB,e3]
 have hfr:(csO t w pos).fr.getD ((csO t w pos).f.f.pair.getD k 0-1).toNat 0=(H3 t pos (D6 t w pos) q (nO t):Int)-1:=by
  show (frO t w pos).getD ((D6 t w pos k).pr-1).toNat 0=_
  replace e1:(D6 t w pos k).pr=(q:Int)+1:=e1
  rw [e1,show ((q:Int)+1-1).toNat=q by omega]
  exact UZ_ e5 hq13 0
 dsimp only
 rw [hfr]
 have hqk:pos q<pos k:=hE.kept q k (by omega) hk (ho.loc (csO t w pos) rfl (Q1 t (U4 t w pos) w) q k (JA_.2 ⟨e2,hk,e4,e5,w1⟩) e6 hwr)
 simp only [Bool.and_eq_true,Bool.not_eq_true',Bool.and_eq_false_iff,decide_eq_false_iff_not,Bool.not_eq_false']
 constructor
 .by_cases hL:H3 t pos (D6 t w pos) q (nO t)=0
  .left;omega
  right
  rw [show ((H3 t pos (D6 t w pos) q (nO t):Int)-1).toNat=H3 t pos (D6 t w pos) q (nO t)-1 by omega]
  obtain ⟨s1,s2,s3,s4⟩:=(G7 (t:=t) (pos:=pos) (f:=D6 t w pos) (k:=q) (nO t)).2 hL
  obtain ⟨c1,c2,c3,c4⟩:=L4 hE.inj (by omega) s1 s2
  have hle:=p2 _ (by rw [hbeg,if_neg hL])
  refine (JB_ hb hf).2 ⟨p9.2 ⟨s3,c2⟩,hwr,c3.trans e6,?_⟩
  have hne:pos (H3 t pos (D6 t w pos) q (nO t)-1)≠pos k:=fun e=>by
   have:=hE.inj _ _ s1 hk e
   rw [this] at c4
   rcases c4 with c4|c4<;>omega
  omega
 rw [Bool.eq_false_iff]
 intro hany
 rw [any_eq_true] at hany
 obtain ⟨i,hi,h⟩:=hany
 simp only [Bool.and_eq_true,Bool.not_eq_true',Bool.or_eq_true,decide_eq_true_eq] at h
 obtain ⟨h1,h2,h3,h4⟩:=h
 replace hi:i<nO t:=List.mem_range.1 hi
 replace h2:decide (G5 t i=G5 t k)=false:=h2
 rw [decide_eq_false_iff_not] at h2
 obtain ⟨i1,i2⟩:=p9.1 h1
 obtain ⟨_,_,g3,g4⟩:=(JB_ hb hf).1 h3
 refine p3 i hi i2 i1 g3 h2 (fun p hp=>?_) g4
 rw [hbeg] at hp
 split at hp
 .cases hp
 rename_i hL
 cases hp
 rcases h4 with h4|h4
 .omega
 rw [show ((H3 t pos (D6 t w pos) q (nO t):Int)-1).toNat=H3 t pos (D6 t w pos) q (nO t)-1 by omega] at h4
 exact ((JB_ hb hf).1 h4).2.2.2
theorem zet (hb : TB t) (ho : OrdOk t ord) (hE : OrdE ord t w pos) {ps : List (List Nat)} (hf : Fits t w pos ps) (las : List Int) : V8_ (WU_ ord (csO t w pos)) (csO t w pos) las (coO ps) =
    [⟨csO t w pos,coO ps,Zc_ (WU_ ord (csO t w pos)) (coO ps) (O3 (csO t w pos) (coO ps)),W5 t (X4_ (csO t w pos)) fun i=>(Zd_ (csO t w pos) las).getD i 0⟩]:=by
  unfold V8_
  have h1:zEx (fun a b=>O3 (csO t w pos) (coO ps) a b&&poP (csO t w pos) b a)=false:=by
    rw [Bool.eq_false_iff]
    intro h
    obtain ⟨a,b,_,_,h⟩:=zDu.1 h
    rw [Bool.and_eq_true] at h
    exact (zL8 hb hE hf h.1).2 h.2
  have h2:a8 (Zc_ (WU_ ord (csO t w pos)) (coO ps) (O3 (csO t w pos) (coO ps)))=false:=zL3 fun a b h=>zL9 hb ho hE hf h
  rw [h1,h2,zes hb ho hE hf]
  rfl
theorem zLa (hb:TB t) (hE:OrdE ord t w pos) {ps:List (List Nat)} (hf:Fits t w pos ps) {i:Nat} (hi:i<t.locs.length):zFq (csO t w pos) (zFh 0 ps (List.replicate 8 0)) i=zem t w pos i:=by
 have hl:=hb.locs
 have hlas:(zFh 0 ps (List.replicate 8 0)).getD i 0=match (ps.getD i []).getLast? with|none=>0|some k=>(k:Int)+1:=by
  rw [zL1 _ _ _ _ (by rw [hf.len,length_replicate];omega),if_pos (by rw [hf.len];omega),Nat.sub_zero]
  have:(List.replicate 8 (0:Int)).getD i 0=0:=by rw [List.getD,List.getElem?_replicate];split<;>rfl
  rw [this]
  first|done|(cases (ps.getD i []).getLast?<;>rfl)
 have hperm:=hf.perm i hi
 have hmem:ps.getD i []∈ps:=by
  rw [List.getD,List.getElem?_eq_getElem (by rw [hf.len];exact hi)]
  exact List.getElem_mem _
 have hs:=hf.sorted _ hmem
 generalize ps.getD i []=p at *
 obtain ⟨f1,f2⟩:=XA_ (t:=t) (pos:=pos) (f:=D6 t w pos) (loc:=i) (nO t)
 unfold zFq zem
 rw [hlas]
 rcases eq_nil_or_concat p with rfl|⟨u,k,rfl⟩
 .have hF:ZA_ t pos (D6 t w pos) i (nO t)=0:=Classical.byContradiction fun hc=>by
   obtain ⟨a1,a2,a3,a4,_⟩:=f2 hc
   have:=hperm.mem_iff.2 (L3.2 ⟨a1,p9.2 ⟨a4,a2⟩,a3⟩)
   cases this
  rw [hF];rfl
 rw [concat_eq_append] at *
 have hk:=hperm.mem_iff.1 (by simp:k∈u++[k])
 obtain ⟨k1,k2,k3⟩:=L3.1 hk
 obtain ⟨k4,k5⟩:=p9.1 k2
 replace k3:(opX t k).loc=(i:Nat):=k3
 have hF:ZA_ t pos (D6 t w pos) i (nO t)≠0:=fun e=>f1 e k k1 ⟨k5,k3,k4⟩
 obtain ⟨a1,a2,a3,a4,a5⟩:=f2 hF
 have hin:=hperm.mem_iff.2 (L3.2 ⟨a1,p9.2 ⟨a4,a2⟩,a3⟩)
 have hle:=a5 k k1 k5 k3 k4
 have e:ZA_ t pos (D6 t w pos) i (nO t)-1=k:=by
  rcases List.mem_append.1 hin with h|h
  .have h9:pos (ZA_ t pos (D6 t w pos) i (nO t)-1)<pos k:=(List.pairwise_append.1 hs).2.2 _ h k (by simp)
   omega
  simpa using h
 rw [if_neg hF,e]
 have e2:(u++[k]).getLast?=some k:=by simp
 rw [e2]
 show (if 0<((k:Nat):Int)+1 then ((csO t w pos).f.f.write.getD (((k:Nat):Int)+1-1).toNat zV).v else _)=_
 rw [if_pos (by omega),show (((k:Nat):Int)+1-1).toNat=k by omega]
 rfl
theorem zeu (ht : TG t) (hb : TB t) (ho : OrdOk t ord) (hE : OrdE ord t w pos) (hwl : w.length = nO t) (hw14 : ∀ k, w.getD k false = true → (opX t k).op = 14) (hnr : ∀ k, w.getD k false = true → (D6 t w pos k).st = 1) :
    ∃ r∈O8 ord t,r.st=Z1 t w pos/\r.c=csO t w pos/\∀ a b,r.ah a b=true->pos a<pos b:=by
  obtain ⟨ps,hf⟩:=zY2 hE
  refine ⟨⟨csO t w pos,coO ps,Zc_ (WU_ ord (csO t w pos)) (coO ps) (O3 (csO t w pos) (coO ps)),W5 t (X4_ (csO t w pos)) fun i=>(Zd_ (csO t w pos) (zFh 0 ps (List.replicate 8 0))).getD i 0⟩,?_,?_,rfl,fun a b h=>zL9 hb ho hE hf h⟩
  . unfold O8
    refine List.mem_flatMap.2 ⟨w,(UY_ _ _ _ (by simp) (by omega) fun q _=>by rw [List.getD,List.getElem?_replicate];split<;>rfl).2 ⟨hwl,fun q hq=>absurd hq (Nat.not_lt_zero _),fun q _ h=>hw14 q h⟩,List.mem_flatMap.2 ⟨frO t w pos,zAv.2 ⟨R6 ..,fun q hq=>?_⟩,?_⟩⟩
    . rw [Q7_ hq]
      unfold frK
      split
      . rename_i hc
        rw [Bool.and_eq_true,decide_eq_true_eq] at hc
        refine WM_.2 ?_
        by_cases hL:H3 t pos (D6 t w pos) q (nO t)=0
        . left;omega
        right
        obtain ⟨s1,s2,s3,s4⟩:=(G7 (t:=t) (pos:=pos) (f:=D6 t w pos) (k:=q) (nO t)).2 hL
        obtain ⟨c1,c2,c3,c4⟩:=L4 hE.inj hq s1 s2
        refine ⟨hc.1,_,by omega,s1,?_⟩
        unfold zCs
        simp only [Bool.and_eq_true,Bool.or_eq_true,Bool.not_eq_true',decide_eq_true_eq,decide_eq_false_iff_not]
        refine ⟨c1,c2,c3,?_⟩
        by_cases hth:G5 t (H3 t pos (D6 t w pos) q (nO t)-1)=G5 t q
        . right
          rcases c4 with c4|c4
          . rcases Nat.lt_or_ge (H3 t pos (D6 t w pos) q (nO t)-1) q with h|h
            . exact h
            have hlt:q<H3 t pos (D6 t w pos) q (nO t)-1:=by omega
            have:=hE.kept q _ hq s1 (ho.loc (csO t w pos) rfl (Q1 t (U4 t w pos) w) q _ (JA_.2 ⟨hlt,s1,hth.symm,hc.2,s3⟩) c3.symm (p9.2 ⟨s3,c2⟩))
            omega
          exact c4.2
        exact .inl hth
      exact WM_.2 (.inl rfl)
    unfold Yj_
    have hset:U6 t w (frO t w pos)=some (flO t w pos):=by
      unfold U6
      dsimp only
      rw [zL5 ht ho hE,if_pos hE.whole]
      rw [if_neg]
      rw [Bool.not_eq_true,any_eq_false]
      intro k hk
      replace hk:k<nO t:=List.mem_range.1 hk
      have hfk:=Q7_ (w:=w) (pos:=pos) hk 0
      unfold JP_
      dsimp only
      rw [hfk]
      show ¬ ((!decide ((D6 t w pos k).st=1)&&_||decide ((D6 t w pos k).st=1)&&(_&&!decide ((D6 t w pos (frK t pos (D6 t w pos) k).toNat).st=1))||decide ((D6 t w pos k).st=1)&&(_&&decide ((D6 t w pos k).pr=0)))=true)
      simp only [Bool.or_eq_true,Bool.and_eq_true,Bool.not_eq_true',decide_eq_true_eq,decide_eq_false_iff_not]
      rintro ((⟨h1,h2⟩|⟨h1,h2,h3⟩)|⟨h1,h2,h3⟩)
      . rcases h2 with h2|h2
        . unfold frK at h2
          rw [if_neg (by rw [Bool.and_eq_true,decide_eq_true_eq];exact fun hc=>h1 hc.2)] at h2
          omega
        exact h1 (hnr k h2)
      . unfold frK at h2 h3
        split at h2
        . rename_i hc
          rw [if_pos hc] at h3
          have hL:H3 t pos (D6 t w pos) k (nO t)≠0:=by omega
          obtain ⟨s1,s2,s3,s4⟩:=(G7 (t:=t) (pos:=pos) (f:=D6 t w pos) (k:=k) (nO t)).2 hL
          rw [show ((H3 t pos (D6 t w pos) k (nO t):Int)-1).toNat=H3 t pos (D6 t w pos) k (nO t)-1 by omega] at h3
          exact h3 s3
        omega
      exact (hE.par k hk (hw14 k h2) h1).1 h3
    rw [hset]
    refine List.mem_flatMap.2 ⟨(zFh 0 ps (List.replicate 8 0),coO ps),(WN_ _ _ _ _).2 ⟨ps,hf.len,fun i hi=>?_,rfl,rfl⟩,?_⟩
    . rw [Nat.zero_add];exact hf.perm i hi
    have:=zet hb ho hE hf (zFh 0 ps (List.replicate 8 0))
    show _∈V8_ (WU_ ord (csO t w pos)) (csO t w pos) (zFh 0 ps (List.replicate 8 0)) (coO ps)
    rw [this]
    exact List.mem_singleton.2 rfl
  show W5 t _ _=W5 t _ _
  congr 1
  funext i
  have hl:=hb.locs
  unfold Zd_
  by_cases h8:i<8
  . rw [List.getD,List.getElem?_map,List.getElem?_range h8]
    show (if i<t.locs.length then zFq _ _ i else 0)=_
    split
    . rename_i hi;exact zLa hb hE hf hi
    rfl
  rw [List.getD,List.getElem?_eq_none (by simp;omega),if_neg (by omega)]
  rfl
theorem G1 (ht:TG t) (hb:TB t) (ho:OrdOk t ord) (hE:OrdE ord t w pos) (hw14:∀ k,w.getD k false=true->(opX t k).op=14):∃ r∈O8 ord t,r.st=Z1 t w pos:=by
 obtain ⟨r,h1,h2,_⟩:=zeu ht hb ho (zPp hE) zB0 (fun k h=>hw14 k (by
  by_cases hk:k<nO t
  .rw [zL6 hk,Bool.and_eq_true] at h;exact h.1
  rw [List.getD,List.getElem?_eq_none (by rw [zB0];omega)] at h;cases h)) (fun k h=>by rw [zDw];exact zY0 h)
 exact ⟨r,h1,h2.trans zXz⟩
end
theorem Zv_ {f : Fl} {w : List Bool} {fr : List Int} {k : Nat} (h : JP_ f w fr k = false) :
    (¬ f.state.getD k 0=1->¬ 0<=fr.getD k 0/\¬ w.getD k false=true)/\(f.state.getD k 0=1->0<=fr.getD k 0->f.state.getD (fr.getD k 0).toNat 0=1)/\(f.state.getD k 0=1->w.getD k false=true->¬ f.pair.getD k 0=0):=by
  have h':¬ JP_ f w fr k=true:=by rw [h];decide
  unfold JP_ at h'
  dsimp only at h'
  simp only [Bool.or_eq_true,Bool.and_eq_true,Bool.not_eq_true',decide_eq_true_eq,decide_eq_false_iff_not] at h'
  refine ⟨fun h1=>⟨fun h2=>h' (.inl (.inl ⟨h1,.inl h2⟩)),fun h2=>h' (.inl (.inl ⟨h1,.inr h2⟩))⟩,fun h1 h2=>Classical.byContradiction fun h3=>h' (.inl (.inr ⟨h1,h2,h3⟩)),fun h1 h2 h3=>h' (.inr ⟨h1,h2,h3⟩)⟩
theorem zFi {p:Rl} {a:Nat} (ha:a<16) (h:p a a=true):a8 p=true:=by
 unfold a8
 exact F2.2 ⟨a,ha,zGz h⟩
theorem zev {p : Rl} {s : Nat → Bool} (hl : a8 p = false) (hs : ∀ a b, p a b = true → s a = true ∧ s b = true ∧ a < 16 ∧ b < 16) :
    ∃ pos:Nat->Nat,(∀ a b,a<16->b<16->pos a=pos b->a=b)/\(∀ a b,p a b=true->pos a<pos b)/\(∀ a b,a<16->b<16->s a=true->s b=false->pos a<pos b):=by
  cases ho:V9 p s [] with
  | none =>
    have:=Jt_ ho
    have e:(fun a b=>p a b&&(s a&&s b))=p:=by
      funext a b
      cases hp:p a b with
      | false=>rfl
      | true=>obtain ⟨h1,h2,_⟩:=hs a b hp;rw [h1,h2];rfl
    rw [e,hl] at this;cases this
  | some L =>
    obtain ⟨M,e,h1,h2,h3,h4⟩:=Wv_ ho
    have hlt:∀ a,a<16->s a=true->M.idxOf a<M.length:=fun a ha hsa=>idxOf_lt_length_of_mem (h3 a ha hsa)
    have hget:∀ a (ha:a<16) (hsa:s a=true),M[M.idxOf a]'(hlt a ha hsa)=a:=fun a ha hsa=>getElem_idxOf (hlt a ha hsa)
    refine ⟨fun a=>if s a then M.idxOf a else M.length+a,fun a b ha hb he=>?_,fun a b hp=>?_,fun a b ha hb hsa hsb=>?_⟩
    . dsimp only at he
      cases hsa:s a<;>cases hsb:s b<;>rw [hsa,hsb] at he<;>simp only [if_true,Bool.false_eq_true,if_false] at he
      . omega
      . have:=hlt b hb hsb;omega
      . have:=hlt a ha hsa;omega
      have h5:=hget a ha hsa
      have h6:=hget b hb hsb
      simp only [he] at h5
      exact h5.symm.trans h6
    . obtain ⟨hsa,hsb,ha,hb⟩:=hs a b hp
      dsimp only
      rw [hsa,hsb]
      simp only [if_true]
      rcases Nat.lt_trichotomy (M.idxOf a) (M.idxOf b) with h|h|h
      . exact h
      . have h5:=hget a ha hsa
        have h6:=hget b hb hsb
        simp only [h] at h5
        have:a=b:=h5.symm.trans h6
        subst this
        rw [zFi ha hp] at hl;cases hl
      have h5:=List.pairwise_iff_getElem.1 h4 _ _ (hlt b hb hsb) (hlt a ha hsa) h
      rw [hget a ha hsa,hget b hb hsb,hp] at h5;cases h5
    dsimp only
    rw [hsa,hsb]
    simp only [if_true,Bool.false_eq_true,if_false]
    have:=hlt a ha hsa;omega
theorem YX_ {R:Nat->Nat->Prop}:∀ {p:List Nat},(∀ a b,X3_ p a b=true->R a b)->p.Pairwise R
 | [],_=>.nil
 | x::p,h=>List.pairwise_cons.2 ⟨fun b hb=>h x b (by simp [X3_,hb]),YX_ fun a b hc=>h a b (by simp [X3_,hc])⟩
section
variable {t:Tst} {w:List Bool} {fr:List Int} {pos:Nat->Nat} {ord:Cs->Rl} {ps:List (List Nat)}
theorem zLb {reads R:List Vl} (hA:∀ q,q<nO t->(fxO t R w q).st=1->le (reads.getD q zV) (R.getD q zV)):FLe (nO t) (fxO t reads w) (fxO t R w)/\RLe t w reads R:=by
 have e:C9 t R w=C9 t (tab (nO t) fun q=>if (fxO t R w q).st=1 then R.getD q zV else reads.getD q zV) w:=Alike.eq ⟨fun q hq hr hs=>by rw [I1 hq,if_pos hs],fun _ _ _ _ _ _ _ _=>rfl⟩
 have hf:fxO t R w=fxO t (tab (nO t) fun q=>if (fxO t R w q).st=1 then R.getD q zV else reads.getD q zV) w:=by
  funext k
  show d9 (C9 t R w).f k=d9 (C9 t _ w).f k
  rw [<-e]
 have hle:RLe t w reads (tab (nO t) fun q=>if (fxO t R w q).st=1 then R.getD q zV else reads.getD q zV):=fun q hq _=>by
  rw [I1 hq]
  split
  .rename_i h;exact hA q hq h
  exact le_refl _
 have h1:FLe (nO t) (fxO t reads w) (fxO t R w):=by rw [hf];exact Q5_ hle
 exact ⟨h1,fun q hq hs=>hA q hq (by rw [(h1 q hq).1 (by rw [hs];decide)];exact hs)⟩
def YY_ (t:Tst) (w:List Bool) (fr:List Int):List Vl:=itR t w (stN t fr) (nO t)
def fxS (t:Tst) (w:List Bool) (fr:List Int):Nat->Fx:=fxO t (YY_ t w fr) w
abbrev csS (t:Tst) (w:List Bool) (fr:List Int):Cs:=csR t (YY_ t w fr) w fr
structure RunP (ord:Cs->Rl) (t:Tst) (w:List Bool) (fr:List Int) (ps:List (List Nat)) (pos:Nat->Nat):Prop where
 inj:∀ a b,a<nO t->b<nO t->pos a=pos b->a=b
 frl:fr.length=nO t
 src:∀ k,k<nO t->fr.getD k 0∈YU_ t k
 whole:(C9 t (YY_ t w fr) w).whole=true
 bad:∀ k,k<nO t->JP_ (C9 t (YY_ t w fr) w).f w fr k=false
 psl:ps.length=t.locs.length
 perm:∀ i,i<t.locs.length->(ps.getD i []).Perm (W8 (csS t w fr) i (nO t))
 beh:∀ a b,O3 (csS t w fr) (coO ps) a b=true->¬ poP (csS t w fr) b a=true
 par:zA8 (csS t w fr) (coO ps)=true
 ah:∀ a b,Zc_ (WU_ ord (csS t w fr)) (coO ps) (O3 (csS t w fr) (coO ps)) a b=true->pos a<pos b
 last:∀ a b,a<nO t->b<nO t->(fxS t w fr a).st=1->(fxS t w fr b).st≠1->pos a<pos b
theorem RunP.resp (h:RunP ord t w fr ps pos):zZ3 t ord (YY_ t w fr) w fr pos:=fun a b _ _ ho=>h.ah a b (by unfold Zc_ WU_;rw [show ord (csS t w fr) a b=true from ho];rfl)
theorem RunP.srcs (h:RunP ord t w fr ps pos) {k:Nat} (hk:k<nO t):fr.getD k 0=-1\/rdB (opX t k).op=true/\∃ m:Nat,fr.getD k 0=m/\m<nO t/\m≠k/\wrB (opX t m).op=true/\(opX t m).loc=(opX t k).loc/\(G5 t m≠G5 t k\/m<k)/\(fxS t w fr k).st=1/\(fxS t w fr m).st=1:=by
 rcases WM_.1 (h.src k hk) with h0|⟨h1,m,h2,h3,h4⟩
 .exact .inl h0
 right
 obtain ⟨b1,b2,b3⟩:=Zv_ (h.bad k hk)
 unfold zCs at h4
 simp only [Bool.and_eq_true,Bool.or_eq_true,Bool.not_eq_true',decide_eq_true_eq,decide_eq_false_iff_not] at h4
 obtain ⟨c1,c2,c3,c4⟩:=h4
 have hkr:(fxS t w fr k).st=1:=Classical.byContradiction fun hc=>(b1 hc).1 (by omega)
 have hm:=b2 hkr (by omega)
 rw [h2] at hm
 exact ⟨h1,m,h2,h3,c1,c2,c3,c4,hkr,hm⟩
theorem RunP.frm (h:RunP ord t w fr ps pos) {k:Nat} (hk:k<nO t):fr.getD k (-1)=fr.getD k 0:=by
 have hl:=h.frl
 rw [List.getD,List.getD,List.getElem?_eq_getElem (by omega)];rfl
theorem RunP.co (h:RunP ord t w fr ps pos) {a b:Nat} (hc:coO ps a b=true):(csS t w fr).wr a=true/\(csS t w fr).wr b=true/\(opX t a).loc=(opX t b).loc/\pos a<pos b:=by
 have h4:=h.ah a b (by unfold Zc_;rw [hc];simp)
 unfold coO at hc
 rw [Bool.false_or,any_eq_true] at hc
 obtain ⟨p,hp,h0⟩:=hc
 obtain ⟨i,hi⟩:=List.getElem?_of_mem hp
 have hi2:i<t.locs.length:=by rw [<-h.psl];exact (List.getElem?_eq_some_iff.1 hi).1
 have hperm:=h.perm i hi2
 rw [List.getD,hi] at hperm
 obtain ⟨h1,h2⟩:=zDs h0
 obtain ⟨a1,a2,a3⟩:=L3.1 (hperm.mem_iff.1 h1)
 obtain ⟨b1,b2,b3⟩:=L3.1 (hperm.mem_iff.1 h2)
 exact ⟨a2,b2,a3.trans b3.symm,h4⟩
theorem RunP.tot (h:RunP ord t w fr ps pos) (hb:TB t) {a b:Nat} (h1:(csS t w fr).wr a=true) (h2:(csS t w fr).wr b=true) (h3:(opX t a).loc=(opX t b).loc) (hne:pos a<pos b):coO ps a b=true:=by
 have ha:=run_lt (S2.1 h1).1
 have hbn:=run_lt (S2.1 h2).1
 obtain ⟨l0,l1⟩:=hb.loc a ha
 have hi:(opX t a).loc.toNat<t.locs.length:=by omega
 have hperm:=h.perm _ hi
 have hmem:ps.getD (opX t a).loc.toNat []∈ps:=by
  rw [List.getD,List.getElem?_eq_getElem (by rw [h.psl];exact hi)]
  exact List.getElem_mem _
 have up:∀ {x y:Nat},X3_ (ps.getD (opX t a).loc.toNat []) x y=true->coO ps x y=true:=fun {x y} hc=>by
  unfold coO
  rw [Bool.false_or,any_eq_true]
  exact ⟨_,hmem,hc⟩
 rcases zL0 (hperm.mem_iff.2 (L3.2 ⟨ha,h1,by show (opX t a).loc=_;omega⟩)) (hperm.mem_iff.2 (L3.2 ⟨hbn,h2,by show (opX t b).loc=_;omega⟩)) (fun e=>by rw [e] at hne;omega) with hc|hc
 .exact up hc
 have:=(h.co (up hc)).2.2.2;omega
theorem RunP.behind (h:RunP ord t w fr ps pos) {k i:Nat} (hk:(fxS t w fr k).st=1) (hr:rdB (opX t k).op=true) (hi:(fxS t w fr i).st=1) (hne:i≠k) (hw:wrB (opX t i).op=true) (hl:(opX t i).loc=(opX t k).loc) (hb:fr.getD k 0<0\/coO ps (fr.getD k 0).toNat i=true):¬ Wf_ t pos k i=true:=by
 have e:O3 (csS t w fr) (coO ps) k i=true:=by
  unfold O3
  simp only [Bool.and_eq_true,Bool.or_eq_true,Bool.not_eq_true',decide_eq_true_eq,decide_eq_false_iff_not]
  exact ⟨run_lt hk,run_lt hi,VR_.2 ⟨hk,hr⟩,hne,S2.2 ⟨hi,hw⟩,hl,hb⟩
 intro hc
 obtain ⟨c1,c2,c3,c4⟩:=L4 h.inj (run_lt hk) (run_lt hi) hc
 rcases c4 with c4|c4
 .have:=h.ah k i (by unfold Zc_;rw [e];simp)
  omega
 exact h.beh k i e (Zu_.2 ⟨c4.2,run_lt hk,c4.1,hi,hk⟩)
theorem RunP.ext (h:RunP ord t w fr ps pos) {k m:Nat} (hk:k<nO t) (e:fr.getD k 0=m) (hth:G5 t m≠G5 t k):pos m<pos k:=by
 refine h.ah m k ?_
 have:zLr (csS t w fr) m k=true:=by
  unfold zLr
  simp only [Bool.and_eq_true,Bool.not_eq_true',decide_eq_true_eq]
  exact ⟨hk,e,decide_eq_false hth⟩
 unfold Zc_ WU_
 rw [this];simp
theorem RunP.lst (h:RunP ord t w fr ps pos) (hb:TB t) {k:Nat} (hk:(fxS t w fr k).st=1) (hr:rdB (opX t k).op=true):(H3 t pos (fxS t w fr) k (nO t):Int)=fr.getD k 0+1:=by
 have hkn:=run_lt hk
 obtain ⟨s1,s2⟩:=G7 (t:=t) (pos:=pos) (f:=fxS t w fr) (k:=k) (nO t)
 rcases h.srcs hkn with h0|⟨_,m,e,m1,m2,m3,m4,m5,m6,m7⟩
 .have:H3 t pos (fxS t w fr) k (nO t)=0:=Classical.byContradiction fun hL=>by
   obtain ⟨a1,a2,a3,a4⟩:=s2 hL
   obtain ⟨c1,c2,c3,c4⟩:=L4 h.inj hkn a1 a2
   exact h.behind hk hr a3 c1 c2 c3 (.inl (by omega)) a2
  omega
 have hcan:Wf_ t pos k m=true:=zDv m2 m3 m4 (by
  by_cases hth:G5 t m=G5 t k
  .exact .inr ⟨hth,by rcases m5 with m5|m5;exact absurd hth m5;exact m5⟩
  have:=h.ext hkn e hth;exact .inl (by omega))
 have hL:H3 t pos (fxS t w fr) k (nO t)≠0:=fun e0=>s1 e0 m m1 ⟨hcan,m7⟩
 obtain ⟨a1,a2,a3,a4⟩:=s2 hL
 have hle:=a4 m m1 hcan m7
 obtain ⟨c1,c2,c3,c4⟩:=L4 h.inj hkn a1 a2
 have:H3 t pos (fxS t w fr) k (nO t)-1=m:=Classical.byContradiction fun hne=>by
  have hlt:pos m<pos (H3 t pos (fxS t w fr) k (nO t)-1):=by
   have:pos m≠pos (H3 t pos (fxS t w fr) k (nO t)-1):=fun e1=>hne (h.inj _ _ m1 a1 e1).symm
   omega
  have hco:=h.tot hb (S2.2 ⟨m7,m3⟩) (S2.2 ⟨a3,c2⟩) (m4.trans c3.symm) hlt
  exact h.behind hk hr a3 c1 c2 c3 (.inr (by rw [e];exact hco)) a2
 omega
theorem RunP.dep (h : RunP ord t w fr ps pos) (ht : TG t) (ho : OrdOk t ord) {k i : Nat} (hk : (fxS t w fr k).st = 1) (hr : rdB (opX t k).op = true) (hi : (fxS t w fr i).st = 1) (hw : wrB (opX t i).op = true) (e : fr.getD k 0 = i) (h5 : G5 t i ≠ G5 t k ∨ i < k)
    {q:Nat} (hq:(rdB (opX t q).op=true/\R7 (fxS t w fr i).vl q=true)\/(q=i/\(opX t i).op=12)):WK_ t (YY_ t w fr) w pos q<WK_ t (YY_ t w fr) w pos k:=by
  have hkn:=run_lt hk
  by_cases hth:G5 t i=G5 t k
  . exact zKx ht ho h.resp hi hw hk hr hth (by rcases h5 with h5|h5;exact absurd hth h5;exact h5) (by rw [h.frm hkn];exact e) hq
  exact WL_ ht ho h.resp hi hw hkn (h.ext hkn e hth) (hq.elim (fun h=>.inr (.inl h.2)) fun h=>.inr (.inr h.1))
theorem RunP.stn (h:RunP ord t w fr ps pos) {k:Nat} (hk:(fxS t w fr k).st=1) (hr:rdB (opX t k).op=true) (f:Nat->Fx):(fr.getD k 0=-1/\(stN t fr).N f k=zel t k)\/∃ m:Nat,fr.getD k 0=m/\m<nO t/\wrB (opX t m).op=true/\(G5 t m≠G5 t k\/m<k)/\(fxS t w fr m).st=1/\((f m).st=1->(stN t fr).N f k=(f m).wr):=by
 have eN:(stN t fr).N f k=if fr.getD k 0<0 then zel t k else if (fr.getD k 0).toNat<nO t/\(f (fr.getD k 0).toNat).st=1 then (f (fr.getD k 0).toNat).wr else zV:=if_pos hr
 rcases h.srcs (run_lt hk) with h0|⟨_,m,e,m1,m2,m3,m4,m5,m6,m7⟩
 .exact .inl ⟨h0,by rw [eN,if_pos (by omega)]⟩
 refine .inr ⟨m,e,m1,m3,m5,m7,fun hf=>?_⟩
 rw [eN,if_neg (by omega),e,Int.toNat_natCast,if_pos ⟨m1,hf⟩]
theorem RunP.known (h:RunP ord t w fr ps pos) (ht:TG t) (ho:OrdOk t ord) {k:Nat} (hk:(fxS t w fr k).st=1) (hr:rdB (opX t k).op=true):((YY_ t w fr).getD k zV).k=true/\(YY_ t w fr).getD k zV=(stN t fr).N (fxS t w fr) k:=by
 have key:∀ m k,WK_ t (YY_ t w fr) w pos k<m->(fxS t w fr k).st=1->rdB (opX t k).op=true->((YY_ t w fr).getD k zV).k=true/\(YY_ t w fr).getD k zV=(stN t fr).N (fxS t w fr) k:=fun m=>by
  induction m with
  | zero=>intro k h;exact absurd h (Nat.not_lt_zero _)
  | succ m ih =>
   intro k hm hk hr
   have hkn:=run_lt hk
   have hnx:((stN t fr).N (fxS t w fr) k).k=true:=by
    rcases h.stn hk hr (fxS t w fr) with ⟨_,e⟩|⟨i,e,i1,i2,i3,i4,i5⟩
    .rw [e];rfl
    rw [i5 i4]
    refine Zr_ ht i1 i2 i4 (fun q hq hqr=>?_) fun h12 hir=>?_
    .exact (ih q (by have:=h.dep ht ho hk hr i4 i2 e i3 (.inl ⟨hqr,hq⟩);omega) (y7 ht i1 i4 hq).2.2.2 hqr).1
    exact (ih i (by have:=h.dep ht ho hk hr i4 i2 e i3 (.inr ⟨rfl,h12⟩);omega) i4 hir).1
   have e:(itR t w (stN t fr) (nO t+1)).getD k zV=(stN t fr).N (fxS t w fr) k:=I1 hkn
   have hs:=t8 (t:=t) (w:=w) (N:=stN t fr) k
   rw [e] at hs
   have e2:(YY_ t w fr).getD k zV=(stN t fr).N (fxS t w fr) k:=(hs hnx).symm
   exact ⟨by rw [e2];exact hnx,e2⟩
 exact key _ k (Nat.lt_succ_self _) hk hr
theorem RunP.le_it (h:RunP ord t w fr ps pos) (ht:TG t) (hb:TB t) (ho:OrdOk t ord):∀ j q,q<nO t->(fxS t w fr q).st=1->le ((itR t w (nxN t pos) j).getD q zV) ((YY_ t w fr).getD q zV)
  | 0,q,_,_=>by
    show le ((List.replicate (nO t) zV).getD q zV) _
    rw [zDl];intro h;cases h
  | j+1,q,hq,hs=>by
    obtain ⟨hF,hR⟩:=zLb (w:=w) (reads:=itR t w (nxN t pos) j) (R:=YY_ t w fr) fun q hq hs=>h.le_it ht hb ho j q hq hs
    show le ((tab (nO t) (nxO t pos (fxO t (itR t w (nxN t pos) j) w))).getD q zV) _
    rw [I1 hq]
    unfold nxO
    by_cases hc:(rdB (opX t q).op&&Q6_ t pos (fxO t (itR t w (nxN t pos) j) w) q)=true
    . rw [if_pos hc]
      obtain ⟨c1,c2⟩:=Bool.and_eq_true_iff.1 hc
      obtain ⟨d1,d2⟩:=zDm hF c2
      have hl:=h.lst hb hs c1
      obtain ⟨k1,k2⟩:=h.known ht ho hs c1
      rw [k2,d2]
      rcases h.stn hs c1 (fxS t w fr) with ⟨e0,e⟩|⟨i,e,i1,i2,i3,i4,i5⟩
      · rw [show H3 t pos (fxO t (YY_ t w fr) w) q (nO t) = 0 from by have : (H3 t pos (fxS t w fr) q (nO t) : Int) = 0 := by omega
                                                                      exact Int.ofNat_eq_zero.1 this,if_pos rfl,e]
        exact le_refl _
      have e1:H3 t pos (fxO t (YY_ t w fr) w) q (nO t)=i+1:=by
        have:(H3 t pos (fxS t w fr) q (nO t):Int)=((i+1:Nat):Int):=by omega
        exact Int.ofNat_inj.1 this
      rw [e1,if_neg (Nat.succ_ne_zero _),i5 i4,Nat.add_sub_cancel]
      exact (hF i i1).2
    rw [if_neg hc];intro hk;cases hk
theorem RunP.found (h:RunP ord t w fr ps pos) (ht:TG t) (hb:TB t) (ho:OrdOk t ord) {k:Nat} (hk:(fxS t w fr k).st=1) (hr:rdB (opX t k).op=true):((U4 t w pos).getD k zV).k=true:=by
 obtain ⟨hF,hR⟩:=zLb (w:=w) (reads:=U4 t w pos) (R:=YY_ t w fr) fun q hq hs=>h.le_it ht hb ho (nO t) q hq hs
 have key:∀ m k,WK_ t (YY_ t w fr) w pos k<m->(fxS t w fr k).st=1->rdB (opX t k).op=true->((U4 t w pos).getD k zV).k=true:=fun m=>by
  induction m with
  | zero=>intro k h;exact absurd h (Nat.not_lt_zero _)
  | succ m ih =>
   intro k hm hk hr
   have hkn:=run_lt hk
   have hd:Q6_ t pos (D6 t w pos) k=true:=u0.2 fun i hi hc=>zXs ht hR hi (Y9_ h.whole hi) fun q hq hqr=>by
    obtain ⟨p1,p2,p3,p4⟩:=Zs_ ht hi (Y9_ h.whole hi) hq
    refine ih q ?_ p4 hqr
    have:WK_ t (YY_ t w fr) w pos q<WK_ t (YY_ t w fr) w pos k:=by
     obtain ⟨c1,c2,c3,c4⟩:=L4 h.inj hkn hi hc
     rcases c4 with c4|c4
     .by_cases hir:(fxS t w fr i).st=1
      .exact WL_ ht ho h.resp hir c2 hkn c4 (.inl hq)
      have:=h.last k i hkn hi hk hir;omega
     exact zeq ht hi hk c4.1 c4.2 hqr hq
    omega
   obtain ⟨d1,d2⟩:=zDm hF hd
   have hnx:(nxO t pos (D6 t w pos) k).k=true:=by
    unfold nxO
    rw [if_pos (show (rdB (opX t k).op&&Q6_ t pos (D6 t w pos) k)=true by rw [hr,hd];rfl)]
    split
    .rfl
    rename_i hL
    obtain ⟨s1,s2,s3,s4⟩:=(G7 (t:=t) (pos:=pos) (f:=D6 t w pos) (k:=k) (nO t)).2 hL
    have hl:=h.lst hb hk hr
    have d3:H3 t pos (D6 t w pos) k (nO t)=H3 t pos (fxS t w fr) k (nO t):=d2
    have hfr:fr.getD k 0=((H3 t pos (D6 t w pos) k (nO t)-1:Nat):Int):=by rw [d3] at hL ⊢;omega
    generalize H3 t pos (D6 t w pos) k (nO t)-1=i at *
    obtain ⟨c1,c2,c3,c4⟩:=L4 h.inj hkn s1 s2
    have hiF:(fxS t w fr i).st=1:=by
     have:=(hF i s1).1 (by show (D6 t w pos i).st≠0;rw [s3];decide)
     exact this.trans s3
    have hvl:=(Zq_ hR s1 (by show (D6 t w pos i).st≠0;rw [s3];decide)).2.2.2.1
    have h5:G5 t i≠G5 t k\/i<k:=by
     rcases h.srcs hkn with h0|⟨_,m,e,m1,m2,m3,m4,m5,m6,m7⟩
     .omega
     obtain rfl:i=m:=by omega
     exact m5
    refine Zr_ ht s1 c2 s3 (fun q hq hqr=>?_) fun h12 hir=>?_
    .rw [hvl] at hq
     exact ih q (by have:=h.dep ht ho hk hr hiF c2 hfr h5 (.inl ⟨hqr,hq⟩);omega) (y7 ht s1 hiF hq).2.2.2 hqr
    exact ih i (by have:=h.dep ht ho hk hr hiF c2 hfr h5 (.inr ⟨rfl,h12⟩);omega) hiF hir
   have e:(itR t w (nxN t pos) (nO t+1)).getD k zV=nxO t pos (D6 t w pos) k:=I1 hkn
   have hs:=t8 (t:=t) (w:=w) (N:=nxN t pos) k
   rw [e] at hs
   show ((itR t w (nxN t pos) (nO t)).getD k zV).k=true
   rw [<-hs hnx];exact hnx
 exact key _ k (Nat.lt_succ_self _) hk hr
theorem RunP.flo (h:RunP ord t w fr ps pos) (ht:TG t) (hb:TB t) (ho:OrdOk t ord):flO t w pos=C9 t (YY_ t w fr) w:=by
 obtain ⟨hF,hR⟩:=zLb (w:=w) (reads:=U4 t w pos) (R:=YY_ t w fr) fun q hq hs=>h.le_it ht hb ho (nO t) q hq hs
 refine Alike.eq ⟨fun q hq hr hs=>?_,fun _ _ _ _ _ _ _ _=>rfl⟩
 have hs2:(fxS t w fr q).st=1:=((hF q hq).1 (by rw [hs];decide)).trans hs
 exact h.le_it ht hb ho (nO t) q hq hs2 (h.found ht hb ho hs2 hr)
theorem RunP.fx (h:RunP ord t w fr ps pos) (ht:TG t) (hb:TB t) (ho:OrdOk t ord):D6 t w pos=fxS t w fr:=by
 funext k
 show d9 (flO t w pos).f k=d9 (C9 t (YY_ t w fr) w).f k
 rw [h.flo ht hb ho]
theorem RunP.fro (h:RunP ord t w fr ps pos) (ht:TG t) (hb:TB t) (ho:OrdOk t ord):frO t w pos=fr:=by
 refine zDr (d:=0) (R6 ..) h.frl fun k hk=>?_
 rw [Q7_ hk,h.fx ht hb ho]
 unfold frK
 split
 .rename_i hc
  rw [Bool.and_eq_true,decide_eq_true_eq] at hc
  have:=h.lst hb hc.2 hc.1
  omega
 rename_i hc
 rw [Bool.and_eq_true,decide_eq_true_eq] at hc
 rcases h.srcs hk with h0|⟨h1,m,e,m1,m2,m3,m4,m5,m6,m7⟩
 .exact h0.symm
 exact absurd ⟨h1,m6⟩ hc
theorem RunP.cs (h:RunP ord t w fr ps pos) (ht:TG t) (hb:TB t) (ho:OrdOk t ord):csO t w pos=csS t w fr:=by
 unfold csO csS csR
 rw [h.flo ht hb ho,h.fro ht hb ho]
theorem RunP.fits (h:RunP ord t w fr ps pos) (ht:TG t) (hb:TB t) (ho:OrdOk t ord):Fits t w pos ps where
 len:=h.psl
 perm:=by rw [h.cs ht hb ho];exact h.perm
 sorted p hp:=YX_ fun a b hc=>(h.co (by unfold coO;rw [Bool.false_or,any_eq_true];exact ⟨p,hp,hc⟩)).2.2.2
theorem RunP.ordE (h:RunP ord t w fr ps pos) (ht:TG t) (hb:TB t) (ho:OrdOk t ord):OrdE ord t w pos where
 inj:=h.inj
 whole:=by rw [h.flo ht hb ho];exact h.whole
 kept a b _ _ hk:=by
  rw [h.cs ht hb ho] at hk
  exact h.ah a b (by unfold Zc_ WU_;rw [hk];rfl)
 par k hk:=by
  intro h14 hs
  have hcs:=h.cs ht hb ho
  have hfx:=h.fx ht hb ho
  have hfr:=h.fro ht hb ho
  have hs':(fxS t w fr k).st=1:=by rw [<-hfx];exact hs
  have hpr:(fxS t w fr k).pr≠0:=(Zv_ (h.bad k hk)).2.2 hs' (zPo hs' h14)
  obtain ⟨_,q,e1,e2,e3,e4,e5,e6⟩:=zL4 hs' hpr
  have hq13:rdB (opX t q).op=true:=by simp [rdB,e3]
  have e1':(D6 t w pos k).pr=(q:Int)+1:=by rw [hfx];exact e1
  have hwr:(csS t w fr).wr k=true:=S2.2 ⟨hs',by simp [wrB,h14]⟩
  have hpar:=List.all_eq_true.1 h.par k (List.mem_range.2 hk)
  have e1f:(csS t w fr).f.f.pair.getD k 0=(q:Int)+1:=e1
  unfold zIz at hpar
  rw [if_neg (by rw [e1f,hwr];intro hc;rcases hc with hc|hc;omega;cases hc)] at hpar
  dsimp only at hpar
  rw [e1f,show ((q:Int)+1-1).toNat=q by omega] at hpar
  simp only [Bool.and_eq_true,Bool.not_eq_true',Bool.and_eq_false_iff,decide_eq_false_iff_not,Bool.not_eq_false'] at hpar
  obtain ⟨p1,p2⟩:=hpar
  have hl:=h.lst hb e5 hq13
  have hbeg:zXx t w pos k=if H3 t pos (fxS t w fr) q (nO t)=0 then none else some (pos (H3 t pos (fxS t w fr) q (nO t)-1)):=by
   unfold zXx
   rw [e1',show ((q:Int)+1-1).toNat=q by omega,hfx]
  refine ⟨by rw [hfx];exact hpr,fun p hp=>?_,fun i hi hw hsi hloc hth hbe=>?_⟩
  .rw [hbeg] at hp
   split at hp
   .cases hp
   rename_i hL
   cases hp
   rcases p1 with p1|p1
   .exact absurd (show 0<=fr.getD q 0 by omega) p1
   have:=(h.co p1).2.2.2
   rw [show (fr.getD q 0).toNat=H3 t pos (fxS t w fr) q (nO t)-1 by omega] at this
   omega
  intro hlt
  have hsi':(fxS t w fr i).st=1:=by rw [<-hfx];exact hsi
  have hwi:(csS t w fr).wr i=true:=S2.2 ⟨hsi',hw⟩
  have hany:((List.range (csS t w fr).n).any fun x=>(csS t w fr).wr x&&(!(csS t w fr).th x k&&(coO ps x k&&(decide (fr.getD q 0<0)||coO ps (fr.getD q 0).toNat x))))=true:=by
   rw [any_eq_true]
   refine ⟨i,List.mem_range.2 hi,?_⟩
   simp only [Bool.and_eq_true,Bool.not_eq_true',Bool.or_eq_true,decide_eq_true_eq]
   refine ⟨hwi,decide_eq_false hth,h.tot hb hwi hwr hloc hlt,?_⟩
   by_cases hL:H3 t pos (fxS t w fr) q (nO t)=0
   .left;omega
   right
   obtain ⟨s1,s2,s3,s4⟩:=(G7 (t:=t) (pos:=pos) (f:=fxS t w fr) (k:=q) (nO t)).2 hL
   obtain ⟨c1,c2,c3,c4⟩:=L4 h.inj (by omega) s1 s2
   have:=hbe _ (by rw [hbeg,if_neg hL])
   rw [show (fr.getD q 0).toNat=H3 t pos (fxS t w fr) q (nO t)-1 by omega]
   exact h.tot hb (S2.2 ⟨s3,c2⟩) hwi (c3.trans (e6.trans hloc.symm)) this
  have p2':((List.range (csS t w fr).n).any fun x=>(csS t w fr).wr x&&(!(csS t w fr).th x k&&(coO ps x k&&(decide (fr.getD q 0<0)||coO ps (fr.getD q 0).toNat x))))=false:=p2
  rw [hany] at p2';cases p2'
theorem RunP.ends (h:RunP ord t w fr ps pos) (ht:TG t) (hb:TB t) (ho:OrdOk t ord):Z1 t w pos=W5 t (X4_ (csS t w fr)) fun i=>(Zd_ (csS t w fr) (zFh 0 ps (List.replicate 8 0))).getD i 0:=by
 have hl:=hb.locs
 have hE:=h.ordE ht hb ho
 have hf:=h.fits ht hb ho
 rw [<-h.cs ht hb ho]
 show W5 t _ _=W5 t _ _
 congr 1
 funext i
 unfold Zd_
 by_cases h8:i<8
 .rw [List.getD,List.getElem?_map,List.getElem?_range h8]
  show _=(if i<t.locs.length then zFq _ _ i else 0)
  split
  .rename_i hi;exact (zLa hb hE hf hi).symm
  rfl
 rw [List.getD,List.getElem?_eq_none (by simp;omega),if_neg (by omega)]
 rfl
theorem zew (ho : OrdOk t ord) (hb : TB t) (hs : ∀ k, k < nO t → fr.getD k 0 = -1 ∨ ∃ m : Nat, fr.getD k 0 = m ∧ (fxS t w fr k).st = 1 ∧ (fxS t w fr m).st = 1) (hp : ∀ a b, coO ps a b = true → (csS t w fr).wr a = true ∧ (csS t w fr).wr b = true) {a b : Nat}
    (h:Zc_ (WU_ ord (csS t w fr)) (coO ps) (O3 (csS t w fr) (coO ps)) a b=true):(fxS t w fr a).st=1/\(fxS t w fr b).st=1:=by
  unfold Zc_ WU_ at h
  simp only [Bool.or_eq_true] at h
  rcases h with ((h|h)|h)|h
  . obtain ⟨_,_,_,h1,h2⟩:=Zu_.1 (ho.po (csS t w fr) rfl (Q1 t (YY_ t w fr) w) a b h)
    exact ⟨h1,h2⟩
  . unfold zLr at h
    simp only [Bool.and_eq_true,Bool.not_eq_true',decide_eq_true_eq] at h
    obtain ⟨h1,h2,_⟩:=h
    replace h2:fr.getD b 0=(a:Nat):=h2
    rcases hs b h1 with h0|⟨m,e,e1,e2⟩
    . omega
    obtain rfl:a=m:=by omega
    exact ⟨e2,e1⟩
  . obtain ⟨h1,h2⟩:=hp a b h
    exact ⟨(S2.1 h1).1,(S2.1 h2).1⟩
  unfold O3 at h
  simp only [Bool.and_eq_true,Bool.or_eq_true,Bool.not_eq_true',decide_eq_true_eq,decide_eq_false_iff_not] at h
  obtain ⟨_,_,h3,_,h5,_⟩:=h
  exact ⟨(VR_.1 h3).1,(S2.1 h5).1⟩
end
theorem G2 {t : Tst} {ord : Cs → Rl} (ht : TG t) (hb : TB t) (ho : OrdOk t ord) {r : Rn} (hr : r ∈ O8 ord t) :
    ∃ w pos,OrdE ord t w pos/\w.length=nO t/\(∀ k,w.getD k false=true->(opX t k).op=14)/\Z1 t w pos=r.st/\csO t w pos=r.c/\∀ a b,r.ah a b=true->pos a<pos b:=by
  unfold O8 at hr
  obtain ⟨w,hw,hr⟩:=List.mem_flatMap.1 hr
  obtain ⟨fr,hfr,hr⟩:=List.mem_flatMap.1 hr
  obtain ⟨w1,_,w3⟩:=(UY_ _ _ _ (by simp) (by omega) fun q _=>by rw [List.getD,List.getElem?_replicate];split<;>rfl).1 hw
  obtain ⟨f1,f2⟩:=zAv.1 hfr
  unfold Yj_ U6 at hr
  dsimp only at hr
  rw [WO_] at hr
  by_cases hwh:(C9 t (itR t w (stN t fr) (nO t)) w).whole=true
  rotate_left
  . rw [if_neg hwh] at hr;cases hr
  rw [if_pos hwh] at hr
  by_cases hbad:(List.range (nO t)).any (JP_ (C9 t (itR t w (stN t fr) (nO t)) w).f w fr)=true
  . rw [if_pos hbad] at hr;cases hr
  rw [if_neg hbad] at hr
  dsimp only at hr
  obtain ⟨⟨las,co⟩,hl,hr⟩:=List.mem_flatMap.1 hr
  obtain ⟨ps,p1,p2,p3,p4⟩:=(WN_ _ _ _ _).1 hl
  replace p4:co=coO ps:=p4
  subst p4
  subst p3
  replace hr:r∈V8_ (WU_ ord (csS t w fr)) (csS t w fr) (zFh 0 ps (List.replicate 8 0)) (coO ps):=hr
  have p2':∀ i,i<t.locs.length->(ps.getD i []).Perm (W8 (csS t w fr) i (nO t)):=fun i hi=>by
    have:=p2 i hi
    rw [Nat.zero_add] at this;exact this
  have hbad':∀ k,k<nO t->JP_ (C9 t (YY_ t w fr) w).f w fr k=false:=fun k hk=>by
    rw [Bool.not_eq_true,any_eq_false] at hbad
    have:=hbad k (List.mem_range.2 hk)
    rwa [Bool.not_eq_true] at this
  unfold V8_ at hr
  split at hr
  . cases hr
  rename_i hj
  rw [mem_singleton] at hr
  simp only [Bool.or_eq_true,not_or,Bool.not_eq_true,Bool.not_eq_false'] at hj
  obtain ⟨j1,j2,j3⟩:=hj
  have hn:=hb.n16
  have hsrc:∀ k,k<nO t->fr.getD k 0=-1\/∃ m:Nat,fr.getD k 0=m/\(fxS t w fr k).st=1/\(fxS t w fr m).st=1:=fun k hk=>by
    rcases WM_.1 (f2 k hk) with h0|⟨h1,m,h2,h3,h4⟩
    . exact .inl h0
    right
    obtain ⟨b1,b2,b3⟩:=Zv_ (hbad' k hk)
    have hkr:(fxS t w fr k).st=1:=Classical.byContradiction fun hc=>(b1 hc).1 (by omega)
    have hm:=b2 hkr (by omega)
    rw [h2] at hm
    exact ⟨m,h2,hkr,hm⟩
  have hco:∀ a b,coO ps a b=true->(csS t w fr).wr a=true/\(csS t w fr).wr b=true:=fun a b hc=>by
    unfold coO at hc
    rw [Bool.false_or,any_eq_true] at hc
    obtain ⟨p,hp,h0⟩:=hc
    obtain ⟨i,hi⟩:=List.getElem?_of_mem hp
    have hi2:i<t.locs.length:=by rw [<-p1];exact (List.getElem?_eq_some_iff.1 hi).1
    have hperm:=p2' i hi2
    rw [List.getD,hi] at hperm
    obtain ⟨h1,h2⟩:=zDs h0
    exact ⟨(L3.1 (hperm.mem_iff.1 h1)).2.1,(L3.1 (hperm.mem_iff.1 h2)).2.1⟩
  obtain ⟨pos,q1,q2,q3⟩:=zev (s:=fun k=>decide ((fxS t w fr k).st=1)) j2 fun a b h=>by
    obtain ⟨h1,h2⟩:=zew ho hb hsrc hco h
    have:=run_lt h1
    have:=run_lt h2
    exact ⟨decide_eq_true h1,decide_eq_true h2,by omega,by omega⟩
  have hP:RunP ord t w fr ps pos :=
    { inj:=fun a b ha hb'=>q1 a b (by omega) (by omega)
      frl:=f1
      src:=f2
      whole:=hwh
      bad:=hbad'
      psl:=p1
      perm:=p2'
      beh:=fun a b h1 h2=>by
        have ha:=run_lt (Zu_.1 h2).2.2.2.1
        have hb':=run_lt (Zu_.1 h2).2.2.2.2
        have:zEx (fun a b=>O3 (csS t w fr) (coO ps) a b&&poP (csS t w fr) b a)=true:=zDu.2 ⟨a,b,by omega,by omega,by rw [h1,h2];rfl⟩
        rw [this] at j1;cases j1
      par:=j3
      ah:=q2
      last:=fun a b ha hb' h1 h2=>q3 a b (by omega) (by omega) (decide_eq_true h1) (decide_eq_false h2) }
  refine ⟨w,pos,hP.ordE ht hb ho,w1,fun k=>w3 k (Nat.zero_le _),?_,?_,?_⟩
  . rw [hr];exact hP.ends ht hb ho
  . rw [hr];exact hP.cs ht hb ho
  rw [hr];exact q2
theorem O7 {c:Cs} {a b:Nat} (h:poP c a b=true):a<b/\b<c.n/\c.th a b=true/\c.run a=true/\c.run b=true:=by
 unfold poP po0 at h
 simp only [Bool.and_eq_true,decide_eq_true_eq] at h
 exact ⟨h.1.1.1,h.1.1.2,h.1.2,h.2.1,h.2.2⟩
theorem zex {c:Cs} {a b:Nat} (h1:a<b) (h2:b<c.n) (h3:c.th a b=true) (h4:c.run a=true) (h5:c.run b=true):poP c a b=true:=by
 unfold poP po0
 simp only [Bool.and_eq_true,decide_eq_true_eq]
 exact ⟨⟨⟨h1,h2⟩,h3⟩,h4,h5⟩
theorem zLc {c:Cs} {a m b:Nat} (h:poP c a m=true) (h':poP c m b=true):poP c a b=true:=by
 obtain ⟨a1,a2,a3,a4,a5⟩:=O7 h
 obtain ⟨b1,b2,b3,b4,b5⟩:=O7 h'
 refine zex (by omega) b2 ?_ a4 b5
 unfold Cs.th at *
 rw [decide_eq_true_eq] at *
 exact a3.trans b3
theorem JC_ {c:Cs} {i:Nat} {r:Nat->Nat->Bool} (h:(rul c)[i]?=some r) {a b:Nat} (hr:r a b=true) (hp:poP c a b=true):Q9 c a b=true:=by
 unfold Q9 orU
 rw [hp,Bool.and_true,any_eq_true]
 refine ⟨r,?_,hr⟩
 have h13:(rul c).length=13:=rfl
 rw [take_of_length_le (by omega)]
 exact List.mem_of_getElem? h
theorem Ua_ {t:Tst} (hb:nO t<=16):OrdOk t Q9 where
 po c _ _ a b h:=by unfold Q9 at h;exact (Bool.and_eq_true_iff.1 h).2
 loc c _ _ a b hp hl hw:=by
  obtain ⟨a1,a2,a3,a4,a5⟩:=O7 hp
  refine JC_ (i:=0) rfl ?_ hp
  show ((poP c a b&&lcP c a b)&&(c.run a&&c.wr b))=true
  have:lcP c a b=true:=by
   unfold lcP
   simp only [Bool.and_eq_true,decide_eq_true_eq]
   exact ⟨⟨by omega,a2⟩,hl⟩
  rw [hp,this,a4,hw];rfl
 path c _ hf a b hp hw hb':=by
  obtain ⟨a1,a2,a3,a4,a5⟩:=O7 hp
  refine JC_ (i:=10) rfl ?_ hp
  show (zg9 c a b&&(c.run a&&c.wr b))=true
  have:zg9 c a b=true:=by
   unfold zg9 JM_
   rw [a4,a5,hb',hf.l6];simp [a2]
  rw [this,a4,hw];rfl
 vl c _ hf a b hp hw hb':=by
  obtain ⟨a1,a2,a3,a4,a5⟩:=O7 hp
  refine JC_ (i:=9) rfl ?_ hp
  show zVv c a b=true
  unfold zVv JM_
  rw [a4,a5,hb',hf.l5];simp [a2]
 inn c ht hf a m b h1 h2 h3 h4 h5 h6 h7:=by
  obtain ⟨a1,a2,a3,a4,a5⟩:=O7 h1
  obtain ⟨b1,b2,b3,b4,b5⟩:=O7 h2
  refine JC_ (i:=11) rfl ?_ (zLc h1 h2)
  show th (fun a b=>(zg8 c a b||zVv c a b)&&(c.run a&&c.wr b)) (ip c) a b=true
  have hm:m<nO t:=by rw [<-ht];exact a2
  unfold th
  rw [F2]
  refine ⟨m,by omega,?_⟩
  have e1:zVv c a m=true:=by
   unfold zVv JM_
   rw [a4,a5,h7,hf.l5];simp [a2]
  have e2:ip c m b=true:=by
   unfold ip zd9 zFp
   rw [h2,h6,b3,b4,b5];simp [b2]
  dsimp only
  rw [e1,e2,a4,h4];simp
 amo c _ _ m b h1 h2 h3 h4:=by
  obtain ⟨b1,b2,b3,b4,b5⟩:=O7 h1
  refine JC_ (i:=2) rfl ?_ h1
  show (ip c m b&&(zg7 c m&&c.rd b))=true
  have e2:ip c m b=true:=by
   unfold ip zd9 zFp
   rw [h1,h4,b3,b4,b5];simp [b2]
  have e3:zg7 c m=true:=by
   unfold zg7 Cs.at_
   rw [b4];simp [h2]
  rw [e2,e3,h3];rfl
end Go.Proofs.YtmpbalepefpllaaGreat
