/- Texts put together, in order: Grvwe, Grvwf, Grvwg, Grvwh, Grvwi, Grvwj, Grvwk, Grvwl, W24, W25, W70, W71, W72, W73, W74, W75, W76, W77. -/
import Derived.Test.YtmpbalepefpllaaGreatD7
open List
set_option maxRecDepth 100000
set_option maxHeartbeats 16000000
set_option linter.unusedVariables false
set_option linter.unusedSimpArgs false
namespace Go.Proofs.YtmpbalepefpllaaGreat
open Go Go.Sl Go.Proofs.Tryz
theorem zEj (S:List Nat) (H:A8) (d:Nat) (l:List Nat):(R5 l).map (Q5 (frz S H d))=R5 l:=by
 unfold R5
 rw [map_map]
 exact map_congr_left fun x _=>by show Q5 (frz S H d) (iV _)=_;simp [Q5,go_sem]
theorem zhp (t:Tst) (hS:SeaOk t) (of:FuncId) (ws:List Bool) (fr:List Int) (vg:FuncId) (vcs:List V) (k:Nat) (hk:k<nO t):Pf Tryz.prog 145 [d7 t of ws fr vg vcs,iV k] (B5 (opX t k)) :=
 Pf.hide (ds:=zTb t (fnV of) ws fr) fun x _=>M6 t hS of ws fr x k hk
theorem Fn.seen {P:Program} {f:FuncId} {args args':List V} {H:A8} {k:Nat} {K:V->A8->Nat->Prop} (hs:SeenAll args args') (h:Sl.Fn P f args' H k K):Sl.Fn P f args H k K:=⟨h.enters,fun F ι w cargs hv R hf=>h.calls F ι w cargs (hs.rels hv) R hf⟩
theorem YM_ {σ:Type} {Q:Rn->Prop} {G:σ->A8} {step:σ->Rn->σ} {ok:σ->Prop} {vg:FuncId} {vcs:List V} {j0:Nat} (hV:VisOk Q G step ok vg vcs j0):∀ (l:List Rn) (s:σ),ok s->(∀ r∈l,Q r)->ok (l.foldl step s)
 | [],s,h,_=>h
 | r::l,s,h,hq=>YM_ hV l _ (hV.okS s r h (hq r (.head _))) fun q hm=>hq q (.tail _ hm)
structure LasOk (c:Cs) (las:List Int):Prop where
 len:las.length=8
 bd:∀ (i:Nat) (n:Int),las[i]?=some n->0<=n/\n<=c.n
theorem LasOk.set {c:Cs} {las:List Int} (h:LasOk c las) (i:Nat) {n:Int} (h0:0<=n) (h1:n<=c.n):LasOk c (las.set i n):=⟨by rw [length_set];exact h.len,fun q m hm=>by
 rw [List.getElem?_set] at hm
 split at hm
 .split at hm
  .cases hm;exact ⟨h0,h1⟩
  cases hm
 exact h.bd q m hm⟩
theorem J5 {G:A8} {j0 n:Nat} (h:∀ p∈G,p.1<j0) (hn:j0<=n):G.filter (fun p=>decide (p.1=n))=[] :=
 List.filter_eq_nil_iff.2 fun p hp=>by have:=h p hp;simp;omega
theorem P6 {G:A8} {j0 n:Nat} (h:∀ p∈G,p.1<j0) (hn:j0<=n):G.filter (fun p=>!decide (p.1=n))=G :=
 List.filter_eq_self.2 fun p hp=>by have:=h p hp;simp;omega
theorem Ut_ {G:A8} {j0 n m:Nat} (h:∀ p∈G,p.1<j0) (hn:j0<=n) (hm:j0<=m):G.filter (fun p=>decide (p.1=n)||decide (p.1=m))=[] :=
 List.filter_eq_nil_iff.2 fun p hp=>by have:=h p hp;simp;omega
theorem zBj {G:A8} {j0 n m:Nat} (h:∀ p∈G,p.1<j0) (hn:j0<=n) (hm:j0<=m):G.filter (fun p=>!decide (p.1=n)&&!decide (p.1=m))=G :=
 List.filter_eq_self.2 fun p hp=>by have:=h p hp;simp;omega
theorem X4 {G:A8} {j0 n:Nat} (h:∀ p∈G,p.1<j0) (hn:j0<=n) (x:B):((n,x)∈G)=False:=eq_false fun hm=>by have:=h _ hm;simp only [] at this;omega
theorem za2 {l:List Nat} {n a:Nat} (h:∀ x∈l,x<n) (ha:a<n):∀ x∈l++[a],x<n:=by
 intro x hx
 rcases List.mem_append.1 hx with h1|h1
 .exact h x h1
 cases List.mem_singleton.1 h1;exact ha
theorem zhq {l:List Nat} {n:Nat} (h:∀ x∈l,x<n) (i:Nat):∀ x∈l.take i++l.drop (i+1),x<n:=by
 intro x hx
 rcases List.mem_append.1 hx with h1|h1
 .exact h x (mem_of_mem_take h1)
 exact h x (mem_of_mem_drop h1)
def zk0 {σ:Type} (Q:Rn->Prop) (G:σ->A8) (step:σ->Rn->σ) (ok:σ->Prop) (vg:FuncId) (vcs:List V) (j0:Nat) (c:Cs) (of:FuncId) (ws:List Bool) (kept:Rl) (f:Nat):Prop :=
 ∀ (loc:Nat) (las:List Int) (co:Rl) (s:σ) (j:Nat),loc+f=c.t.locs.length->LasOk c las->(∀ r∈zKv kept c f loc las co,Q r)->ok s->j0<=j →
  Sl.Fn Tryz.prog 205 [d7 c.t of ws c.fr vg vcs,.agg (G5 c kept (poP c) las),.agg (B6 co),iV (loc:Nat)] (G s) j fun v H _=>v=.tup []/\H=G ((zKv kept c f loc las co).foldl step s)
def zk1 {σ:Type} (Q:Rn->Prop) (G:σ->A8) (step:σ->Rn->σ) (ok:σ->Prop) (vg:FuncId) (vcs:List V) (j0:Nat) (c:Cs) (of:FuncId) (ws:List Bool) (kept:Rl) (f m:Nat):Prop :=
 ∀ (loc:Nat) (las:List Int) (co:Rl) (ahead left:List Nat) (s:σ) (j:Nat),loc+(f+1)=c.t.locs.length->LasOk c las->left.length=m->ahead.length+left.length<=8->(∀ a∈ahead,a<c.n)->(∀ a∈left,a<c.n) →
  (∀ r∈zGa kept c f loc las co m ahead left,Q r)->ok s->j0<=j →
  Sl.Fn Tryz.prog 223 [d7 c.t of ws c.fr vg vcs,.agg (G5 c kept (poP c) las),.agg (B6 co),iV (loc:Nat),.ro 1 (R5 ahead),.ro 1 (R5 left)] (G s) j fun v H _=>v=.tup []/\H=G ((zGa kept c f loc las co m ahead left).foldl step s)
theorem JS_ {las:List Int} {loc:Nat} {ahead:List Nat} {n a:Nat} (hn:ahead.length=n+1) (ha:ahead[n]?=some a):zB2 las loc ahead=las.set loc ((a:Int)+1):=by
 unfold zB2
 rw [List.getLast?_eq_getElem?,hn,Nat.add_sub_cancel,ha]
theorem zRc (las:List Int) (loc:Nat):zB2 las loc []=las:=rfl
theorem zLr (l:List Nat) (hl:l.length<=1000):Pf Tryz.prog 228 [.ro 1 (R5 l)] (.agg (B6 (UZ_ l))):=by
 refine Pf.of_fn (.cons (zg7 l) .nil) (.agg (D9 _)) ?_
 refine B7 T_ok func228 rfl rfl ntmps228 rfl (by simp) ?_
 refine rG ?_
 refine rG ?_
 refine A3 fun K1 hK1=>?_
 refine rG ?_
 apply A0
 refine A9 (α:=Nat) (fun i=>⟨31,[(0,.ro 1 (R5 l)),(2,.ptr 0 0 0),(3,.ptr 1 0 0),(8,.ro 1 (R5 l)),(9,iV (l.length:Nat)),(10,iV (i:Nat))],[(1,.rows 16 [.agg (B6 (chU l i 0))]),(0,.rows 16 [.agg (B6 fun _ _=>false)])],2⟩) (fun i=>i<=l.length) (fun i=>l.length-i) 0 ?_ ?_ ?_
 .exact Nat.zero_le _
 .refine Weaker.fw 1 0 ?_ ?_
  .simp [go_sem]
  simp [go_sem,zQn]
 rintro i hi
 skip
 refine rG ?_
 refine A3 fun K2 hK2=>?_
 refine cJ (fun h=>?_) fun h=>?_
 .simp at h
  obtain rfl:i=l.length:=by omega
  apply A6
  apply hK1
  refine rG ?_
  refine A4 ?_
  simp [go_sem,zZ2]
 simp at h
 have hin:i<l.length:=by omega
 have hiI:(i:Int)<(l.length:Nat):=by omega
 clear h
 have hw:=wI i
 obtain ⟨a,hx,hx'⟩:=E0 hin
 have hi0:(0:Int)<=(i:Nat):=by omega
 have hdl:(l.drop (i+1)).length=l.length-(i+1):=length_drop ..
 have htl:(l.drop (i+1)).take (l.length-(i+1))=l.drop (i+1):=take_of_length_le (by rw [length_drop];omega)
 have g131:(0:Int)<=(i:Int)+1/\(i:Int)+1<=(l.length:Nat)/\((i:Int)+1).toNat=i+1/\i+1<=l.length:=by and_intros<;>omega
 apply A1
 apply hK2
 refine A3 fun K3 hK3=>?_
 apply A0
 refine rG ?_ fun K h=>by simp [go_sem,hin,hiI,hx,hx',hi0];exact h
 refine rG ?_ fun K h=>by simp [go_sem,hin,hiI,hx,hx',hi0,hw,g131];exact h
 apply A0
 refine A9 (α:=Nat) (fun b=>⟨31,[(0,.ro 1 (R5 l)),(2,.ptr 0 0 0),(3,.ptr 1 0 0),(8,.ro 1 (R5 l)),(9,iV (l.length:Nat)),(10,iV (i:Nat)),(5,iV (a:Nat)),(18,.ro 1 (R5 (l.drop (i+1)))),(19,iV ((l.length-(i+1):Nat):Int)),(20,iV (b:Nat))],[(1,.rows 16 [.agg (B6 (chU l i b))]),(0,.rows 16 [.agg (B6 fun _ _=>false)])],2⟩) (fun b=>b<=l.length-(i+1)) (fun b=>l.length-(i+1)-b) 0 ?_ ?_ ?_
 .exact Nat.zero_le _
 .refine Weaker.fw 1 0 ?_ ?_
  .simp [go_sem,hdl,htl]
  simp [go_sem]
 rintro b hb
 skip
 refine rG ?_
 refine A3 fun K4 hK4=>?_
 refine cJ (fun h=>?_) fun h=>?_
 .have hb1:¬ b<l.length-(i+1):=by have h9:¬ (b:Int)<((l.length-(i+1):Nat):Int):=(by simpa using h);omega
  obtain rfl:b=l.length-(i+1):=by omega
  clear h
  apply A6
  apply hK3
  refine rF ?_ fun K h=>by simp [go_sem,hw];exact h
  refine ⟨i+1,?_,?_,?_⟩
  .omega
  .omega
  refine Weaker.fw 1 0 ?_ ?_
  .simp [go_sem]
  simp [go_sem,zZ1 hx]
 have hb1:b<l.length-(i+1):=by have h9:(b:Int)<((l.length-(i+1):Nat):Int):=(by simpa using h);omega
 clear h
 have hwb:=wI b
 have hb2:b<(l.drop (i+1)).length:=by omega
 obtain ⟨y,hy,hy'⟩:=E0 hb2
 have g132:(0:Int)<=(b:Nat)/\(b:Int)<((l.drop (i+1)).length:Nat)/\(b:Int)<((l.length-(i+1):Nat):Int):=by and_intros<;>omega
 apply A1
 apply hK4
 refine A3 fun K5 hK5=>?_
 apply A0
 refine rG ?_ fun K h=>by simp [go_sem,hb1,hb2,g132,hy,hy',hdl];exact h
 refine rE fun K hK=>?_
 simp [go_sem]
 refine A2 (j1 _ _ _) ?_
 simp [go_sem]
 apply hK
 apply hK5
 refine rF ?_ fun K h=>by simp [go_sem,hwb];exact h
 refine ⟨b+1,?_,?_,?_⟩
 .omega
 .omega
 refine Weaker.fw 1 0 ?_ ?_
 .simp [go_sem]
 simp [go_sem,zQo hx hy]
theorem zEk {σ:Type} {Q:Rn->Prop} {G:σ->A8} {step:σ->Rn->σ} {ok:σ->Prop} {vg:FuncId} {vcs:List V} {j0:Nat} (hV:VisOk Q G step ok vg vcs j0) (c:Cs) (hc:CsOk c) (hS:SeaOk c.t) (of:FuncId) (ws:List Bool) (kept:Rl) (hrl:c.f.regs.length=c.t.ths.length) (f m:Nat) (hL:zk0 Q G step ok vg vcs j0 c of ws kept f) (ih:∀ q,q+1=m->zk1 Q G step ok vg vcs j0 c of ws kept f q):zk1 Q G step ok vg vcs j0 c of ws kept f m:=by
 intro loc las co ahead left s j hloc hlas hm h8 hah hle hQ hs hj
 refine Fn.view ?_
 have hl8:=hlas.len
 have hn8:=hc.n8
 have hlo:=hS.locs
 have hc8:loc<8:=by omega
 have g133:(loc:Int)<8/\(0:Int)<=(loc:Nat)/\loc<=7/\33+loc<=40:=by and_intros<;>omega
 have hwl:=wI loc
 refine B7 T_ok func223 rfl rfl ntmps223 rfl (by simp) ?_
 refine rG ?_ fun K h=>by simp [go_sem,C0 hl8,B3 hl8,B1 hl8,C4 hl8,B0,C2,F1,C1];exact h
 refine A3 fun K1 hK1=>?_
 refine rG ?_
 refine cK (fun h=>?_) fun h=>?_
 .have hz:left.length=0:=by simpa using h
  have hm0:m=0:=by omega
  subst hm0
  have hER:=zKy kept c f loc las co ahead left
  rw [hER] at hQ
  refine Z0 ⟨71,[(0,d7 c.t of ws c.fr vg vcs),(3,iV (loc:Nat)),(4,.ro 1 (R5 ahead)),(5,.ro 1 (R5 left)),(7,.ptr j 0 0),(8,.ptr (j+1) 0 0)],[(j+1,.rows 16 [.agg (B6 co)]),(j,.rows 41 [.agg (G5 c kept (poP c) (zB2 las loc ahead))])]++G s,j+2⟩ ?_ ?_
  .skip
   refine rG ?_
   refine rG ?_
   refine cJ (fun h=>?_) fun h=>?_
   .have hap:¬ 0<ahead.length:=by simpa using h
    obtain rfl:ahead=[]:=List.length_eq_zero_iff.1 (by omega)
    have hlt:=zRc las loc
    apply A1
    refine Weaker.fzT [_,_] _ (G s) 0 (by omega) ?_ ?_ ?_
    .simp [go_sem,hlt]
    .first|(simp;done)|(simp;omega)
    simp [go_sem,hlt]
   have hap:0<ahead.length:=by simpa using h
   obtain ⟨n,hn⟩:∃ n,ahead.length=n+1:=⟨ahead.length-1,by omega⟩
   have hnA:n<ahead.length:=by omega
   obtain ⟨a,ha,ha'⟩:=E0 hnA
   have hac:=hah a (List.mem_of_getElem? ha)
   have hlt:=JS_ (las:=las) (loc:=loc) hn ha
   have hwn:IntKind.i64.wrap ((ahead.length:Nat)-1)=(n:Nat):=by rw [E4 (by omega) (by omega)];omega
   have hwa:=wI a
   have g134:(n:Int)<(ahead.length:Nat)/\(0:Int)<=(n:Nat):=by and_intros<;>omega
   have hlasT:LasOk c (zB2 las loc ahead):=by rw [hlt];exact hlas.set loc (by omega) (by omega)
   refine rF ?_ fun K h=>by simp [go_sem,C0 hl8,B3 hl8,B1 hl8,C4 hl8,B0,C2,F1,C1,hwn,hwa,hnA,g134,ha,ha',hc8,g133,zYt hl8 hc8];exact h
   refine Weaker.fzT [_,_] _ (G s) 0 (by omega) ?_ ?_ ?_
   .simp [go_sem,hlt]
   .first|(simp;done)|(simp;omega)
   simp [go_sem,hlt]
  have hlasT:LasOk c (zB2 las loc ahead):=by
   rcases Nat.eq_zero_or_pos ahead.length with h9|h9
   .rw [List.length_eq_zero_iff.1 h9];exact hlas
   obtain ⟨n,hn⟩:∃ n,ahead.length=n+1:=⟨ahead.length-1,by omega⟩
   obtain ⟨a,ha,_⟩:=E0 (show n<ahead.length by omega)
   have hac:=hah a (List.mem_of_getElem? ha)
   rw [JS_ hn ha];exact hlas.set loc (by omega) (by omega)
  have hlT:=hlasT.len
  refine dK 8 [[],[],[],[],[3],[2,3,4],[],[6],[0,1,2,3,4,5,6,7]] fun K hK=>?_
  first|dsimp only [List.take,List.drop]|dsimp [List.take,List.drop]
  simp [go_sem,C0 hlT,B3 hlT,B1 hlT,C4 hlT,B0,C2,F1,C1]
  refine A5 (zLr ahead (by omega)) ?_
  simp [go_sem,C0 hlT,B3 hlT,B1 hlT,C4 hlT,B0,C2,F1,C1]
  refine A5 (zFs _ _) ?_
  simp [go_sem,hwl,C0 hlT,B3 hlT,B1 hlT,C4 hlT,B0,C2,F1,C1]
  refine U7 (A:=[_,_]) (G:=G s) (hL (loc+1) (zB2 las loc ahead) (fun a b=>co a b||UZ_ ahead a b) s _ (by omega) hlasT hQ hs (by omega)) fun k2 hk2=>?_
  simp [go_sem]
  apply hK
  refine A4 ?_
  rw [hER]
  simp [go_sem]
  first
  | exact ⟨_,_,View.tail [] _ _,rfl,rfl⟩
  | exact ⟨_,_,View.tail [_] _ _,rfl,rfl⟩
  | exact ⟨_,_,View.tail [_,_] _ _,rfl,rfl⟩
  | exact ⟨_,_,View.tail [_,_,_] _ _,rfl,rfl⟩
  | exact ⟨_,_,View.tail [_,_,_,_] _ _,rfl,rfl⟩
  | exact ⟨_,_,View.tail [_,_,_,_,_] _ _,rfl,rfl⟩
 have hz:¬ left.length=0:=by simpa using h
 obtain ⟨q,rfl⟩:∃ q,m=q+1:=⟨m-1,by omega⟩
 have hER:=JI_ kept c f loc las co q ahead left
 have hQ2:∀ i,i<=left.length->∀ r∈zBb kept c f loc las co q ahead left i,Q r:=fun i hi r hr=>hQ r (zQp hi hr)
 apply A1
 apply hK1
 refine rG ?_
 apply A0
 refine A9 (α:=Nat × Nat) (fun a=>⟨71,[(0,d7 c.t of ws c.fr vg vcs),(3,iV (loc:Nat)),(4,.ro 1 (R5 ahead)),(5,.ro 1 (R5 left)),(7,.ptr j 0 0),(8,.ptr (j+1) 0 0),(41,.ro 1 (R5 left)),(42,iV (left.length:Nat)),(43,iV (a.1:Nat))],[(j+1,.rows 16 [.agg (B6 co)]),(j,.rows 41 [.agg (G5 c kept (poP c) las)])]++G ((zBb kept c f loc las co q ahead left a.1).foldl step s),a.2⟩) (fun a=>a.1<=left.length/\j+1<a.2) (fun a=>left.length-a.1) (0,j+2) ?_ ?_ ?_
 .exact ⟨Nat.zero_le _,by dsimp only;omega⟩
 .refine Weaker.fzT [_,_] _ (G s) 0 (by first|omega|(dsimp only;omega)|exact Nat.le_refl _) ?_ ?_ ?_
  .simp [go_sem]
  .first|(simp;done)|(simp;omega)
  simp [go_sem]
 rintro ⟨i,kk⟩ ⟨hi,hkk⟩
 dsimp only at hi hkk ⊢
 have g135:¬ kk=j/\¬ j=kk/\¬ kk=j+1/\¬ j+1=kk/\¬ kk+3=j/\¬ j=kk+3/\¬ kk+4=j/\¬ j=kk+4/\¬ kk+8=j/\¬ j=kk+8/\¬ kk+9=j/\¬ j=kk+9/\¬ kk+14=j/\¬ j=kk+14/\¬ kk+16=j/\¬ j=kk+16/\¬ kk+18=j/\¬ j=kk+18/\¬ kk+19=j/\¬ j=kk+19/\¬ kk+4=j+1/\¬ j+1=kk+4/\¬ kk+9=j+1/\¬ j+1=kk+9/\¬ kk+14=j+1/\¬ j+1=kk+14/\¬ kk+16=j+1/\¬ j+1=kk+16/\¬ kk+18=j+1/\¬ j+1=kk+18/\¬ kk+19=j+1/\¬ j+1=kk+19:=by and_intros<;>omega
 refine rG ?_
 refine A3 fun K2 hK2=>?_
 refine cJ (fun h=>?_) fun h=>?_
 .simp at h
  obtain rfl:i=left.length:=by omega
  clear h
  apply A6
  refine ⟨.inl rfl,?_⟩
  rw [hER]
  simp [go_sem]
  first
  | exact ⟨_,_,View.tail [] _ _,rfl,rfl⟩
  | exact ⟨_,_,View.tail [_] _ _,rfl,rfl⟩
  | exact ⟨_,_,View.tail [_,_] _ _,rfl,rfl⟩
  | exact ⟨_,_,View.tail [_,_,_] _ _,rfl,rfl⟩
  | exact ⟨_,_,View.tail [_,_,_,_] _ _,rfl,rfl⟩
  | exact ⟨_,_,View.tail [_,_,_,_,_] _ _,rfl,rfl⟩
 simp at h
 have hin:i<left.length:=by omega
 have hiI:(i:Int)<(left.length:Nat):=by omega
 clear h
 have hw:=wI i
 obtain ⟨a,hx,hx'⟩:=E0 hin
 have hi0:(0:Int)<=(i:Nat):=by omega
 have hac:=hle a (List.mem_of_getElem? hx)
 have hst:(zBb kept c f loc las co q ahead left (i+1)).foldl step s=(zGa kept c f loc las co q (ahead++[a]) (left.take i++left.drop (i+1))).foldl step ((zBb kept c f loc las co q ahead left i).foldl step s):=by rw [JJ_ hx,foldl_append]
 have hQ3:∀ r∈zGa kept c f loc las co q (ahead++[a]) (left.take i++left.drop (i+1)),Q r:=fun r hr=>hQ2 (i+1) (by omega) r (by rw [JJ_ hx];exact List.mem_append.2 (.inr hr))
 have hsi:=YM_ hV _ s hs (hQ2 i (by omega))
 have hgn:=hV.names _ hsi
 have hpn0:=J5 hgn (show j0<=kk by omega)
 have hpa0:=P6 hgn (show j0<=kk by omega)
 have hpn1:=J5 hgn (show j0<=kk+4 by omega)
 have hpa1:=P6 hgn (show j0<=kk+4 by omega)
 have hpn2:=J5 hgn (show j0<=kk+1+1+1+1 by omega)
 have hpa2:=P6 hgn (show j0<=kk+1+1+1+1 by omega)
 have hpn3:=J5 hgn (show j0<=kk+9 by omega)
 have hpa3:=P6 hgn (show j0<=kk+9 by omega)
 have g136:i*8<=140737488355328/\(i+(left.length-(i+1)))*8<=140737488355328/\(i:Int)<=(left.length:Nat)/\(0:Int)<=(i:Int)+1/\(i:Int)+1<=(left.length:Nat)/\((i:Int)+1).toNat=i+1/\i+1<=left.length:=by and_intros<;>omega
 have hi1:i<=left.length:=by omega
 have hil:min i left.length=i:=Nat.min_eq_left hi1
 have hdl:(left.drop (i+1)).length=left.length-(i+1):=length_drop ..
 have hdt:(left.drop (i+1)).take (left.length-(i+1))=left.drop (i+1):=take_of_length_le (by omega)
 have hrl2:(left.take i++left.drop (i+1)).length=q:=by rw [length_append,length_take,length_drop];omega
 have hlft:List.take (i+(left.length-(i+1))) (List.take i (List.take i left)++List.drop (i+1) left)=List.take i left++List.drop (i+1) left:=by rw [take_take,Nat.min_self];exact take_of_length_le (by rw [hrl2];omega)
 apply A1
 apply hK2
 refine A3 fun K3 hK3=>?_
 apply A0
 refine rG ?_ fun K h=>by simp [go_sem,hin,hiI,hx,hx',hi0];exact h
 refine Q6 T_ok (by kernel_rfl) 9 [[],[],[],[1,2],[0,1,2,3],[],[],[6],[5,6,7],[0,1,2,3,4,5,6,7,8],[0,1,2,3,4,5,6,7,8,9]] [(0,1),(0,2),(0,3),(0,5),(4,5),(0,6),(4,6),(0,7),(4,7),(0,8),(4,8)] (by decide) (by decide) (by decide) ⟨71,[(0,d7 c.t of ws c.fr vg vcs),(3,iV (loc:Nat)),(4,.ro 1 (R5 ahead)),(5,.ro 1 (R5 left)),(7,.ptr j 0 0),(8,.ptr (j+1) 0 0),(41,.ro 1 (R5 left)),(42,iV (left.length:Nat)),(43,iV (i:Nat)),(13,iV (i:Nat)),(14,iV (a:Nat)),(15,.ro 1 (R5 (left.take i++left.drop (i+1))))],[(j+1,.rows 16 [.agg (B6 co)]),(j,.rows 41 [.agg (G5 c kept (poP c) las)])]++G ((zBb kept c f loc las co q ahead left i).foldl step s),kk+20⟩ ?_ ?_
 .first|dsimp only [List.take,List.drop]|dsimp [List.take,List.drop]
  simp [go_sem,hin,hiI,hi0,hw,hi1,g136,hil,hdl,hdt,d8,hpn0,hpn1,hpn2,hpn3,hpa0,hpa1,hpa2,hpa3,g135]
  refine Weaker.fzT [_,_,_] [(j+1,.rows 16 [.agg (B6 co)]),(j,.rows 41 [.agg (G5 c kept (poP c) las)])] (G ((zBb kept c f loc las co q ahead left i).foldl step s)) 1 (by first|exact Nat.le_refl _|omega|(dsimp only;omega)) ?_ ?_ ?_
  .simp [go_sem,hlft,hil,d8,g135]
  .first|(simp;done)|(simp;omega)
  simp [go_sem,hlft,hil,d8,g135]
 skip
 obtain ⟨k2,hk2⟩:∃ k2,k2=kk+20:=⟨_,rfl⟩
 rw [<-hk2]
 have hE:=ih q rfl loc las co (ahead++[a]) (left.take i++left.drop (i+1)) _ (k2+11) hloc hlas hrl2 (by simp;omega) (za2 hah hac) (zhq hle i) hQ3 hsi (by omega)
 rw [<-hst] at hE
 have htk:List.take (ahead.length+1) (R5 ahead++[iV a])=R5 (ahead++[a]):=by rw [take_of_length_le (by simp [R5])];simp [R5]
 have g137:¬ k2+1+1+1=j/\¬ j=k2+1+1+1/\¬ k2+1+1+1=j+1/\¬ j+1=k2+1+1+1/\¬ k2+3=j/\¬ j=k2+3/\¬ k2+3=j+1/\¬ j+1=k2+3/\¬ k2+1+1+1+1=j/\¬ j=k2+1+1+1+1/\¬ k2+1+1+1+1=j+1/\¬ j+1=k2+1+1+1+1/\¬ k2+4=j/\¬ j=k2+4/\¬ k2+4=j+1/\¬ j+1=k2+4/\¬ k2+1+1+1+1+1=j/\¬ j=k2+1+1+1+1+1/\¬ k2+1+1+1+1+1=j+1/\¬ j+1=k2+1+1+1+1+1/\¬ k2+5=j/\¬ j=k2+5/\¬ k2+5=j+1/\¬ j+1=k2+5/\¬ k2+1+1+1+1+1+1=j/\¬ j=k2+1+1+1+1+1+1/\¬ k2+1+1+1+1+1+1=j+1/\¬ j+1=k2+1+1+1+1+1+1/\¬ k2+6=j/\¬ j=k2+6/\¬ k2+6=j+1/\¬ j+1=k2+6/\¬ k2+1+1+1+1+1+1+1=j/\¬ j=k2+1+1+1+1+1+1+1/\¬ k2+1+1+1+1+1+1+1=j+1/\¬ j+1=k2+1+1+1+1+1+1+1/\¬ k2+7=j/\¬ j=k2+7/\¬ k2+7=j+1/\¬ j+1=k2+7/\¬ k2+1+1+1+1+1+1+1+1=j/\¬ j=k2+1+1+1+1+1+1+1+1/\¬ k2+1+1+1+1+1+1+1+1=j+1/\¬ j+1=k2+1+1+1+1+1+1+1+1/\¬ k2+8=j/\¬ j=k2+8/\¬ k2+8=j+1/\¬ j+1=k2+8/\¬ k2+1+1+1+1+1+1+1+1+1=j/\¬ j=k2+1+1+1+1+1+1+1+1+1/\¬ k2+1+1+1+1+1+1+1+1+1=j+1/\¬ j+1=k2+1+1+1+1+1+1+1+1+1/\¬ k2+9=j/\¬ j=k2+9/\¬ k2+9=j+1/\¬ j+1=k2+9/\¬ k2+1+1+1+1+1+1+1+1+1+1=j/\¬ j=k2+1+1+1+1+1+1+1+1+1+1/\¬ k2+1+1+1+1+1+1+1+1+1+1=j+1/\¬ j+1=k2+1+1+1+1+1+1+1+1+1+1/\¬ k2+10=j/\¬ j=k2+10/\¬ k2+10=j+1/\¬ j+1=k2+10/\¬ k2+1+1+1+1+1+1+1+1+1+1+1=j/\¬ j=k2+1+1+1+1+1+1+1+1+1+1+1/\¬ k2+1+1+1+1+1+1+1+1+1+1+1=j+1/\¬ j+1=k2+1+1+1+1+1+1+1+1+1+1+1/\¬ k2+11=j/\¬ j=k2+11/\¬ k2+11=j+1/\¬ j+1=k2+11:=by and_intros<;>omega
 have hqn0:=J5 hgn (show j0<=k2+1+1+1+1 by omega)
 have hqa0:=P6 hgn (show j0<=k2+1+1+1+1 by omega)
 have hqm0:=X4 hgn (show j0<=k2+1+1+1+1 by omega)
 have hqn1:=J5 hgn (show j0<=k2+1+1+1+1+1+1 by omega)
 have hqa1:=P6 hgn (show j0<=k2+1+1+1+1+1+1 by omega)
 have hqm1:=X4 hgn (show j0<=k2+1+1+1+1+1+1 by omega)
 have hqn2:=J5 hgn (show j0<=k2+1+1+1+1+1+1+1+1 by omega)
 have hqa2:=P6 hgn (show j0<=k2+1+1+1+1+1+1+1+1 by omega)
 have hqm2:=X4 hgn (show j0<=k2+1+1+1+1+1+1+1+1 by omega)
 have hqn3:=J5 hgn (show j0<=k2+1+1+1+1+1+1+1+1+1 by omega)
 have hqa3:=P6 hgn (show j0<=k2+1+1+1+1+1+1+1+1+1 by omega)
 have hqm3:=X4 hgn (show j0<=k2+1+1+1+1+1+1+1+1+1 by omega)
 have hqn4:=J5 hgn (show j0<=k2+1+1+1+1+1+1+1+1+1+1 by omega)
 have hqa4:=P6 hgn (show j0<=k2+1+1+1+1+1+1+1+1+1+1 by omega)
 have hqm4:=X4 hgn (show j0<=k2+1+1+1+1+1+1+1+1+1+1 by omega)
 have hrn:=Ut_ hgn (show j0<=k2+1+1+1+1+1+1 by omega) (show j0<=k2+1+1+1+1+1+1+1+1 by omega)
 have hra:=zBj hgn (show j0<=k2+1+1+1+1+1+1 by omega) (show j0<=k2+1+1+1+1+1+1+1+1 by omega)
 have g138:ahead.length*8<=140737488355328/\(ahead.length+1)*8<=140737488355328:=by and_intros<;>omega
 refine Y9 T_ok (by kernel_rfl) 11 [[],[],[],[],[],[],[4,5],[],[7],[4,5,6,7,8],[],[0,1,2,3,4,5,6,7,8,9,10]] [(0,4),(1,4),(2,4),(3,4),(4,5),(0,6),(1,6),(2,6),(3,6),(4,7),(6,7),(0,8),(1,8),(2,8),(3,8),(4,8),(5,8),(6,8),(0,9),(1,9),(2,9),(3,9),(4,10),(6,10),(8,10),(9,10)] (by decide) (by decide) (by decide) fun K hK=>?_
 first|dsimp only [List.take,List.drop]|dsimp [List.take,List.drop]
 simp [go_sem,C0 hl8,B3 hl8,B1 hl8,C4 hl8,B0,C2,F1,C1,d8,g137,hqn0,hqa0,hqm0,hqn1,hqa1,hqm1,hqn2,hqa2,hqm2,hqn3,hqa3,hqm3,hqn4,hqa4,hqm4,hrn,hra,g138]
 refine VO_ [_,_,_,_] [(j+1,.rows 16 [.agg (B6 co)]),(j,.rows 41 [.agg (G5 c kept (poP c) las)])] (G ((zBb kept c f loc las co q ahead left i).foldl step s)) 1 hE (by simp [go_sem,d8,zEj,Q5,frz,htk,g137,hqn0,hqa0,hqm0,hqn1,hqa1,hqm1,hqn2,hqa2,hqm2,hqn3,hqa3,hqm3,hqn4,hqa4,hqm4,hrn,hra,g138]) (by simp) (by simp [go_sem,g137,hqn0,hqa0,hqm0,hqn1,hqa1,hqm1,hqn2,hqa2,hqm2,hqn3,hqa3,hqm3,hqn4,hqa4,hqm4,hrn,hra,g138]) fun k3 hk3=>?_
 simp [go_sem]
 apply hK
 apply hK3
 refine rF ?_ fun K h=>by simp [go_sem,hw];exact h
 refine ⟨(i+1,k3),?_,?_,?_⟩
 .exact ⟨by dsimp only;omega,by dsimp only;omega⟩
 .dsimp only;omega
 refine Weaker.fzT [_,_] _ (G ((zBb kept c f loc las co q ahead left (i+1)).foldl step s)) 0 (by first|omega|(dsimp only;omega)) ?_ ?_ ?_
 .simp [go_sem,g135]
 .first|(simp;done)|(simp;omega)
 simp [go_sem,g135]
theorem zEl {c:Cs} {loc m:Nat} (h:(c.at_ (fun x=>wrB x.op) m&&decide ((opX c.t m).loc=(loc:Nat)))=true):j6 c loc (m+1)=j6 c loc m++[m]:=by
 rw [JK_,if_pos]
 exact h
theorem zLs {c:Cs} {loc m:Nat} (h:(c.at_ (fun x=>wrB x.op) m&&decide ((opX c.t m).loc=(loc:Nat)))=false):j6 c loc (m+1)=j6 c loc m:=by
 rw [JK_,if_neg]
 intro h2
 have h3:(c.at_ (fun x=>wrB x.op) m&&decide ((opX c.t m).loc=(loc:Nat)))=true:=h2
 rw [h] at h3;cases h3
theorem za3 {c:Cs} {loc m:Nat}:∀ x∈j6 c loc m,x<m:=fun x hx=>List.mem_range.1 (List.mem_filter.1 hx).1
theorem za4 (S:List Nat) (H:A8) (d:Nat):frz S H d (onV none)=onV none:=by cases d<;>rfl
theorem JT_ (c:Cs) (loc:Nat):j6 c loc 0=[]:=rfl
theorem zEm {σ:Type} {Q:Rn->Prop} {G:σ->A8} {step:σ->Rn->σ} {ok:σ->Prop} {vg:FuncId} {vcs:List V} {j0:Nat} (hV:VisOk Q G step ok vg vcs j0) (c:Cs) (hc:CsOk c) (hS:SeaOk c.t) (of:FuncId) (ws:List Bool) (kept:Rl) (hrl:c.f.regs.length=c.t.ths.length) (f:Nat) (hE:∀ q,f=q+1->∀ m,zk1 Q G step ok vg vcs j0 c of ws kept q m):zk0 Q G step ok vg vcs j0 c of ws kept f:=by
 intro loc las co s j hloc hlas hQ hs hj
 refine Fn.view ?_
 have hl8:=hlas.len
 have hn8:=hc.n8
 have hlo:=hS.locs
 have g139:loc<=8/\(0:Int)<=(loc:Nat):=by and_intros<;>omega
 have hgn:=hV.names _ hs
 refine B7 T_ok func205 rfl rfl ntmps205 rfl (by simp) ?_
 refine rG ?_ fun K h=>by simp [go_sem,C0 hl8,B3 hl8,B1 hl8,C4 hl8,B0,C2,F1,C1];exact h
 refine A3 fun K1 hK1=>?_
 refine rG ?_ fun K h=>by simp [go_sem,C0 hl8,B3 hl8,B1 hl8,C4 hl8,B0,C2,F1,C1,d7,E8,Tst.cs];exact h
 refine cK (fun h=>?_) fun h=>?_
 .have hle:loc=c.t.locs.length:=by have h9:(loc:Int)=(c.t.locs.length:Nat):=(by simpa using h);omega
  obtain rfl:f=0:=by omega
  have hLR:=zKw kept c loc las co
  rw [hLR] at hQ
  refine rK fun K hK=>?_
  simp [go_sem,C0 hl8,B3 hl8,B1 hl8,C4 hl8,B0,C2,F1,C1]
  refine U7 (A:=[_,_]) (G:=G s) (zR8 hV c hc hS of ws kept (poP c) co rfl las hl8 hlas.bd hrl hQ s hs _ (by omega)) fun k2 hk2=>?_
  simp [go_sem]
  apply hK
  refine A4 ?_
  rw [hLR]
  simp [go_sem]
  first
  | exact ⟨_,_,View.tail [] _ _,rfl,rfl⟩
  | exact ⟨_,_,View.tail [_] _ _,rfl,rfl⟩
  | exact ⟨_,_,View.tail [_,_] _ _,rfl,rfl⟩
  | exact ⟨_,_,View.tail [_,_,_] _ _,rfl,rfl⟩
  | exact ⟨_,_,View.tail [_,_,_,_] _ _,rfl,rfl⟩
  | exact ⟨_,_,View.tail [_,_,_,_,_] _ _,rfl,rfl⟩
 have hle:¬ loc=c.t.locs.length:=by have h9:¬ (loc:Int)=(c.t.locs.length:Nat):=(by simpa using h);omega
 obtain ⟨q,rfl⟩:∃ q,f=q+1:=⟨f-1,by omega⟩
 have hLR:=zKx kept c q loc las co
 rw [hLR] at hQ
 have hcn:(O0 0 c.t.ths).length=c.n:=rfl
 have hsl:=zKz c loc c.n
 apply A1
 apply hK1
 refine rG ?_
 refine rK fun K hK=>?_
 simp [go_sem,C0 hl8,B3 hl8,B1 hl8,C4 hl8,B0,C2,F1,C1]
 refine A2 (d0 c hc) ?_
 simp [go_sem,C0 hl8,B3 hl8,B1 hl8,C4 hl8,B0,C2,F1,C1]
 apply hK
 refine A3 fun K2 hK2=>?_
 refine rG ?_ fun K h=>by simp [go_sem,d7,E8,hcn];exact h
 apply A0
 refine Tr.weaken (Weaker.ghost 8 1 rfl) ?_
 refine A9 (α:=Nat × Nat × Nat) (fun a=>⟨60,[(0,d7 c.t of ws c.fr vg vcs),(3,iV (loc:Nat)),(5,.ptr j 0 0),(6,.ptr (j+1) 0 0),(9,.val (.int .u16 (F3 (c.at_ fun x=>wrB x.op)))),(8,.sl a.2.1 0 (j6 c loc a.1).length),(32,iV (c.n:Nat)),(33,iV (a.1:Nat))],[(a.2.1,.rows 1 (R5 (j6 c loc a.1))),(j+1,.rows 16 [.agg (B6 co)]),(j,.rows 41 [.agg (G5 c kept (poP c) las)])]++G s,a.2.2⟩) (fun a=>a.1<=c.n/\j+1<a.2.1/\a.2.1<a.2.2) (fun a=>c.n-a.1) (0,j+2,j+3) ?_ ?_ ?_
 .exact ⟨Nat.zero_le _,by dsimp only;omega,by dsimp only;omega⟩
 .refine Weaker.fzT [_,_,_] _ (G s) 0 (by first|omega|(dsimp only;omega)|exact Nat.le_refl _) ?_ ?_ ?_
  .simp [go_sem,d7,E8,Tst.cs,JT_,hcn]
  .first|(simp;done)|(simp;omega)
  simp [go_sem,JT_,R5]
 rintro ⟨i,n,kk⟩ ⟨hi,hn,hkk⟩
 dsimp only at hi hn hkk ⊢
 have g140:¬ n=j/\¬ j=n/\¬ n=j+1/\¬ j+1=n/\¬ kk=j/\¬ j=kk/\¬ kk=j+1/\¬ j+1=kk/\¬ n=kk/\¬ kk=n/\¬ kk+1=j/\¬ j=kk+1/\¬ kk+1=j+1/\¬ j+1=kk+1/\¬ kk+1=n/\¬ n=kk+1/\¬ kk+2=j/\¬ j=kk+2/\¬ kk+2=j+1/\¬ j+1=kk+2/\¬ kk+2=n/\¬ n=kk+2/\¬ kk+3=j/\¬ j=kk+3/\¬ kk+3=j+1/\¬ j+1=kk+3/\¬ kk+3=n/\¬ n=kk+3/\¬ kk+4=j/\¬ j=kk+4/\¬ kk+4=j+1/\¬ j+1=kk+4/\¬ kk+4=n/\¬ n=kk+4/\¬ kk+5=j/\¬ j=kk+5/\¬ kk+5=j+1/\¬ j+1=kk+5/\¬ kk+5=n/\¬ n=kk+5/\¬ kk+6=j/\¬ j=kk+6/\¬ kk+6=j+1/\¬ j+1=kk+6/\¬ kk+6=n/\¬ n=kk+6/\¬ kk+7=j/\¬ j=kk+7/\¬ kk+7=j+1/\¬ j+1=kk+7/\¬ kk+7=n/\¬ n=kk+7/\¬ kk+8=j/\¬ j=kk+8/\¬ kk+8=j+1/\¬ j+1=kk+8/\¬ kk+8=n/\¬ n=kk+8/\¬ kk+9=j/\¬ j=kk+9/\¬ kk+9=j+1/\¬ j+1=kk+9/\¬ kk+9=n/\¬ n=kk+9/\¬ kk+10=j/\¬ j=kk+10/\¬ kk+10=j+1/\¬ j+1=kk+10/\¬ kk+10=n/\¬ n=kk+10/\¬ kk+11=j/\¬ j=kk+11/\¬ kk+11=j+1/\¬ j+1=kk+11/\¬ kk+11=n/\¬ n=kk+11/\¬ kk+12=j/\¬ j=kk+12/\¬ kk+12=j+1/\¬ j+1=kk+12/\¬ kk+12=n/\¬ n=kk+12/\¬ kk+13=j/\¬ j=kk+13/\¬ kk+13=j+1/\¬ j+1=kk+13/\¬ kk+13=n/\¬ n=kk+13/\¬ kk+14=j/\¬ j=kk+14/\¬ kk+14=j+1/\¬ j+1=kk+14/\¬ kk+14=n/\¬ n=kk+14/\¬ kk+15=j/\¬ j=kk+15/\¬ kk+15=j+1/\¬ j+1=kk+15/\¬ kk+15=n/\¬ n=kk+15/\¬ kk+16=j/\¬ j=kk+16/\¬ kk+16=j+1/\¬ j+1=kk+16/\¬ kk+16=n/\¬ n=kk+16/\¬ kk+17=j/\¬ j=kk+17/\¬ kk+17=j+1/\¬ j+1=kk+17/\¬ kk+17=n/\¬ n=kk+17/\¬ kk+18=j/\¬ j=kk+18/\¬ kk+18=j+1/\¬ j+1=kk+18/\¬ kk+18=n/\¬ n=kk+18/\¬ kk+19=j/\¬ j=kk+19/\¬ kk+19=j+1/\¬ j+1=kk+19/\¬ kk+19=n/\¬ n=kk+19/\¬ kk+1+1=j/\¬ j=kk+1+1/\¬ kk+1+1=j+1/\¬ j+1=kk+1+1/\¬ kk+1+1=n/\¬ n=kk+1+1/\¬ kk+1+1+1=j/\¬ j=kk+1+1+1/\¬ kk+1+1+1=j+1/\¬ j+1=kk+1+1+1/\¬ kk+1+1+1=n/\¬ n=kk+1+1+1/\¬ kk+1+1+1+1=j/\¬ j=kk+1+1+1+1/\¬ kk+1+1+1+1=j+1/\¬ j+1=kk+1+1+1+1/\¬ kk+1+1+1+1=n/\¬ n=kk+1+1+1+1/\¬ kk+1+1+1+1+1=j/\¬ j=kk+1+1+1+1+1/\¬ kk+1+1+1+1+1=j+1/\¬ j+1=kk+1+1+1+1+1/\¬ kk+1+1+1+1+1=n/\¬ n=kk+1+1+1+1+1:=by and_intros<;>omega
 have hsn0:=J5 hgn (show j0<=n by omega)
 have hsa0:=P6 hgn (show j0<=n by omega)
 have hsm0:=X4 hgn (show j0<=n by omega)
 have hsn1:=J5 hgn (show j0<=kk by omega)
 have hsa1:=P6 hgn (show j0<=kk by omega)
 have hsm1:=X4 hgn (show j0<=kk by omega)
 have hsn2:=J5 hgn (show j0<=kk+1 by omega)
 have hsa2:=P6 hgn (show j0<=kk+1 by omega)
 have hsm2:=X4 hgn (show j0<=kk+1 by omega)
 have hsn3:=J5 hgn (show j0<=kk+1+1 by omega)
 have hsa3:=P6 hgn (show j0<=kk+1+1 by omega)
 have hsm3:=X4 hgn (show j0<=kk+1+1 by omega)
 have hsn4:=J5 hgn (show j0<=kk+1+1+1 by omega)
 have hsa4:=P6 hgn (show j0<=kk+1+1+1 by omega)
 have hsm4:=X4 hgn (show j0<=kk+1+1+1 by omega)
 have hsn5:=J5 hgn (show j0<=kk+1+1+1+1 by omega)
 have hsa5:=P6 hgn (show j0<=kk+1+1+1+1 by omega)
 have hsm5:=X4 hgn (show j0<=kk+1+1+1+1 by omega)
 have hsn6:=J5 hgn (show j0<=kk+2 by omega)
 have hsa6:=P6 hgn (show j0<=kk+2 by omega)
 have hsm6:=X4 hgn (show j0<=kk+2 by omega)
 have hsn7:=J5 hgn (show j0<=kk+3 by omega)
 have hsa7:=P6 hgn (show j0<=kk+3 by omega)
 have hsm7:=X4 hgn (show j0<=kk+3 by omega)
 have hsn8:=J5 hgn (show j0<=kk+4 by omega)
 have hsa8:=P6 hgn (show j0<=kk+4 by omega)
 have hsm8:=X4 hgn (show j0<=kk+4 by omega)
 have htn0:=Ut_ hgn (show j0<=n by omega) (show j0<=kk+1+1 by omega)
 have htn1:=Ut_ hgn (show j0<=n by omega) (show j0<=kk+2 by omega)
 have hta0:=zBj hgn (show j0<=n by omega) (show j0<=kk+1+1 by omega)
 have hta1:=zBj hgn (show j0<=n by omega) (show j0<=kk+2 by omega)
 refine rG ?_
 refine A3 fun K3 hK3=>?_
 refine cJ (fun h=>?_) fun h=>?_
 .simp at h
  obtain rfl:i=c.n:=by omega
  clear h
  have hEE:=Fn.seen (args:=[d7 c.t of ws c.fr vg vcs,.agg (G5 c kept (poP c) las),.agg (B6 co),iV (loc:Nat),onV none,.ro 1 (R5 (j6 c loc c.n))]) (.cons (.refl _) (.cons (.refl _) (.cons (.refl _) (.cons (.refl _) (.cons (zCs 1) (.cons (.refl _) .nil)))))) (hE q rfl _ loc las co [] (j6 c loc c.n) s kk (by omega) hlas rfl (by simp;omega) (fun a h=>nomatch h) za3 hQ hs (by omega))
  apply A6
  apply hK2
  refine rE fun K hK=>?_
  simp [go_sem,C0 hl8,B3 hl8,B1 hl8,C4 hl8,B0,C2,F1,C1,g140,hsn0,hsa0,hsm0,hsn1,hsa1,hsm1,hsn2,hsa2,hsm2,hsn3,hsa3,hsm3,hsn4,hsa4,hsm4,hsn5,hsa5,hsm5,hsn6,hsa6,hsm6,hsn7,hsa7,hsm7,hsn8,hsa8,hsm8,htn0,htn1,hta0,hta1]
  refine VO_ [_,_,_] [(j+1,.rows 16 [.agg (B6 co)]),(j,.rows 41 [.agg (G5 c kept (poP c) las)])] (G s) 1 hEE (by simp only [map_cons,map_nil,za4];simp [go_sem,d8,zEj,Q5,frz,g140,hsn0,hsa0,hsm0,hsn1,hsa1,hsm1,hsn2,hsa2,hsm2,hsn3,hsa3,hsm3,hsn4,hsa4,hsm4,hsn5,hsa5,hsm5,hsn6,hsa6,hsm6,hsn7,hsa7,hsm7,hsn8,hsa8,hsm8,htn0,htn1,hta0,hta1]) (by simp) (by simp [go_sem,g140,hsn0,hsa0,hsm0,hsn1,hsa1,hsm1,hsn2,hsa2,hsm2,hsn3,hsa3,hsm3,hsn4,hsa4,hsm4,hsn5,hsa5,hsm5,hsn6,hsa6,hsm6,hsn7,hsa7,hsm7,hsn8,hsa8,hsm8,htn0,htn1,hta0,hta1]) fun k3 hk3=>?_
  simp [go_sem]
  apply hK
  refine ⟨.inl rfl,?_⟩
  rw [hLR]
  simp [go_sem]
  first
  | exact ⟨_,_,View.tail [] _ _,rfl,rfl⟩
  | exact ⟨_,_,View.tail [_] _ _,rfl,rfl⟩
  | exact ⟨_,_,View.tail [_,_] _ _,rfl,rfl⟩
  | exact ⟨_,_,View.tail [_,_,_] _ _,rfl,rfl⟩
  | exact ⟨_,_,View.tail [_,_,_,_] _ _,rfl,rfl⟩
  | exact ⟨_,_,View.tail [_,_,_,_,_] _ _,rfl,rfl⟩
 simp at h
 have hin:i<c.n:=by omega
 have hinI:(i:Int)<(c.n:Nat):=by omega
 clear h
 have hw:=wI i
 have hi16:i<16:=by omega
 have g141:(i:Int)<16/\i<=15/\(0:Int)<=(i:Nat):=by and_intros<;>omega
 have hsi:=zKz c loc i
 have g142:(j6 c loc i).length*8<=140737488355328/\((j6 c loc i).length+1)*8<=140737488355328:=by and_intros<;>omega
 apply A1
 apply hK3
 refine A3 fun K4 hK4=>?_
 apply A0
 refine rG ?_ fun K h=>by simp [go_sem,hinI];exact h
 refine D8 T_ok (by decide) ⟨60,[(0,d7 c.t of ws c.fr vg vcs),(3,iV (loc:Nat)),(5,.ptr j 0 0),(6,.ptr (j+1) 0 0),(9,.val (.int .u16 (F3 (c.at_ fun x=>wrB x.op)))),(8,.sl n 0 (j6 c loc i).length),(32,iV (c.n:Nat)),(33,iV (i:Nat)),(10,iV (i:Nat)),(48,bV (c.at_ (fun x=>wrB x.op) i&&decide ((opX c.t i).loc=(loc:Nat))))],[(n,.rows 1 (R5 (j6 c loc i))),(j+1,.rows 16 [.agg (B6 co)]),(j,.rows 41 [.agg (G5 c kept (poP c) las)])]++G s,kk⟩ ?_ ?_
 .by_cases c1:c.at_ (fun x=>wrB x.op) i=true
  .simp [go_sem,c1,hi16,g141,C7 hi16,g140,hsn0,hsa0,hsm0,hsn1,hsa1,hsm1,hsn2,hsa2,hsm2,hsn3,hsa3,hsm3,hsn4,hsa4,hsm4,hsn5,hsa5,hsm5,hsn6,hsa6,hsm6,hsn7,hsa7,hsm7,hsn8,hsa8,hsm8,htn0,htn1,hta0,hta1]
   refine A2 (zhp c.t hS of ws c.fr vg vcs i hin) ?_
   simp [go_sem,B5,c1,hi16,g141,C7 hi16,g140,hsn0,hsa0,hsm0,hsn1,hsa1,hsm1,hsn2,hsa2,hsm2,hsn3,hsa3,hsm3,hsn4,hsa4,hsm4,hsn5,hsa5,hsm5,hsn6,hsa6,hsm6,hsn7,hsa7,hsm7,hsn8,hsa8,hsm8,htn0,htn1,hta0,hta1]
   refine Weaker.fzT [_,_,_] [(n,.rows 1 (R5 (j6 c loc i))),(j+1,.rows 16 [.agg (B6 co)]),(j,.rows 41 [.agg (G5 c kept (poP c) las)])] (G s) 1 (by first|exact Nat.le_refl _|omega|(dsimp only;omega)) ?_ ?_ ?_
   .simp [go_sem,c1,B5,G8,g140,hsn0,hsa0,hsm0,hsn1,hsa1,hsm1,hsn2,hsa2,hsm2,hsn3,hsa3,hsm3,hsn4,hsa4,hsm4,hsn5,hsa5,hsm5,hsn6,hsa6,hsm6,hsn7,hsa7,hsm7,hsn8,hsa8,hsm8,htn0,htn1,hta0,hta1]
   .first|(simp;done)|(simp;omega)
   simp [go_sem,c1,B5,G8,g140,hsn0,hsa0,hsm0,hsn1,hsa1,hsm1,hsn2,hsa2,hsm2,hsn3,hsa3,hsm3,hsn4,hsa4,hsm4,hsn5,hsa5,hsm5,hsn6,hsa6,hsm6,hsn7,hsa7,hsm7,hsn8,hsa8,hsm8,htn0,htn1,hta0,hta1]
  simp [go_sem,c1,hi16,g141,C7 hi16,g140,hsn0,hsa0,hsm0,hsn1,hsa1,hsm1,hsn2,hsa2,hsm2,hsn3,hsa3,hsm3,hsn4,hsa4,hsm4,hsn5,hsa5,hsm5,hsn6,hsa6,hsm6,hsn7,hsa7,hsm7,hsn8,hsa8,hsm8,htn0,htn1,hta0,hta1]
  refine Weaker.fzT [_,_,_] [(n,.rows 1 (R5 (j6 c loc i))),(j+1,.rows 16 [.agg (B6 co)]),(j,.rows 41 [.agg (G5 c kept (poP c) las)])] (G s) 1 (by first|exact Nat.le_refl _|omega|(dsimp only;omega)) ?_ ?_ ?_
  .simp [go_sem,c1,B5,G8,g140,hsn0,hsa0,hsm0,hsn1,hsa1,hsm1,hsn2,hsa2,hsm2,hsn3,hsa3,hsm3,hsn4,hsa4,hsm4,hsn5,hsa5,hsm5,hsn6,hsa6,hsm6,hsn7,hsa7,hsm7,hsn8,hsa8,hsm8,htn0,htn1,hta0,hta1]
  .first|(simp;done)|(simp;omega)
  simp [go_sem,c1,B5,G8,g140,hsn0,hsa0,hsm0,hsn1,hsa1,hsm1,hsn2,hsa2,hsm2,hsn3,hsa3,hsm3,hsn4,hsa4,hsm4,hsn5,hsa5,hsm5,hsn6,hsa6,hsm6,hsn7,hsa7,hsm7,hsn8,hsa8,hsm8,htn0,htn1,hta0,hta1]
 skip
 refine cK (fun h=>?_) fun h=>?_
 .have hst:=h
  refine rF ?_ fun K h=>by simp [go_sem,g142,g140,hsn0,hsa0,hsm0,hsn1,hsa1,hsm1,hsn2,hsa2,hsm2,hsn3,hsa3,hsm3,hsn4,hsa4,hsm4,hsn5,hsa5,hsm5,hsn6,hsa6,hsm6,hsn7,hsa7,hsm7,hsn8,hsa8,hsm8,htn0,htn1,hta0,hta1];exact h
  apply hK4
  refine rF ?_ fun K h=>by simp [go_sem,hw];exact h
  refine ⟨(i+1,kk+1,kk+20),?_,?_,?_⟩
  .exact ⟨by dsimp only;omega,by dsimp only;omega,by dsimp only;omega⟩
  .dsimp only;omega
  refine Weaker.fzT [_,_,_,_] _ (G s) 0 (by first|omega|(dsimp only;omega)) ?_ ?_ ?_
  .simp [go_sem,zEl hst,g140,hsn0,hsa0,hsm0,hsn1,hsa1,hsm1,hsn2,hsa2,hsm2,hsn3,hsa3,hsm3,hsn4,hsa4,hsm4,hsn5,hsa5,hsm5,hsn6,hsa6,hsm6,hsn7,hsa7,hsm7,hsn8,hsa8,hsm8,htn0,htn1,hta0,hta1]
  .first|(simp;done)|(simp;omega)
  simp [go_sem,zEl hst,Xs_,zD2,g140,hsn0,hsa0,hsm0,hsn1,hsa1,hsm1,hsn2,hsa2,hsm2,hsn3,hsa3,hsm3,hsn4,hsa4,hsm4,hsn5,hsa5,hsm5,hsn6,hsa6,hsm6,hsn7,hsa7,hsm7,hsn8,hsa8,hsm8,htn0,htn1,hta0,hta1]
 have hst:=h
 apply A1
 apply hK4
 refine rF ?_ fun K h=>by simp [go_sem,hw];exact h
 refine ⟨(i+1,n,kk+20),?_,?_,?_⟩
 .exact ⟨by dsimp only;omega,by dsimp only;omega,by dsimp only;omega⟩
 .dsimp only;omega
 refine Weaker.fzT [_,_,_] _ (G s) 0 (by first|omega|(dsimp only;omega)) ?_ ?_ ?_
 .simp [go_sem,zLs hst,g140,hsn0,hsa0,hsm0,hsn1,hsa1,hsm1,hsn2,hsa2,hsm2,hsn3,hsa3,hsm3,hsn4,hsa4,hsm4,hsn5,hsa5,hsm5,hsn6,hsa6,hsm6,hsn7,hsa7,hsm7,hsn8,hsa8,hsm8,htn0,htn1,hta0,hta1]
 .first|(simp;done)|(simp;omega)
 simp [go_sem,zLs hst,g140,hsn0,hsa0,hsm0,hsn1,hsa1,hsm1,hsn2,hsa2,hsm2,hsn3,hsa3,hsm3,hsn4,hsa4,hsm4,hsn5,hsa5,hsm5,hsn6,hsa6,hsm6,hsn7,hsa7,hsm7,hsn8,hsa8,hsm8,htn0,htn1,hta0,hta1]
theorem za5 {σ:Type} {Q:Rn->Prop} {G:σ->A8} {step:σ->Rn->σ} {ok:σ->Prop} {vg:FuncId} {vcs:List V} {j0:Nat} (hV:VisOk Q G step ok vg vcs j0) (c:Cs) (hc:CsOk c) (hS:SeaOk c.t) (of:FuncId) (ws:List Bool) (kept:Rl) (hrl:c.f.regs.length=c.t.ths.length) (f:Nat) (hL:zk0 Q G step ok vg vcs j0 c of ws kept f):∀ m,zk1 Q G step ok vg vcs j0 c of ws kept f m:=by
 intro m
 induction m with
 | zero=>exact zEk hV c hc hS of ws kept hrl f 0 hL fun q hq=>nomatch hq
 | succ m ih=>exact zEk hV c hc hS of ws kept hrl f (m+1) hL fun q hq=>by cases hq;exact ih
theorem za6 {σ:Type} {Q:Rn->Prop} {G:σ->A8} {step:σ->Rn->σ} {ok:σ->Prop} {vg:FuncId} {vcs:List V} {j0:Nat} (hV:VisOk Q G step ok vg vcs j0) (c:Cs) (hc:CsOk c) (hS:SeaOk c.t) (of:FuncId) (ws:List Bool) (kept:Rl) (hrl:c.f.regs.length=c.t.ths.length):∀ f,zk0 Q G step ok vg vcs j0 c of ws kept f:=by
 intro f
 induction f with
 | zero=>exact zEm hV c hc hS of ws kept hrl 0 fun q hq=>nomatch hq
 | succ f ih=>exact zEm hV c hc hS of ws kept hrl (f+1) fun q hq m=>by cases hq;exact za5 hV c hc hS of ws kept hrl f ih m
theorem zLt (t:Tst) (hS:SeaOk t) (of:FuncId) (ws:List Bool) (fr:List Int) (vg:FuncId) (vcs:List V) (hwl:ws.length=nO t) (hfl:fr.length=nO t) (hfr:∀ (k:Nat) (x:Int),fr[k]?=some x->-1<=x/\x<nO t):Pf Tryz.prog 204 [d7 t of ws fr vg vcs] (zNv (Z9 t ws fr)) :=
 Pf.hide (ds:=zTb t (fnV of) ws fr) fun x _=>zLi t hS of ws fr x hwl hfl hfr
def f7 (ord:Cs->Rl) (c:Cs) (i a b:Nat):Bool:=ord c a b||(decide (b<i)&&zYd c a b)
def s7:Rl:=fun _ _=>false
def las0:List Int:=List.replicate 8 0
theorem za7 (c:Cs):LasOk c las0:=⟨rfl,fun i n h=>by
 unfold las0 at h
 rw [List.getElem?_replicate] at h
 split at h
 .cases h;exact ⟨Int.le_refl _,by omega⟩
 cases h⟩
theorem JU_ (k:Nat):F3 (s7 k)=0:=by show F3 (fun _=>false)=0;decide
theorem zLu (ord:Cs->Rl) (c:Cs):f7 ord c 0=ord c:=by funext a b;simp [f7]
theorem zLv {c:Cs} {a i:Nat} {x:Int} (hx:c.fr[i]?=some x) (hi:i<c.n):zYd c a i=(decide (x=(a:Int))&&!decide (((c.op a).1:Int)=((c.op i).1:Nat))):=by
 unfold zYd Cs.th
 rw [show c.fr.getD i 0=x by rw [List.getD,hx];rfl,decide_eq_true hi,Bool.true_and]
 congr 2
 rw [Bool.eq_iff_iff,decide_eq_true_eq,decide_eq_true_eq];omega
theorem za8 {ord:Cs->Rl} {c:Cs} {i:Nat} {x:Int} (hx:c.fr[i]?=some x) (hi:i<c.n) (h:(decide (0<=x)&&!decide (((c.op x.toNat).1:Int)=((c.op i).1:Nat)))=false):f7 ord c (i+1)=f7 ord c i:=by
 funext a b
 unfold f7
 congr 1
 by_cases e:b=i
 .subst e
  rw [zLv hx hi]
  by_cases e2:x=(a:Int)
  .subst e2
   simp only [Int.toNat_natCast] at h
   rw [decide_eq_true (by omega:(0:Int)<=(a:Nat)),Bool.true_and] at h
   rw [h];simp
  simp [e2]
 rw [show decide (b<i+1)=decide (b<i) by rw [Bool.eq_iff_iff,decide_eq_true_eq,decide_eq_true_eq];omega]
theorem zRd {ord:Cs->Rl} {c:Cs} {i m:Nat} (hx:c.fr[i]?=some (m:Int)) (hi:i<c.n) (h:(!decide (((c.op m).1:Int)=((c.op i).1:Nat)))=true):(fun a b=>f7 ord c i a b||(decide ((a:Int)=(m:Nat))&&decide ((b:Int)=(i:Nat))))=f7 ord c (i+1):=by
 funext a b
 unfold f7
 rw [Bool.or_assoc]
 congr 1
 by_cases e:b=i
 .subst e
  rw [zLv hx hi]
  by_cases e2:a=m
  .subst e2;rw [h];simp
  simp [e2,show ¬ ((m:Int)=(a:Int)) by omega,show ¬ ((a:Int)=(m:Int)) by omega]
 rw [show decide (b<i+1)=decide (b<i) by rw [Bool.eq_iff_iff,decide_eq_true_eq,decide_eq_true_eq];omega,show decide ((b:Int)=(i:Nat))=false from decide_eq_false (by omega)];simp
theorem zRe (ord:Cs->Rl) (c:Cs):f7 ord c c.n=zDx ord c:=by
 funext a b
 unfold f7 zDx
 congr 1
 unfold zYd
 by_cases h:b<c.n<;>simp [h]
theorem za9 {σ:Type} {Q:Rn->Prop} {G:σ->A8} {step:σ->Rn->σ} {ok:σ->Prop} {vg:FuncId} {vcs:List V} {j0:Nat} (hV:VisOk Q G step ok vg vcs j0) (c:Cs) (hS:SeaOk c.t) (of:FuncId) (ws:List Bool) (hwl:ws.length=nO c.t) (hfl:c.fr.length=nO c.t) (hfr:∀ (k:Nat) (x:Int),c.fr[k]?=some x->-1<=x/\x<nO c.t) (s:σ) (hs:ok s) (j:Nat) (hj:j0<=j) (hset:Z9 c.t ws c.fr=none):Sl.Fn Tryz.prog 177 [d7 c.t of ws c.fr vg vcs] (G s) j fun v H _=>v=.tup []/\H=G (s):=by
 refine Fn.view ?_
 refine B7 T_ok func177 rfl rfl ntmps177 rfl (by simp) ?_
 refine rK fun K hK=>?_
 simp [go_sem]
 refine A2 (zLt c.t hS of ws c.fr vg vcs hwl hfl hfr) ?_
 simp [go_sem,hset,zNv]
 apply hK
 refine A3 fun K1 hK1=>?_
 refine Qn_ ?_
 refine zXb _ (.inl rfl) rfl rfl (by decide) ?_
 refine zXc _ _ _ _ rfl rfl rfl (by decide) (T_ok _ _ rfl) rfl rfl rfl ?_
 refine zAm T_ok (by decide) fun K hK=>?_
 simp [go_sem]
 apply hK
 refine cJ (fun h=>?_) fun h=>?_
 .simp at h
 skip
 refine A4 ?_
 simp [go_sem]
 first
 | exact ⟨_,_,View.tail [] _ _,rfl,rfl⟩
 | exact ⟨_,_,View.tail [_] _ _,rfl,rfl⟩
theorem zaa {σ:Type} {Q:Rn->Prop} {G:σ->A8} {step:σ->Rn->σ} {ok:σ->Prop} {vg:FuncId} {vcs:List V} {j0:Nat} (hV:VisOk Q G step ok vg vcs j0) (c:Cs) (hS:SeaOk c.t) (of:FuncId) (ws:List Bool) (hwl:ws.length=nO c.t) (hfl:c.fr.length=nO c.t) (hfr:∀ (k:Nat) (x:Int),c.fr[k]?=some x->-1<=x/\x<nO c.t) (s:σ) (hs:ok s) (j:Nat) (hj:j0<=j) (hset:Z9 c.t ws c.fr=some c.f) (hc:CsOk c) (hrl:c.f.regs.length=c.t.ths.length) (ord:Cs->Rl) (hord:Pf Tryz.prog of [.rp c.cs 0] (.agg (B6 (ord c)))) (hQ:∀ r∈zKv (zDx ord c) c c.t.locs.length 0 las0 s7,Q r):Sl.Fn Tryz.prog 177 [d7 c.t of ws c.fr vg vcs] (G s) j fun v H _=>v=.tup []/\H=G ((zKv (zDx ord c) c c.t.locs.length 0 las0 s7).foldl step s):=by
 refine Fn.view ?_
 have hz8:las0.length=8:=rfl
 have hn8:=hc.n8
 have hgn:=hV.names _ hs
 have h8f:c.fr.length*8<=140737488355328:=by have hnn:nO c.t=c.n:=rfl;omega
 have hun:=J5 hgn (show j0<=j+1+1+1+1+1+1+1+1+1 by omega)
 have hua:=P6 hgn (show j0<=j+1+1+1+1+1+1+1+1+1 by omega)
 have g143:¬ j+1+1+1+1+1+1+1+1+1=j+1+1+1+1+1+1+1+1+1+1+1+1+1+1/\¬ j+1+1+1+1+1+1+1+1+1+1+1+1+1+1=j+1+1+1+1+1+1+1+1+1/\¬ j+1+1+1+1+1+1+1+1+1=j+1+1+1+1+1+1+1+1+1+1+1+1+1+1+1+1/\¬ j+1+1+1+1+1+1+1+1+1+1+1+1+1+1+1+1=j+1+1+1+1+1+1+1+1+1/\¬ j+1+1+1+1+1+1+1+1+1=j+1+1+1+1+1+1+1+1+1+1+1+1+1+1+1+1+1+1/\¬ j+1+1+1+1+1+1+1+1+1+1+1+1+1+1+1+1+1+1=j+1+1+1+1+1+1+1+1+1/\¬ j+1+1+1+1+1+1+1+1+1+1+1+1+1+1=j+1+1+1+1+1+1+1+1+1+1+1+1+1+1+1+1/\¬ j+1+1+1+1+1+1+1+1+1+1+1+1+1+1+1+1=j+1+1+1+1+1+1+1+1+1+1+1+1+1+1/\¬ j+1+1+1+1+1+1+1+1+1+1+1+1+1+1=j+1+1+1+1+1+1+1+1+1+1+1+1+1+1+1+1+1+1/\¬ j+1+1+1+1+1+1+1+1+1+1+1+1+1+1+1+1+1+1=j+1+1+1+1+1+1+1+1+1+1+1+1+1+1/\¬ j+1+1+1+1+1+1+1+1+1+1+1+1+1+1+1+1=j+1+1+1+1+1+1+1+1+1+1+1+1+1+1+1+1+1+1/\¬ j+1+1+1+1+1+1+1+1+1+1+1+1+1+1+1+1+1+1=j+1+1+1+1+1+1+1+1+1+1+1+1+1+1+1+1:=by and_intros<;>omega
 have hops:O0 0 c.t.ths=c.ops:=rfl
 have htf:List.take c.fr.length (List.map iV c.fr)=List.map iV c.fr:=take_of_length_le (by simp)
 have hcn:nO c.t=c.n:=rfl
 have hlin:=za6 hV c hc hS of ws (zDx ord c) hrl c.t.locs.length 0 las0 s7 s
 refine B7 T_ok func177 rfl rfl ntmps177 rfl (by simp) ?_
 refine rK fun K hK=>?_
 simp [go_sem]
 refine A2 (zLt c.t hS of ws c.fr vg vcs hwl hfl hfr) ?_
 simp [go_sem,hset,zNv]
 apply hK
 refine A3 fun K1 hK1=>?_
 refine rG ?_
 refine cK (fun h=>?_) fun h=>?_
 .simp at h
 skip
 apply A1
 apply hK1
 refine Q6 T_ok (by kernel_rfl) 19 [[],[0],[0,1],[0,1,2],[],[4],[4,5],[4,5,6],[],[],[],[10],[10,11],[10,11,12],[9,10,11,12,13],[0,1,2,3,4,5,6,7,8,9,10,11,12,13,14],[0,1,2,3,4,5,6,7,8,9,10,11,12,13,14,15],[0,1,2,3,4,5,6,7,8,9,10,11,12,13,14,15,16],[],[0,1,2,3,4,5,6,7,8,9,10,11,12,13,14,15,16,17,18]] [(0,9),(1,9),(2,9),(3,9),(4,9),(5,9),(6,9),(7,9),(8,9),(9,10),(9,11),(9,12),(9,13),(0,14),(1,14),(2,14),(3,14),(4,14),(5,14),(6,14),(7,14),(8,14),(0,18),(1,18),(2,18),(3,18),(4,18),(5,18),(6,18),(7,18),(8,18),(9,18),(10,18),(11,18),(12,18),(13,18),(14,18),(15,18),(16,18),(17,18)] (by decide) (by decide) (by decide) ⟨82,[(0,d7 c.t of ws c.fr vg vcs),(3,.ptr (j+1+1+1+1+1+1+1+1+1+1+1+1+1+1+1+1+1+1) 0 0)],[(j+1+1+1+1+1+1+1+1+1+1+1+1+1+1+1+1+1+1,.rows 41 [.agg (G5 c s7 s7 las0)])]++G s,j+40⟩ ?_ ?_
 .first|dsimp only [List.take,List.drop]|dsimp [List.take,List.drop]
  simp [go_sem,d7,E8,h8f,hun,hua]
  first
   | refine Weaker.fzP [] [(j+1+1+1+1+1+1+1+1+1+1+1+1+1+1+1+1+1+1,.rows 41 [.agg (G5 c s7 s7 las0)])] (G s) 2 2 (hV.still s hs 2) (by first|exact Nat.le_refl _|omega|(dsimp only;omega)) ?_ ?_ ?_ ?_
   | refine Weaker.fzP [_] [(j+1+1+1+1+1+1+1+1+1+1+1+1+1+1+1+1+1+1,.rows 41 [.agg (G5 c s7 s7 las0)])] (G s) 2 2 (hV.still s hs 2) (by first|exact Nat.le_refl _|omega|(dsimp only;omega)) ?_ ?_ ?_ ?_
   | refine Weaker.fzP [_,_] [(j+1+1+1+1+1+1+1+1+1+1+1+1+1+1+1+1+1+1,.rows 41 [.agg (G5 c s7 s7 las0)])] (G s) 2 2 (hV.still s hs 2) (by first|exact Nat.le_refl _|omega|(dsimp only;omega)) ?_ ?_ ?_ ?_
   | refine Weaker.fzP [_,_,_] [(j+1+1+1+1+1+1+1+1+1+1+1+1+1+1+1+1+1+1,.rows 41 [.agg (G5 c s7 s7 las0)])] (G s) 2 2 (hV.still s hs 2) (by first|exact Nat.le_refl _|omega|(dsimp only;omega)) ?_ ?_ ?_ ?_
   | refine Weaker.fzP [_,_,_,_] [(j+1+1+1+1+1+1+1+1+1+1+1+1+1+1+1+1+1+1,.rows 41 [.agg (G5 c s7 s7 las0)])] (G s) 2 2 (hV.still s hs 2) (by first|exact Nat.le_refl _|omega|(dsimp only;omega)) ?_ ?_ ?_ ?_
   | refine Weaker.fzP [_,_,_,_,_] [(j+1+1+1+1+1+1+1+1+1+1+1+1+1+1+1+1+1+1,.rows 41 [.agg (G5 c s7 s7 las0)])] (G s) 2 2 (hV.still s hs 2) (by first|exact Nat.le_refl _|omega|(dsimp only;omega)) ?_ ?_ ?_ ?_
   | refine Weaker.fzP [_,_,_,_,_,_] [(j+1+1+1+1+1+1+1+1+1+1+1+1+1+1+1+1+1+1,.rows 41 [.agg (G5 c s7 s7 las0)])] (G s) 2 2 (hV.still s hs 2) (by first|exact Nat.le_refl _|omega|(dsimp only;omega)) ?_ ?_ ?_ ?_
   | refine Weaker.fzP [_,_,_,_,_,_,_] [(j+1+1+1+1+1+1+1+1+1+1+1+1+1+1+1+1+1+1,.rows 41 [.agg (G5 c s7 s7 las0)])] (G s) 2 2 (hV.still s hs 2) (by first|exact Nat.le_refl _|omega|(dsimp only;omega)) ?_ ?_ ?_ ?_
   | refine Weaker.fzP [_,_,_,_,_,_,_,_] [(j+1+1+1+1+1+1+1+1+1+1+1+1+1+1+1+1+1+1,.rows 41 [.agg (G5 c s7 s7 las0)])] (G s) 2 2 (hV.still s hs 2) (by first|exact Nat.le_refl _|omega|(dsimp only;omega)) ?_ ?_ ?_ ?_
   | refine Weaker.fzP [_,_,_,_,_,_,_,_,_] [(j+1+1+1+1+1+1+1+1+1+1+1+1+1+1+1+1+1+1,.rows 41 [.agg (G5 c s7 s7 las0)])] (G s) 2 2 (hV.still s hs 2) (by first|exact Nat.le_refl _|omega|(dsimp only;omega)) ?_ ?_ ?_ ?_
   | refine Weaker.fzP [_,_,_,_,_,_,_,_,_,_] [(j+1+1+1+1+1+1+1+1+1+1+1+1+1+1+1+1+1+1,.rows 41 [.agg (G5 c s7 s7 las0)])] (G s) 2 2 (hV.still s hs 2) (by first|exact Nat.le_refl _|omega|(dsimp only;omega)) ?_ ?_ ?_ ?_
   | refine Weaker.fzP [_,_,_,_,_,_,_,_,_,_,_] [(j+1+1+1+1+1+1+1+1+1+1+1+1+1+1+1+1+1+1,.rows 41 [.agg (G5 c s7 s7 las0)])] (G s) 2 2 (hV.still s hs 2) (by first|exact Nat.le_refl _|omega|(dsimp only;omega)) ?_ ?_ ?_ ?_
   | refine Weaker.fzP [_,_,_,_,_,_,_,_,_,_,_,_] [(j+1+1+1+1+1+1+1+1+1+1+1+1+1+1+1+1+1+1,.rows 41 [.agg (G5 c s7 s7 las0)])] (G s) 2 2 (hV.still s hs 2) (by first|exact Nat.le_refl _|omega|(dsimp only;omega)) ?_ ?_ ?_ ?_
   | refine Weaker.fzP [_,_,_,_,_,_,_,_,_,_,_,_,_] [(j+1+1+1+1+1+1+1+1+1+1+1+1+1+1+1+1+1+1,.rows 41 [.agg (G5 c s7 s7 las0)])] (G s) 2 2 (hV.still s hs 2) (by first|exact Nat.le_refl _|omega|(dsimp only;omega)) ?_ ?_ ?_ ?_
  .simp [go_sem,d7,E8,Cs.cs,G5,B6,iVs,las0,JU_,hops,htf,g143]
  .first|(simp;done)|(simp;omega)
  .first|(simp;done)|(simp;omega)
  simp [go_sem,d7,E8,Cs.cs,G5,B6,iVs,las0,JU_,hops,htf,g143]
 skip
 obtain ⟨n,hn⟩:∃ n,n=j+1+1+1+1+1+1+1+1+1+1+1+1+1+1+1+1+1+1:=⟨_,rfl⟩
 rw [<-hn]
 have g144:¬ n=j/\¬ j=n/\¬ n=j+1/\¬ j+1=n:=by and_intros<;>omega
 refine dK 11 [[],[0],[0,1],[0,1,2],[],[4],[0,1,2,3,4,5],[],[7],[0,1,2,3,4,5,6,7,8],[0,1,2,3,4,5,6,7,8],[0,1,2,3,4,5,6,7,8,9,10],[0,1,2,3,4,5,6,7,8,9,10,11],[0,1,2,3,4,5,6,7,8,9,10,11,12]] fun K hK=>?_
 first|dsimp only [List.take,List.drop]|dsimp [List.take,List.drop]
 simp [go_sem,d7,E8,C0 hz8,B3 hz8,B1 hz8,C4 hz8,B0,C2,F1,C1,g144]
 refine A5 hord ?_
 simp [go_sem,C0 hz8,B3 hz8,B1 hz8,C4 hz8,B0,C2,F1,C1,g144]
 refine A5 (zZm c hc) ?_
 simp [go_sem,C0 hz8,B3 hz8,B1 hz8,C4 hz8,B0,C2,F1,C1,g144,zEb,zgz]
 apply hK
 refine A3 fun K2 hK2=>?_
 refine rG ?_ fun K h=>by simp [go_sem,d7,E8];exact h
 apply A0
 refine A9 (α:=Nat × Nat) (fun a=>⟨82,[(0,d7 c.t of ws c.fr vg vcs),(3,.ptr n 0 0),(43,.ro 1 (iVs c.fr)),(44,iV (c.n:Nat)),(45,iV (a.1:Nat))],[(n,.rows 41 [.agg (G5 c (f7 ord c a.1) (poP c) las0)])]++G s,a.2⟩) (fun a=>a.1<=c.n/\n<a.2) (fun a=>c.n-a.1) (0,n+40) ?_ ?_ ?_
 .exact ⟨Nat.zero_le _,by dsimp only;omega⟩
 .refine Weaker.fzT [_] _ (G s) 0 (by first|omega|(dsimp only;omega)|exact Nat.le_refl _) ?_ ?_ ?_
  .simp [go_sem,d7,E8,hfl,hcn]
  .first|(simp;done)|(simp;omega)
  simp [go_sem,zLu]
 rintro ⟨i,kk⟩ ⟨hi,hkk⟩
 dsimp only at hi hkk ⊢
 refine rG ?_
 refine A3 fun K3 hK3=>?_
 refine cJ (fun h=>?_) fun h=>?_
 .simp at h
  obtain rfl:i=c.n:=by omega
  clear h
  rw [zRe ord c]
  apply A6
  apply hK2
  refine rE fun K hK=>?_
  simp [go_sem,C0 hz8,B3 hz8,B1 hz8,C4 hz8,B0,C2,F1,C1,g144]
  refine U7 (A:=[_]) (G:=G s) (hlin _ (by omega) (za7 c) hQ hs (by omega)) fun k2 hk2=>?_
  simp [go_sem]
  apply hK
  refine ⟨.inl rfl,?_⟩
  simp [go_sem]
  first
  | exact ⟨_,_,View.tail [] _ _,rfl,rfl⟩
  | exact ⟨_,_,View.tail [_] _ _,rfl,rfl⟩
  | exact ⟨_,_,View.tail [_,_] _ _,rfl,rfl⟩
  | exact ⟨_,_,View.tail [_,_,_] _ _,rfl,rfl⟩
  | exact ⟨_,_,View.tail [_,_,_,_] _ _,rfl,rfl⟩
  | exact ⟨_,_,View.tail [_,_,_,_,_] _ _,rfl,rfl⟩
 simp at h
 have hin:i<c.n:=by omega
 clear h
 have hw:=wI i
 have g145:(0:Int)<=(i:Nat)/\(i:Int)<(c.fr.length:Nat):=by and_intros<;>omega
 have hiF:i<c.fr.length:=by omega
 obtain ⟨x,hx,hx'⟩:=E0 hiF
 have hxr:=hc.fr1 i x hx
 obtain ⟨lq,⟨o1q,o2q⟩,⟨a1q,a2q,a3q⟩,⟨b1q,b2q,b3q⟩⟩:=opF hc hin
 have g146:((c.op i).1:Int)<(c.t.ths.length:Nat)/\((c.op i).2:Int)<(lq.length:Nat)/\(0:Int)<=((c.op i).1:Nat)/\(0:Int)<=((c.op i).2:Nat)/\(0:Int)<=(i:Nat):=by and_intros<;>omega
 have hcnq:c.ops.length=c.n:=rfl
 have kIq:(i:Int)<(c.n:Nat):=by omega
 have kNq:i<c.n:=hin
 have o3q:(j3 c.ops)[i]?=some (.agg [iV ((c.op i).1:Nat),iV ((c.op i).2:Nat)]):=by rw [P3,o1q];rfl
 apply A1
 apply hK3
 refine A3 fun K4 hK4=>?_
 apply A0
 refine rG ?_ fun K h=>by simp [go_sem,hiF,g145,hx,hx'];exact h
 refine Q6 T_ok (by kernel_rfl) 19 [[],[0],[0,1],[0,1,2],[0,1,2,3],[0,1,2,3,4],[0,1,2,3,4,5],[0,1,2],[0,1,2,3,4,5,6,7],[0,1,2,3,4,5,6,7,8],[0,1,2,3,4,5,6,7,8,9],[0,1,2],[0,1,2,11],[0,1,2,11,12],[0,1,2,11,12,13],[0,1,2],[0,1,2,11,12,13,14,15],[0,1,2,11,12,13,14,15,16],[0,1,2,11,12,13,14,15,16,17],[0,1,2,3,4,5,6,7,8,9,10,11,12,13,14,15,16,17,18],[0,1,2,3,4,5,6,7,8,9,10,11,12,13,14,15,16,17,18,19]] [] (by decide) (by decide) (by decide) ⟨82,[(0,d7 c.t of ws c.fr vg vcs),(3,.ptr n 0 0),(43,.ro 1 (iVs c.fr)),(44,iV (c.n:Nat)),(45,iV (i:Nat)),(4,iV (i:Nat)),(5,iV x),(70,bV (decide (0<=x)&&!decide (((c.op x.toNat).1:Int)=((c.op i).1:Nat))))],[(n,.rows 41 [.agg (G5 c (f7 ord c i) (poP c) las0)])]++G s,kk+30⟩ ?_ ?_
 .first|dsimp only [List.take,List.drop]|dsimp [List.take,List.drop]
  by_cases c1:0<=x
  .obtain ⟨m,rfl⟩:=Int.eq_ofNat_of_zero_le c1
   have hmn:m<c.n:=by omega
   have hm0:(0:Int)<=(m:Nat):=by omega
   obtain ⟨lk,⟨o1k,o2k⟩,⟨a1k,a2k,a3k⟩,⟨b1k,b2k,b3k⟩⟩:=opF hc hmn
   have g147:((c.op m).1:Int)<(c.t.ths.length:Nat)/\((c.op m).2:Int)<(lk.length:Nat)/\(0:Int)<=((c.op m).1:Nat)/\(0:Int)<=((c.op m).2:Nat)/\(0:Int)<=(m:Nat):=by and_intros<;>omega
   have hcnk:c.ops.length=c.n:=rfl
   have kIk:(m:Int)<(c.n:Nat):=by omega
   have kNk:m<c.n:=hmn
   have o3k:(j3 c.ops)[m]?=some (.agg [iV ((c.op m).1:Nat),iV ((c.op m).2:Nat)]):=by rw [P3,o1k];rfl
   simp [go_sem,c1,d7,E8,hops,g145,o1q,o2q,o3q,a1q,a2q,a3q,b1q,b2q,b3q,g146,kIq,kNq,hcnq,g144,hm0,o1k,o2k,o3k,a1k,a2k,a3k,b1k,b2k,b3k,g147,kIk,kNk,hcnk]
   first
    | refine Weaker.fzP [] [(n,.rows 41 [.agg (G5 c (f7 ord c i) (poP c) las0)])] (G s) 1 0 (hV.still s hs 0) (by first|exact Nat.le_refl _|omega|(dsimp only;omega)) ?_ ?_ ?_ ?_
    | refine Weaker.fzP [_] [(n,.rows 41 [.agg (G5 c (f7 ord c i) (poP c) las0)])] (G s) 1 0 (hV.still s hs 0) (by first|exact Nat.le_refl _|omega|(dsimp only;omega)) ?_ ?_ ?_ ?_
    | refine Weaker.fzP [_,_] [(n,.rows 41 [.agg (G5 c (f7 ord c i) (poP c) las0)])] (G s) 1 0 (hV.still s hs 0) (by first|exact Nat.le_refl _|omega|(dsimp only;omega)) ?_ ?_ ?_ ?_
    | refine Weaker.fzP [_,_,_] [(n,.rows 41 [.agg (G5 c (f7 ord c i) (poP c) las0)])] (G s) 1 0 (hV.still s hs 0) (by first|exact Nat.le_refl _|omega|(dsimp only;omega)) ?_ ?_ ?_ ?_
    | refine Weaker.fzP [_,_,_,_] [(n,.rows 41 [.agg (G5 c (f7 ord c i) (poP c) las0)])] (G s) 1 0 (hV.still s hs 0) (by first|exact Nat.le_refl _|omega|(dsimp only;omega)) ?_ ?_ ?_ ?_
    | refine Weaker.fzP [_,_,_,_,_] [(n,.rows 41 [.agg (G5 c (f7 ord c i) (poP c) las0)])] (G s) 1 0 (hV.still s hs 0) (by first|exact Nat.le_refl _|omega|(dsimp only;omega)) ?_ ?_ ?_ ?_
    | refine Weaker.fzP [_,_,_,_,_,_] [(n,.rows 41 [.agg (G5 c (f7 ord c i) (poP c) las0)])] (G s) 1 0 (hV.still s hs 0) (by first|exact Nat.le_refl _|omega|(dsimp only;omega)) ?_ ?_ ?_ ?_
    | refine Weaker.fzP [_,_,_,_,_,_,_] [(n,.rows 41 [.agg (G5 c (f7 ord c i) (poP c) las0)])] (G s) 1 0 (hV.still s hs 0) (by first|exact Nat.le_refl _|omega|(dsimp only;omega)) ?_ ?_ ?_ ?_
    | refine Weaker.fzP [_,_,_,_,_,_,_,_] [(n,.rows 41 [.agg (G5 c (f7 ord c i) (poP c) las0)])] (G s) 1 0 (hV.still s hs 0) (by first|exact Nat.le_refl _|omega|(dsimp only;omega)) ?_ ?_ ?_ ?_
    | refine Weaker.fzP [_,_,_,_,_,_,_,_,_] [(n,.rows 41 [.agg (G5 c (f7 ord c i) (poP c) las0)])] (G s) 1 0 (hV.still s hs 0) (by first|exact Nat.le_refl _|omega|(dsimp only;omega)) ?_ ?_ ?_ ?_
    | refine Weaker.fzP [_,_,_,_,_,_,_,_,_,_] [(n,.rows 41 [.agg (G5 c (f7 ord c i) (poP c) las0)])] (G s) 1 0 (hV.still s hs 0) (by first|exact Nat.le_refl _|omega|(dsimp only;omega)) ?_ ?_ ?_ ?_
    | refine Weaker.fzP [_,_,_,_,_,_,_,_,_,_,_] [(n,.rows 41 [.agg (G5 c (f7 ord c i) (poP c) las0)])] (G s) 1 0 (hV.still s hs 0) (by first|exact Nat.le_refl _|omega|(dsimp only;omega)) ?_ ?_ ?_ ?_
    | refine Weaker.fzP [_,_,_,_,_,_,_,_,_,_,_,_] [(n,.rows 41 [.agg (G5 c (f7 ord c i) (poP c) las0)])] (G s) 1 0 (hV.still s hs 0) (by first|exact Nat.le_refl _|omega|(dsimp only;omega)) ?_ ?_ ?_ ?_
    | refine Weaker.fzP [_,_,_,_,_,_,_,_,_,_,_,_,_] [(n,.rows 41 [.agg (G5 c (f7 ord c i) (poP c) las0)])] (G s) 1 0 (hV.still s hs 0) (by first|exact Nat.le_refl _|omega|(dsimp only;omega)) ?_ ?_ ?_ ?_
   .simp [go_sem,c1,d7,E8,Y4,hm0,o1k,o2k,o3k,a1k,a2k,a3k,b1k,b2k,b3k,g147,kIk,kNk,hcnk]
   .first|(simp;done)|(simp;omega)
   .first|(simp;done)|(simp;omega)
   simp [go_sem,c1,d7,E8,Y4,hm0,o1k,o2k,o3k,a1k,a2k,a3k,b1k,b2k,b3k,g147,kIk,kNk,hcnk]
  simp [go_sem,c1,d7,E8,hops,g145,o1q,o2q,o3q,a1q,a2q,a3q,b1q,b2q,b3q,g146,kIq,kNq,hcnq,g144]
  first
   | refine Weaker.fzP [] [(n,.rows 41 [.agg (G5 c (f7 ord c i) (poP c) las0)])] (G s) 1 0 (hV.still s hs 0) (by first|exact Nat.le_refl _|omega|(dsimp only;omega)) ?_ ?_ ?_ ?_
   | refine Weaker.fzP [_] [(n,.rows 41 [.agg (G5 c (f7 ord c i) (poP c) las0)])] (G s) 1 0 (hV.still s hs 0) (by first|exact Nat.le_refl _|omega|(dsimp only;omega)) ?_ ?_ ?_ ?_
   | refine Weaker.fzP [_,_] [(n,.rows 41 [.agg (G5 c (f7 ord c i) (poP c) las0)])] (G s) 1 0 (hV.still s hs 0) (by first|exact Nat.le_refl _|omega|(dsimp only;omega)) ?_ ?_ ?_ ?_
   | refine Weaker.fzP [_,_,_] [(n,.rows 41 [.agg (G5 c (f7 ord c i) (poP c) las0)])] (G s) 1 0 (hV.still s hs 0) (by first|exact Nat.le_refl _|omega|(dsimp only;omega)) ?_ ?_ ?_ ?_
   | refine Weaker.fzP [_,_,_,_] [(n,.rows 41 [.agg (G5 c (f7 ord c i) (poP c) las0)])] (G s) 1 0 (hV.still s hs 0) (by first|exact Nat.le_refl _|omega|(dsimp only;omega)) ?_ ?_ ?_ ?_
   | refine Weaker.fzP [_,_,_,_,_] [(n,.rows 41 [.agg (G5 c (f7 ord c i) (poP c) las0)])] (G s) 1 0 (hV.still s hs 0) (by first|exact Nat.le_refl _|omega|(dsimp only;omega)) ?_ ?_ ?_ ?_
   | refine Weaker.fzP [_,_,_,_,_,_] [(n,.rows 41 [.agg (G5 c (f7 ord c i) (poP c) las0)])] (G s) 1 0 (hV.still s hs 0) (by first|exact Nat.le_refl _|omega|(dsimp only;omega)) ?_ ?_ ?_ ?_
   | refine Weaker.fzP [_,_,_,_,_,_,_] [(n,.rows 41 [.agg (G5 c (f7 ord c i) (poP c) las0)])] (G s) 1 0 (hV.still s hs 0) (by first|exact Nat.le_refl _|omega|(dsimp only;omega)) ?_ ?_ ?_ ?_
   | refine Weaker.fzP [_,_,_,_,_,_,_,_] [(n,.rows 41 [.agg (G5 c (f7 ord c i) (poP c) las0)])] (G s) 1 0 (hV.still s hs 0) (by first|exact Nat.le_refl _|omega|(dsimp only;omega)) ?_ ?_ ?_ ?_
   | refine Weaker.fzP [_,_,_,_,_,_,_,_,_] [(n,.rows 41 [.agg (G5 c (f7 ord c i) (poP c) las0)])] (G s) 1 0 (hV.still s hs 0) (by first|exact Nat.le_refl _|omega|(dsimp only;omega)) ?_ ?_ ?_ ?_
   | refine Weaker.fzP [_,_,_,_,_,_,_,_,_,_] [(n,.rows 41 [.agg (G5 c (f7 ord c i) (poP c) las0)])] (G s) 1 0 (hV.still s hs 0) (by first|exact Nat.le_refl _|omega|(dsimp only;omega)) ?_ ?_ ?_ ?_
   | refine Weaker.fzP [_,_,_,_,_,_,_,_,_,_,_] [(n,.rows 41 [.agg (G5 c (f7 ord c i) (poP c) las0)])] (G s) 1 0 (hV.still s hs 0) (by first|exact Nat.le_refl _|omega|(dsimp only;omega)) ?_ ?_ ?_ ?_
   | refine Weaker.fzP [_,_,_,_,_,_,_,_,_,_,_,_] [(n,.rows 41 [.agg (G5 c (f7 ord c i) (poP c) las0)])] (G s) 1 0 (hV.still s hs 0) (by first|exact Nat.le_refl _|omega|(dsimp only;omega)) ?_ ?_ ?_ ?_
   | refine Weaker.fzP [_,_,_,_,_,_,_,_,_,_,_,_,_] [(n,.rows 41 [.agg (G5 c (f7 ord c i) (poP c) las0)])] (G s) 1 0 (hV.still s hs 0) (by first|exact Nat.le_refl _|omega|(dsimp only;omega)) ?_ ?_ ?_ ?_
  .simp [go_sem,c1,d7,E8,Y4]
  .first|(simp;done)|(simp;omega)
  .first|(simp;done)|(simp;omega)
  simp [go_sem,c1,d7,E8,Y4]
 skip
 refine cJ (fun h=>?_) fun h=>?_
 .have hkn:=za8 (ord:=ord) hx hin h
  apply A1
  apply hK4
  refine rF ?_ fun K h=>by simp [go_sem,hw];exact h
  refine ⟨(i+1,kk+60),?_,?_,?_⟩
  .exact ⟨by dsimp only;omega,by dsimp only;omega⟩
  .dsimp only;omega
  refine Weaker.fzT [_] _ (G s) 0 (by first|omega|(dsimp only;omega)) ?_ ?_ ?_
  .simp [go_sem]
  .first|(simp;done)|(simp;omega)
  simp [go_sem,hkn]
 obtain ⟨g1,g2⟩:=Bool.and_eq_true_iff.1 h
 obtain ⟨m,rfl⟩:=Int.eq_ofNat_of_zero_le (of_decide_eq_true g1)
 simp only [Int.toNat_natCast] at g2
 have hky:=zRd (ord:=ord) hx hin g2
 have hm0:(0:Int)<=(m:Nat):=by omega
 have hmn:m<c.n:=by omega
 refine rE fun K hK=>?_
 simp [go_sem,C0 hz8,B3 hz8,B1 hz8,C4 hz8,B0,C2,F1,C1,g144]
 refine A2 (j1 _ _ _) ?_
 simp [go_sem,zEb,C0 hz8,B3 hz8,B1 hz8,C4 hz8,B0,C2,F1,C1,g144]
 apply hK
 apply hK4
 refine rF ?_ fun K h=>by simp [go_sem,hw];exact h
 refine ⟨(i+1,kk+60),?_,?_,?_⟩
 .exact ⟨by dsimp only;omega,by dsimp only;omega⟩
 .dsimp only;omega
 refine Weaker.fzT [_] _ (G s) 0 (by first|omega|(dsimp only;omega)) ?_ ?_ ?_
 .simp [go_sem]
 .first|(simp;done)|(simp;omega)
 simp [go_sem,<-hky]
def Yh_ (t:Tst):Prop:=∀ (ws:List Bool) (fr:List Int),ws.length=nO t->fr.length=nO t->(∀ (k:Nat) (x:Int),fr[k]?=some x->-1<=x/\x<nO t)->∀ f,Z9 t ws fr=some f->CsOk ⟨t,f,fr⟩/\f.regs.length=t.ths.length
theorem zLw {ord:Cs->Rl} {t:Tst} {ws:List Bool} {fr:List Int} (h:Z9 t ws fr=none):WG_ ord t ws fr=[]:=by unfold WG_;rw [h]
theorem zLx {ord:Cs->Rl} {t:Tst} {ws:List Bool} {fr:List Int} {f:Os'} (h:Z9 t ws fr=some f):WG_ ord t ws fr=zKv (zDx ord ⟨t,f,fr⟩) ⟨t,f,fr⟩ t.locs.length 0 las0 s7:=by unfold WG_;rw [h];rfl
theorem zhr {σ : Type} {Q : Rn → Prop} {G : σ → A8} {step : σ → Rn → σ} {ok : σ → Prop} {vg : FuncId} {vcs : List V} {j0 : Nat} (hV : VisOk Q G step ok vg vcs j0) (t : Tst) (hS : SeaOk t) (hK : Yh_ t) (of : FuncId) (ord : Cs → Rl) (hord : ∀ c, CsOk c → Pf Tryz.prog of [.rp c.cs 0] (.agg (B6 (ord c)))) (ws : List Bool) (fr : List Int) (hwl : ws.length = nO t) (hfl : fr.length = nO t) (hfr : ∀ (k : Nat) (x : Int), fr[k]? = some x → -1 ≤ x ∧ x < nO t)
    (hQ:∀ r∈WG_ ord t ws fr,Q r) (s:σ) (hs:ok s) (j:Nat) (hj:j0<=j):Sl.Fn Tryz.prog 177 [d7 t of ws fr vg vcs] (G s) j fun v H _=>v=.tup []/\H=G ((WG_ ord t ws fr).foldl step s):=by
  rcases hset:Z9 t ws fr with _|f
  . rw [zLw hset]
    exact za9 hV ⟨t,D5 t [] [],fr⟩ hS of ws hwl hfl hfr s hs j hj hset
  rw [zLx hset] at hQ ⊢
  obtain ⟨h1,h2⟩:=hK ws fr hwl hfl hfr f hset
  exact zaa hV ⟨t,f,fr⟩ hS of ws hwl hfl hfr s hs j hj hset h1 h2 ord (hord _ h1) hQ
def zBk (t:Tst) (of:FuncId) (ws:List Bool) (fr:List Int) (vg:FuncId) (vcs:List V) (a:Nat):A8:=[(a+5,.rows 6 [.agg [.rp t.cs 0,.ro 2 (j3 (O0 0 t.ths)),fnV of,.sl a 0 (nO t),.sl (a+3) 0 (nO t),.fn (.func vg) [] vcs]]),(a+3,.rows 1 (iVs fr)),(a,.rows 1 (bVs ws))]
theorem zab (S:List Nat) (H:A8) (d:Nat) (l:List Int):(iVs l).map (Q5 (frz S H d))=iVs l:=by
 unfold iVs
 rw [map_map]
 exact map_congr_left fun x _=>by show Q5 (frz S H d) (iV _)=_;simp [Q5,go_sem]
theorem zac (S:List Nat) (H:A8) (d:Nat) (l:List Bool):(bVs l).map (Q5 (frz S H d))=bVs l:=by
 unfold bVs
 rw [map_map]
 exact map_congr_left fun x _=>by show Q5 (frz S H d) (bV _)=_;simp [Q5,go_sem]
theorem zBl {t:Tst} {of:FuncId} {ws:List Bool} {fr:List Int} {vg:FuncId} {vcs:List V} {a:Nat} {G:A8} {S:List Nat} (hS:∀ n∈S,n<a) (hwl:ws.length=nO t) (hfl:fr.length=nO t):frz S (zBk t of ws fr vg vcs a++G) 2 (.ptr (a+5) 0 0)=d7 t of ws fr vg vcs:=by
 have h2:a+5∉S:=fun h=>by have:=hS _ h;omega
 have h1:a+3∉S:=fun h=>by have:=hS _ h;omega
 have h0:a∉S:=fun h=>by have:=hS _ h;omega
 simp [go_sem,zBk,frz,Sl.look,h2,h1,h0,V.cells,zab,zac,d7,E8,<-hwl]
 rw [if_pos (by omega),take_of_length_le (by omega)]
def Y0_ (ord:Cs->Rl) (t:Tst) (ws:List Bool) (f k:Nat) (p:List Int) (i:Nat):List Rn:=((Yt_ t k).take i).flatMap fun x=>(W2_ t f (k+1) (p++[x])).flatMap (WG_ ord t ws)
theorem zGf (ord:Cs->Rl) (t:Tst) (ws:List Bool) (f k:Nat) (p:List Int):Y0_ ord t ws f k p 0=[]:=rfl
theorem Vj_ {ord:Cs->Rl} {t:Tst} {ws:List Bool} {f k:Nat} {p:List Int} {i:Nat} {x:Int} (h:(Yt_ t k)[i]?=some x):Y0_ ord t ws f k p (i+1)=Y0_ ord t ws f k p i++(W2_ t f (k+1) (p++[x])).flatMap (WG_ ord t ws):=by
 unfold Y0_
 rw [N6 h,flatMap_append]
 simp
theorem JV_ (ord:Cs->Rl) (t:Tst) (ws:List Bool) (f k:Nat) (p:List Int):Y0_ ord t ws f k p (Yt_ t k).length=(W2_ t (f+1) k p).flatMap (WG_ ord t ws):=by
 unfold Y0_
 rw [take_length,W2_,flatMap_assoc]
theorem JW_ {ord:Cs->Rl} {t:Tst} {ws:List Bool} {f k:Nat} {p:List Int} {i:Nat} {r:Rn} (h:r∈Y0_ ord t ws f k p i):r∈(W2_ t (f+1) k p).flatMap (WG_ ord t ws):=by
 rw [<-JV_]
 unfold Y0_ at h ⊢
 rw [take_length]
 obtain ⟨x,hx,h⟩:=List.mem_flatMap.1 h
 exact List.mem_flatMap.2 ⟨x,mem_of_mem_take hx,h⟩
theorem zRf {l:List Int} {k:Nat} {x:Int} {p:List Int} (h:l.take k=p) (hk:k<l.length):(l.set k x).take (k+1)=p++[x]:=by
 rw [N6 (show (l.set k x)[k]?=some x by rw [List.getElem?_set_self hk]),take_set_of_le (Nat.le_refl k),h]
theorem zLy {l:List Int} {n:Int} (h:∀ (k:Nat) (x:Int),l[k]?=some x->-1<=x/\x<n) (k:Nat) {y:Int} (h0:-1<=y) (h1:y<n):∀ (q:Nat) (x:Int),(l.set k y)[q]?=some x->-1<=x/\x<n:=fun q x hx=>by
 rw [List.getElem?_set] at hx
 split at hx
 .split at hx
  .cases hx;exact ⟨h0,h1⟩
  cases hx
 exact h q x hx
theorem zRg {t:Tst} {k i:Nat} {x:Int} (h:(Yt_ t k)[i]?=some x):-1<=x/\x<nO t:=by
 have hm:=List.mem_of_getElem? h
 unfold Yt_ Jv_ at hm
 split at hm
 .rcases List.mem_cons.1 hm with rfl|hm
  .exact ⟨by omega,by omega⟩
  obtain ⟨q,hq,rfl⟩:=List.mem_map.1 hm
  have:=List.mem_range.1 (List.mem_filter.1 hq).1
  exact ⟨by omega,by omega⟩
 cases List.mem_singleton.1 hm;exact ⟨by omega,by omega⟩
theorem UF_ (S:List Nat) (H:A8) (d:Nat) (x:Value):frz S H d (.val x)=.val x:=by cases d<;>rfl
theorem zRh (t:Tst) (k:Nat):(Yt_ t k).length<=nO t+1:=by
 unfold Yt_
 split
 .exact zEa t k _
 simp
def zad {σ:Type} (Q:Rn->Prop) (G:σ->A8) (step:σ->Rn->σ) (ok:σ->Prop) (vg:FuncId) (vcs:List V) (j0:Nat) (t:Tst) (of:FuncId) (ord:Cs->Rl) (ws:List Bool) (f:Nat):Prop :=
 ∀ (k:Nat) (fr:List Int) (s:σ) (a j:Nat),k+f=nO t->fr.length=nO t->(∀ (k:Nat) (x:Int),fr[k]?=some x->-1<=x/\x<nO t)->(∀ r∈(W2_ t f k (fr.take k)).flatMap (WG_ ord t ws),Q r)->ok s->j0<=a->a+5<j →
  Sl.Fn Tryz.prog 144 [.ptr (a+5) 0 0,iV (k:Nat)] (zBk t of ws fr vg vcs a++G s) j fun v H _=>∃ fr':List Int,(fr'.length=nO t/\fr'.take k=fr.take k/\∀ (k:Nat) (x:Int),fr'[k]?=some x->-1<=x/\x<nO t)/\v=.tup []/\H=zBk t of ws fr' vg vcs a++G (((W2_ t f k (fr.take k)).flatMap (WG_ ord t ws)).foldl step s)
theorem zEn {σ:Type} {Q:Rn->Prop} {G:σ->A8} {step:σ->Rn->σ} {ok:σ->Prop} {vg:FuncId} {vcs:List V} {j0:Nat} (hV:VisOk Q G step ok vg vcs j0) (t:Tst) (hS:SeaOk t) (hSO:Yh_ t) (of:FuncId) (ord:Cs->Rl) (hord:∀ c,CsOk c->Pf Tryz.prog of [.rp c.cs 0] (.agg (B6 (ord c)))) (ws:List Bool) (hwl:ws.length=nO t) (f:Nat) (ih:∀ g,f=g+1->zad Q G step ok vg vcs j0 t of ord ws g):zad Q G step ok vg vcs j0 t of ord ws f:=by
 intro k fr s a j hkf hfl hfr hQ hs ha hj
 have hn8:=hS.n8
 have hk0:(0:Int)<=(k:Nat):=by omega
 have hcn:(O0 0 t.ths).length=nO t:=rfl
 have hgn:=hV.names _ hs
 refine B7 T_ok func144 rfl rfl ntmps144 rfl (by simp) ?_
 refine A3 fun K1 hK1=>?_
 refine rG ?_ fun K h=>by simp [go_sem,zBk];exact h
 refine cK (fun h=>?_) fun h=>?_
 .have hkn:k=nO t:=by have h9:(k:Int)=(nO t:Nat):=(by simpa [hcn] using h);omega
  obtain rfl:f=0:=by omega
  have htk:fr.take k=fr:=take_of_length_le (by omega)
  have hfe:(W2_ t 0 k (fr.take k)).flatMap (WG_ ord t ws)=WG_ ord t ws fr:=by rw [htk];simp [W2_]
  rw [hfe] at hQ
  refine rK fun K hK=>?_
  simp [go_sem]
  refine U7 (A:=[]) (G:=zBk t of ws fr vg vcs a++G s) (Fn.lendP 2 (zhr hV t hS hSO of ord hord ws fr hwl hfl hfr hQ s hs j (by omega)) (by rw [map_cons,map_nil,zBl (fun n hn=>by obtain ⟨p,hp,rfl⟩:=List.mem_map.1 hn;have:=hgn p hp;omega) hwl hfl]) (hV.plain _ (YM_ hV _ s hs hQ))) fun k2 hk2=>?_
  simp [go_sem]
  apply hK
  refine A4 ?_
  rw [hfe]
  exact ⟨fr,⟨hfl,rfl,hfr⟩,rfl,rfl⟩
 have hkn:¬ k=nO t:=by have h9:¬ (k:Int)=(nO t:Nat):=(by simpa [hcn] using h);omega
 obtain ⟨g,rfl⟩:∃ g,f=g+1:=⟨f-1,by omega⟩
 have hkl:k<nO t:=by omega
 have hkI:(k:Int)<(nO t:Nat):=by omega
 have hwk:=wI k
 apply A1
 apply hK1
 refine A3 fun K2 hK2=>?_
 refine rK fun K hK=>?_
 simp [go_sem]
 refine zD9 (PfF.lendS (ds:=zTb t (fnV of) ws fr) (g:=.func vg) (fs:=[]) (cs:=vcs) (fun x _=>zGd t hS of ws fr x k hkl) 2 (by have hsf:=zBl (of:=of) (vg:=vg) (vcs:=vcs) (G:=G s) (a:=a) (S:=[]) (fun n h=>nomatch h) hwl hfl;simp only [zBk,cons_append,nil_append] at hsf;simp [hsf,UF_,d7,E8,zTb])) ?_
 simp [go_sem]
 apply hK
 apply A0
 refine A9 (α:=Nat × List Int × Nat) (fun b=>⟨41,[(0,.ptr (a+5) 0 0),(1,iV (k:Nat)),(17,.ro 1 (iVs (Yt_ t k))),(18,iV ((Yt_ t k).length:Nat)),(19,iV (b.1:Nat))],[(a+5,.rows 6 [.agg [.rp t.cs 0,.ro 2 (j3 (O0 0 t.ths)),fnV of,.sl a 0 (nO t),.sl (a+3) 0 (nO t),.fn (.func vg) [] vcs]]),(a+3,.rows 1 (iVs b.2.1)),(a,.rows 1 (bVs ws))]++G ((Y0_ ord t ws g k (fr.take k) b.1).foldl step s),b.2.2⟩) (fun b=>b.1<=(Yt_ t k).length/\b.2.1.length=nO t/\b.2.1.take k=fr.take k/\(∀ (k:Nat) (x:Int),b.2.1[k]?=some x->-1<=x/\x<nO t)/\a+5<b.2.2) (fun b=>(Yt_ t k).length-b.1) (0,fr,j+40) ?_ ?_ ?_
 .exact ⟨Nat.zero_le _,hfl,rfl,hfr,by dsimp only;omega⟩
 .refine Weaker.fzT [_,_,_] _ (G s) 0 (by first|omega|(dsimp only;omega)|exact Nat.le_refl _) ?_ ?_ ?_
  .simp [go_sem]
  .first|(simp;done)|(simp;omega)
  simp [go_sem,zGf]
 rintro ⟨i,fq,kk⟩ ⟨hi,hql,hqt,hqr,hkk⟩
 dsimp only at hi hql hqt hqr hkk ⊢
 refine rG ?_
 refine A3 fun K3 hK3=>?_
 refine cJ (fun h=>?_) fun h=>?_
 .simp at h
  obtain rfl:i=(Yt_ t k).length:=by omega
  clear h
  have hkF:k<fq.length:=by omega
  apply A6
  apply hK2
  refine rF ?_ fun K h=>by simp [go_sem,hkI,hkl,hk0,hql,zAp];exact h
  refine ⟨.inl rfl,?_⟩
  rw [<-JV_]
  exact ⟨fq.set k (-1),⟨by rw [length_set];exact hql,by rw [take_set_of_le (Nat.le_refl k)];exact hqt,zLy hqr k (by omega) (by omega)⟩,rfl,rfl⟩
 simp at h
 have hin:i<(Yt_ t k).length:=by omega
 have hiI:(i:Int)<((Yt_ t k).length:Nat):=by omega
 clear h
 have hsn:(Yt_ t k).length<=nO t+1:=zRh t k
 have hw:=wI i
 obtain ⟨x,hx,hx'⟩:=E0 hin
 have hi0:(0:Int)<=(i:Nat):=by omega
 have hxr:=zRg hx
 have hsi:=YM_ hV _ s hs (fun r hr=>hQ r (JW_ (i:=i) hr))
 have htk1:=zRf hqt (show k<fq.length by omega) (x:=x)
 have hst:(Y0_ ord t ws g k (fr.take k) (i+1)).foldl step s=((W2_ t g (k+1) ((fq.set k x).take (k+1))).flatMap (WG_ ord t ws)).foldl step ((Y0_ ord t ws g k (fr.take k) i).foldl step s):=by rw [Vj_ hx,foldl_append,htk1]
 have hQ2:∀ r∈(W2_ t g (k+1) ((fq.set k x).take (k+1))).flatMap (WG_ ord t ws),Q r:=fun r hr=>hQ r (JW_ (i:=i+1) (by rw [Vj_ hx];rw [htk1] at hr;exact List.mem_append.2 (.inr hr)))
 have hre:=ih g rfl (k+1) (fq.set k x) _ a kk (by omega) (by rw [length_set];exact hql) (zLy hqr k hxr.1 hxr.2) hQ2 hsi ha (by omega)
 rw [<-hst] at hre
 have hkF:k<fq.length:=by omega
 apply A1
 apply hK3
 refine A3 fun K4 hK4=>?_
 apply A0
 refine rG ?_ fun K h=>by simp [go_sem,hin,hiI,hx,hx',hi0];exact h
 refine rG ?_ fun K h=>by simp [go_sem,hkI,hkl,hk0,hql,zAp];exact h
 refine rE fun K hK=>?_
 simp [go_sem,hwk]
 refine Zf_ (I:=fun fr2:List Int=>fr2.length=nO t/\fr2.take (k+1)=(fq.set k x).take (k+1)/\∀ (k:Nat) (x:Int),fr2[k]?=some x->-1<=x/\x<nO t) hre fun k3 f2 hk3 hf=>?_
 obtain ⟨hf1,hf2,hf3⟩:=hf
 have htk2:f2.take k=fr.take k:=by
  have h9:=congrArg (List.take k) hf2
  rw [take_take,take_take,Nat.min_eq_left (Nat.le_succ k),take_set_of_le (Nat.le_refl k)] at h9
  rw [h9];exact hqt
 simp [go_sem]
 apply hK
 apply hK4
 refine rF ?_ fun K h=>by simp [go_sem,hw];exact h
 refine ⟨(i+1,f2,k3),?_,?_,?_⟩
 .exact ⟨by dsimp only;omega,hf1,htk2,hf3,by dsimp only;omega⟩
 .dsimp only;omega
 refine Weaker.fzT [_,_,_] _ (G ((Y0_ ord t ws g k (fr.take k) (i+1)).foldl step s)) 0 (by first|omega|(dsimp only;omega)) ?_ ?_ ?_
 .simp [go_sem]
 .first|(simp;done)|(simp;omega)
 simp [go_sem,zBk]
theorem q0 {ι O w ι' O' w'}:∀ (l:List Value) {xs:List Value},VRels ι O w (l.map V.val) xs->VRels ι' O' w' (l.map V.val) xs
 | [],_,.nil=>.nil
 | v::l,_,.cons h hs=>.cons (by cases h with|val _ h=>exact .val _ h) (q0 l hs)
theorem zLz (x:Ins):zAn (B5 x):=fun ι O w ι' O' w' cv h=>by
 cases h with
 | agg h=>exact .agg (q0 [_,_,_,_,_,_,_,_,_,_,_,_,_] h)
theorem zhs (t:Tst) (hS:SeaOk t) (of:FuncId) (ws:List Bool) (fr:List Int) (vf:Value) (k:Nat) (hk:k<nO t):PfF Tryz.prog 145 [.rp (E8 t (fnV of) ws fr (.val vf)) 0,iV k] (B5 (opX t k)):=.of_pure (M6 t hS of ws fr vf k hk) (zLz _)
theorem zRi {σ:Type} {Q:Rn->Prop} {G:σ->A8} {step:σ->Rn->σ} {ok:σ->Prop} {vg:FuncId} {vcs:List V} {j0:Nat} (hV:VisOk Q G step ok vg vcs j0) (t:Tst) (hS:SeaOk t) (hSO:Yh_ t) (of:FuncId) (ord:Cs->Rl) (hord:∀ c,CsOk c->Pf Tryz.prog of [.rp c.cs 0] (.agg (B6 (ord c)))) (ws:List Bool) (hwl:ws.length=nO t):∀ f,zad Q G step ok vg vcs j0 t of ord ws f:=by
 intro f
 induction f with
 | zero=>exact zEn hV t hS hSO of ord hord ws hwl 0 fun g hg=>nomatch hg
 | succ f ih=>exact zEn hV t hS hSO of ord hord ws hwl (f+1) fun g hg=>by cases hg;exact ih
def JX_ (ord:Cs->Rl) (t:Tst) (f k:Nat) (ws:List Bool):List Rn:=(zB1 t f k ws).flatMap fun w=>(W2_ t (nO t) 0 []).flatMap (WG_ ord t w)
theorem zM0 (ord:Cs->Rl) (t:Tst) (k:Nat) (ws:List Bool):JX_ ord t 0 k ws=(W2_ t (nO t) 0 []).flatMap (WG_ ord t ws):=by simp [JX_,zB1]
theorem zEo {ord:Cs->Rl} {t:Tst} {f k:Nat} {ws:List Bool} (h:(opX t k).op=14):JX_ ord t (f+1) k ws=JX_ ord t f (k+1) ws++JX_ ord t f (k+1) (ws.set k true):=by simp [JX_,zB1,h]
theorem zM1 {ord:Cs->Rl} {t:Tst} {f k:Nat} {ws:List Bool} (h:¬ (opX t k).op=14):JX_ ord t (f+1) k ws=JX_ ord t f (k+1) ws:=by simp [JX_,zB1,h]
theorem zEp (l:List Bool) (k:Nat) (x:Bool):(bVs l).set k (bV x)=bVs (l.set k x):=by unfold bVs;rw [map_set]
theorem zRj {l:List Bool} {k:Nat} (h:l[k]?=some false):(l.set k true).set k false=l:=by
 apply List.ext_getElem?
 intro i
 rw [List.getElem?_set,List.getElem?_set]
 by_cases e:k=i
 .subst e
  obtain ⟨h1,h2⟩:=List.getElem?_eq_some_iff.1 h
  simp [h1,h2]
 simp [e]
theorem zEq {ord:Cs->Rl} {t:Tst} {f k:Nat} {ws:List Bool} {r:Rn} (h:r∈JX_ ord t f (k+1) ws):r∈JX_ ord t (f+1) k ws:=by
 by_cases e:(opX t k).op=14
 .rw [zEo e];exact List.mem_append.2 (.inl h)
 rw [zM1 e];exact h
def zae {σ:Type} (Q:Rn->Prop) (G:σ->A8) (step:σ->Rn->σ) (ok:σ->Prop) (vg:FuncId) (vcs:List V) (j0:Nat) (t:Tst) (of:FuncId) (ord:Cs->Rl) (f:Nat):Prop :=
 ∀ (k:Nat) (ws:List Bool) (fr:List Int) (s:σ) (a j:Nat),k+f=nO t->ws.length=nO t->(∀ q,k<=q->q<nO t->ws[q]?=some false)->fr.length=nO t->(∀ (k:Nat) (x:Int),fr[k]?=some x->-1<=x/\x<nO t)->(∀ r∈JX_ ord t f k ws,Q r)->ok s->j0<=a->a+5<j →
  Sl.Fn Tryz.prog 88 [.ptr (a+5) 0 0,iV (k:Nat)] (zBk t of ws fr vg vcs a++G s) j fun v H _=>∃ fr':List Int,(fr'.length=nO t/\∀ (k:Nat) (x:Int),fr'[k]?=some x->-1<=x/\x<nO t)/\v=.tup []/\H=zBk t of ws fr' vg vcs a++G ((JX_ ord t f k ws).foldl step s)
theorem Vk_ {σ:Type} {Q:Rn->Prop} {G:σ->A8} {step:σ->Rn->σ} {ok:σ->Prop} {vg:FuncId} {vcs:List V} {j0:Nat} (hV:VisOk Q G step ok vg vcs j0) (t:Tst) (hS:SeaOk t) (hSO:Yh_ t) (of:FuncId) (ord:Cs->Rl) (hord:∀ c,CsOk c->Pf Tryz.prog of [.rp c.cs 0] (.agg (B6 (ord c)))) (f:Nat) (ih:∀ g,f=g+1->zae Q G step ok vg vcs j0 t of ord g):zae Q G step ok vg vcs j0 t of ord f:=by
 intro k ws fr s a j hkf hwl hwf hfl hfr hQ hs ha hj
 have hn8:=hS.n8
 have hk0:(0:Int)<=(k:Nat):=by omega
 have hcn:(O0 0 t.ths).length=nO t:=rfl
 refine B7 T_ok func88 rfl rfl ntmps88 rfl (by simp) ?_
 refine A3 fun K1 hK1=>?_
 refine rG ?_ fun K h=>by simp [go_sem,zBk];exact h
 refine cK (fun h=>?_) fun h=>?_
 .have hkn:k=nO t:=by have h9:(k:Int)=(nO t:Nat):=(by simpa [hcn] using h);omega
  obtain rfl:f=0:=by omega
  have hce:=zM0 ord t k ws
  rw [hce] at hQ
  refine rK fun K hK=>?_
  simp [go_sem]
  refine Zf_ (I:=fun fr2:List Int=>fr2.length=nO t/\fr2.take 0=fr.take 0/\∀ (k:Nat) (x:Int),fr2[k]?=some x->-1<=x/\x<nO t) (zRi hV t hS hSO of ord hord ws hwl (nO t) 0 fr s a j (by omega) hfl hfr hQ hs ha hj) fun k2 f2 hk2 hf=>?_
  obtain ⟨hf1,_,hf3⟩:=hf
  simp [go_sem]
  apply hK
  refine A4 ?_
  rw [hce]
  exact ⟨f2,⟨hf1,hf3⟩,rfl,rfl⟩
 have hkn:¬ k=nO t:=by have h9:¬ (k:Int)=(nO t:Nat):=(by simpa [hcn] using h);omega
 obtain ⟨g,rfl⟩:∃ g,f=g+1:=⟨f-1,by omega⟩
 have hkl:k<nO t:=by omega
 have hkI:(k:Int)<(nO t:Nat):=by omega
 have hwk:=wI k
 have hs1:=YM_ hV _ s hs (fun r hr=>hQ r (zEq (k:=k) hr))
 apply A1
 apply hK1
 refine rK fun K hK=>?_
 simp [go_sem,hwk]
 refine Zf_ (I:=fun fr2:List Int=>fr2.length=nO t/\∀ (k:Nat) (x:Int),fr2[k]?=some x->-1<=x/\x<nO t) (ih g rfl (k+1) ws fr s a j (by omega) hwl (fun q h1 h2=>hwf q (by omega) h2) hfl hfr (fun r hr=>hQ r (zEq hr)) hs ha hj) fun k2 f2 hk2 hf=>?_
 obtain ⟨hf1,hf3⟩:=hf
 simp [go_sem,zBk]
 apply hK
 refine rK fun K hK=>?_
 simp [go_sem]
 refine zD9 (PfF.lendS (ds:=zTb t (fnV of) ws f2) (g:=.func vg) (fs:=[]) (cs:=vcs) (fun x _=>zhs t hS of ws f2 x k hkl) 2 (by have hsf:=zBl (of:=of) (vg:=vg) (vcs:=vcs) (G:=G ((JX_ ord t g (k+1) ws).foldl step s)) (a:=a) (S:=[]) (fun n h=>nomatch h) hwl hf1;simp only [zBk,cons_append,nil_append] at hsf;simp [hsf,UF_,d7,E8,zTb])) ?_
 simp [go_sem,B5]
 apply hK
 refine cJ (fun h=>?_) fun h=>?_
 .have hop:¬ (opX t k).op=14:=by simpa using h
  have hce:=zM1 (ord:=ord) (f:=g) (ws:=ws) hop
  apply A1
  refine ⟨.inl rfl,?_⟩
  rw [hce]
  first|exact ⟨f2,⟨hf1,hf3⟩,rfl,rfl⟩|(rw [foldl_append];exact ⟨f3,⟨hg1,hg3⟩,rfl,rfl⟩)
 have hop:(opX t k).op=14:=by simpa using h
 have hce:=zEo (ord:=ord) (f:=g) (ws:=ws) hop
 have hQ3:∀ r∈JX_ ord t g (k+1) (ws.set k true),Q r:=fun r hr=>hQ r (by rw [hce];exact List.mem_append.2 (.inr hr))
 have hwb:=hwf k (Nat.le_refl k) hkl
 have hb:=zRj hwb
 refine rG ?_ fun K h=>by simp [go_sem,hkI,hkl,hk0,hwl,zEp];exact h
 refine rK fun K hK=>?_
 simp [go_sem,hwk]
 refine Zf_ (I:=fun fr2:List Int=>fr2.length=nO t/\∀ (k:Nat) (x:Int),fr2[k]?=some x->-1<=x/\x<nO t) (ih g rfl (k+1) (ws.set k true) f2 ((JX_ ord t g (k+1) ws).foldl step s) a k2 (by omega) (by rw [length_set];exact hwl) (fun q h1 h2=>by rw [List.getElem?_set_ne (by omega)];exact hwf q (by omega) h2) hf1 hf3 hQ3 hs1 ha (by omega)) fun k3 f3 hk3 hf=>?_
 obtain ⟨hg1,hg3⟩:=hf
 simp [go_sem,zBk]
 apply hK
 refine rF ?_ fun K h=>by simp [go_sem,hkI,hkl,hk0,hwl,zEp,hb];exact h
 refine ⟨.inl rfl,?_⟩
 rw [hce]
 first|exact ⟨f2,⟨hf1,hf3⟩,rfl,rfl⟩|(rw [foldl_append];exact ⟨f3,⟨hg1,hg3⟩,rfl,rfl⟩)
theorem zGg {σ:Type} {Q:Rn->Prop} {G:σ->A8} {step:σ->Rn->σ} {ok:σ->Prop} {vg:FuncId} {vcs:List V} {j0:Nat} (hV:VisOk Q G step ok vg vcs j0) (t:Tst) (hS:SeaOk t) (hSO:Yh_ t) (of:FuncId) (ord:Cs->Rl) (hord:∀ c,CsOk c->Pf Tryz.prog of [.rp c.cs 0] (.agg (B6 (ord c)))):∀ f,zae Q G step ok vg vcs j0 t of ord f:=by
 intro f
 induction f with
 | zero=>exact Vk_ hV t hS hSO of ord hord 0 fun g hg=>nomatch hg
 | succ f ih=>exact Vk_ hV t hS hSO of ord hord (f+1) fun g hg=>by cases hg;exact ih
theorem zM2 (ord:Cs->Rl) (t:Tst):JX_ ord t (nO t) 0 (List.replicate (nO t) false)=j7 ord t:=rfl
theorem znq (n:Nat):List.replicate n (V.val (Value.int IntKind.i64 0))=iVs (List.replicate n 0):=by unfold iVs;rw [map_replicate]
theorem znr (n:Nat):List.replicate n (V.val (Value.bool false))=bVs (List.replicate n false):=by unfold bVs;rw [map_replicate]
theorem zaf (n:Nat):∀ (q:Nat) (x:Int),(List.replicate n (0:Int))[q]?=some x->-1<=x/\x<n:=fun q x hx=>by
 rw [List.getElem?_replicate] at hx
 split at hx
 .cases hx;exact ⟨by omega,by omega⟩
 cases hx
theorem zag {σ:Type} {Q:Rn->Prop} {G:σ->A8} {step:σ->Rn->σ} {ok:σ->Prop} {vg:FuncId} {vcs:List V} {j0:Nat} (hV:VisOk Q G step ok vg vcs j0) (t:Tst) (hS:SeaOk t) (hSO:Yh_ t) (of:FuncId) (ord:Cs->Rl) (hord:∀ c,CsOk c->Pf Tryz.prog of [.rp c.cs 0] (.agg (B6 (ord c)))) (hQ:∀ r∈j7 ord t,Q r) (s:σ) (hs:ok s) (j:Nat) (hj:j0<=j):Sl.Fn Tryz.prog 37 [.rp t.cs 0,fnV of,.fn (.func vg) [] vcs] (G s) j fun v H _=>v=.tup []/\H=G ((j7 ord t).foldl step s):=by
 refine Fn.view ?_
 have hn8:=hS.n8
 have ht4:=hS.ths
 have hcn:(O0 0 t.ths).length=nO t:=rfl
 have g148:(0:Int)<=(nO t:Nat)/\(8:Int)*(nO t:Nat)<=281474976710656/\((nO t:Nat):Int)<=281474976710656/\((nO t:Nat):Int)<=9223372036854775807:=by and_intros<;>omega
 refine B7 T_ok func37 rfl rfl ntmps37 rfl (by simp) ?_
 refine rK fun K hK=>?_
 simp [go_sem]
 refine A2 (zSt t (by omega) (fun l hl=>by have:=hS.len l hl;omega)) ?_
 simp [go_sem]
 apply hK
 refine S8 T_ok (by kernel_rfl) 10 [[],[],[],[],[3],[3,4],[],[6],[6,7],[],[0,1,2,3,4,5,6,7,8,9],[0,1,2,3,4,5,6,7,8,9,10],[0,1,2,3,4,5,6,7,8,9,10,11]] [(0,5),(1,5),(2,5),(5,6),(5,7),(0,8),(1,8),(2,8),(3,8),(4,8),(5,8),(5,9),(8,9)] (by decide) (by decide) (by decide) fun K hK=>?_
 first|dsimp only [List.take,List.drop]|dsimp [List.take,List.drop]
 simp [go_sem,hcn,g148]
 rw [znq,znr]
 apply hK
 refine rE fun K hK=>?_
 simp [go_sem]
 refine Zf_ (I:=fun fr2:List Int=>fr2.length=nO t/\∀ (k:Nat) (x:Int),fr2[k]?=some x->-1<=x/\x<nO t) (zGg hV t hS hSO of ord hord (nO t) 0 (List.replicate (nO t) false) (List.replicate (nO t) 0) s (j+5) (j+11) (by omega) (by simp) (fun q h1 h2=>by rw [List.getElem?_replicate];simp [h2]) (by simp) (zaf _) hQ hs (by omega) (by omega)) fun k2 f2 hk2 hf=>?_
 simp [go_sem,zBk]
 apply hK
 refine ⟨.inl rfl,?_⟩
 exact ⟨_,_,View.tail [_,_,_] _ _,rfl,by rw [zM2]⟩
theorem zM3 {r:Rn} (h:r.st.length=41):(rnC r).length=74:=by unfold rnC;simp [B6,Y2,h]
theorem zM4 {r:Rn} (h:r.st.length=41):(V.agg (rnC r)).fits 74=true:=by
 rw [C9]
 refine ⟨zM3 h,fun x hx=>?_⟩
 have hx:x∈rnC r:=hx
 unfold rnC at hx
 rcases List.mem_cons.1 hx with rfl|hx
 .rfl
 rcases List.mem_append.1 hx with hx|hx
 .obtain ⟨a,_,rfl⟩:=List.mem_map.1 hx;rfl
 rcases List.mem_append.1 hx with hx|hx
 .obtain ⟨a,_,rfl⟩:=List.mem_map.1 hx;rfl
 obtain ⟨v,rfl⟩:=X2 _ _ hx;rfl
theorem zns {r:Rn} (h:r.st.length=41):F5 true 41 (rnC r) 33=.agg (stK r.st):=by
 have e:F5 true 41 (rnC r) 33=.agg (((rnC r).drop 33).take 41):=rfl
 rw [e]
 unfold rnC
 rw [show (33:Nat)=32+1 from rfl,drop_succ_cons,<-append_assoc,drop_left' (by simp [B6]),take_of_length_le (by rw [Y2];omega)]
theorem zht (r:Rn) (h41:r.st.length=41) (l:List (List Int)) (hl:∀ q∈l,q.length=41) (p m j:Nat) (hpm:¬ p=m) (hpj:p<j) (hmj:m<j):Sl.Fn Tryz.prog 117 [.agg (rnC r),.ptr p 0 0] [(p,.rows 1 [.map m]),(m,.map (S0 l))] j fun v H _=>v=.tup []/\H=[(p,.rows 1 [.map m]),(m,.map (S0 (if r.st∈l then l else l++[r.st])))]:=by
 refine Fn.view ?_
 have he:E7 [EK.int,EK.int,EK.int,EK.int,EK.int,EK.int,EK.int,EK.int,EK.int,EK.int,EK.int,EK.int,EK.int,EK.int,EK.int,EK.int,EK.int,EK.int,EK.int,EK.int,EK.int,EK.int,EK.int,EK.int,EK.int,EK.int,EK.int,EK.int,EK.int,EK.int,EK.int,EK.int,EK.int,EK.int,EK.int,EK.int,EK.int,EK.int,EK.int,EK.int,EK.int] (stK r.st) (stK r.st)=_:=zDi h41 h41
 have hi:Js_ [EK.int,EK.int,EK.int,EK.int,EK.int,EK.int,EK.int,EK.int,EK.int,EK.int,EK.int,EK.int,EK.int,EK.int,EK.int,EK.int,EK.int,EK.int,EK.int,EK.int,EK.int,EK.int,EK.int,EK.int,EK.int,EK.int,EK.int,EK.int,EK.int,EK.int,EK.int,EK.int,EK.int,EK.int,EK.int,EK.int,EK.int,EK.int,EK.int,EK.int,EK.int] (stK r.st) (bV true) (S0 l)=_:=UL_ h41 hl
 have g149:¬ p=m/\¬ m=p/\¬ p=j/\¬ j=p/\¬ m=j/\¬ j=m:=by and_intros<;>omega
 refine B7 T_ok func117 rfl rfl ntmps117 rfl (by simp) ?_
 refine rG ?_ fun K h=>by simp [go_sem,zM3 h41,zM4 h41];exact h
 refine rF ?_ fun K h=>by simp [go_sem,zM3 h41,zM4 h41,zns h41,he,hi,g149];exact h
 refine ⟨.inl rfl,?_⟩
 simp [go_sem]
 first
 | exact ⟨_,_,View.tail [] _ _,rfl,rfl⟩
 | exact ⟨_,_,View.tail [_] _ _,rfl,rfl⟩
 | exact ⟨_,_,View.tail [_,_] _ _,rfl,rfl⟩
def zc7 (l:List (List Int)) (r:Rn):List (List Int):=if r.st∈l then l else l++[r.st]
def zk2 (p m:Nat) (l:List (List Int)):A8:=[(p,.rows 1 [.map m]),(m,.map (S0 l))]
theorem zM5 (l:List Rn):l.foldl zc7 []=zYe l:=rfl
theorem zTu (p m j0:Nat) (hpm:¬ p=m) (hp:p<j0) (hm:m<j0):VisOk (fun r=>r.st.length=41) (zk2 p m) zc7 (fun l=>∀ q∈l,q.length=41) 117 [.ptr p 0 0] j0 where
 call:=fun s r j hs hq _ _ hj=>zht r hq s hs p m j hpm (by omega) (by omega)
 okS:=fun s r hs hq=>by
  unfold zc7
  split
  .exact hs
  intro q hm
  rcases List.mem_append.1 hm with hm|hm
  .exact hs q hm
  cases List.mem_singleton.1 hm;exact hq
 names:=fun s _ q hq=>by
  rcases List.mem_cons.1 hq with rfl|hq
  .exact hp
  cases List.mem_singleton.1 hq;exact hm
 plain:=fun s _=>by
  have h:(S0 s).all (fun p=>p.1.pureE&&p.2.pureE)=true:=by
   rw [all_eq_true]
   intro q hq
   obtain ⟨k,_,rfl⟩:=List.mem_map.1 hq
   have h2:(stK k).all V.pure1=true:=by
    rw [all_eq_true];intro v hv;obtain ⟨x,rfl⟩:=X2 _ _ hv;rfl
   show ((stK k).all V.pure1&&true)=true
   rw [h2];rfl
  have h2:zIz (.map (S0 s))=true:=h
  unfold zJ0 zk2
  rw [List.all_cons,List.all_cons,h2]
  rfl
 still:=fun s _ d S H q hq=>by
  rcases List.mem_cons.1 hq with rfl|hq
  .cases d<;>rfl
  cases List.mem_singleton.1 hq;rfl
theorem zah {l:List Rn} (h:∀ r∈l,r.st.length=41):∀ q∈zYe l,q.length=41:=YM_ (zTu 1 0 2 (by decide) (by decide) (by decide)) l [] (fun q h=>nomatch h) h
theorem zGh {l:List (List Int)} (r:Rn) (h:l.Nodup):(zc7 l r).Nodup:=by
 unfold zc7
 split
 .exact h
 rename_i hn
 exact List.nodup_append.2 ⟨h,by simp,fun a ha b hb=>by cases List.mem_singleton.1 hb;exact fun e=>hn (e▸ha)⟩
theorem Vl_:∀ (l:List Rn) (s:List (List Int)),s.Nodup->(l.foldl zc7 s).Nodup
 | [],_,h=>h
 | r::l,s,h=>Vl_ l _ (zGh r h)
theorem zGi (l:List Rn):(zYe l).Nodup:=Vl_ l [] nodup_nil
theorem zGj (t:Tst) (hS:SeaOk t) (hSO:Yh_ t) (of:FuncId) (ord:Cs->Rl) (hord:∀ c,CsOk c->Pf Tryz.prog of [.rp c.cs 0] (.agg (B6 (ord c)))) (hQ:∀ r∈j7 ord t,r.st.length=41) (hb:(O7 ord t).length<=400000000000):Pf Tryz.prog 61 [.rp t.cs 0,fnV of] (.ro 41 (stR (L5 (O7 ord t)))):=by
 refine Pf.of_fn (.cons (x5 t) (.cons (zTe of) .nil)) (WQ_ _) ?_
 have hE1:=zah hQ
 have hE2:=zGi (j7 ord t)
 refine B7 T_ok func61 rfl rfl ntmps61 rfl (by simp) ?_
 refine rG ?_
 refine rG ?_
 refine rK fun K hK=>?_
 simp [go_sem]
 refine U7 (A:=[]) (G:=zk2 1 0 []) (zag (zTu 1 0 2 (by decide) (by decide) (by decide)) t hS hSO of ord hord hQ [] (fun q h=>nomatch h) 2 (Nat.le_refl _)) fun k2 hk2=>?_
 rw [zM5]
 simp [go_sem,zk2]
 apply hK
 refine rK fun K hK=>?_
 simp [go_sem]
 refine zHm ((of_fn (zYe (j7 ord t)) hE1 hE2 hb 0 k2 (by omega)).frame (G:=[_]) (List.Perm.swap _ _ _) ?_)
 rintro v H' k' hk' ⟨rfl,rfl⟩
 simp [go_sem]
 apply hK
 refine A4 ?_
 simp [go_sem]
 rfl
theorem zBm (t:Tst) (hS:SeaOk t) (hSO:Yh_ t) (hord:∀ c,CsOk c->Pf Tryz.prog 38 [.rp c.cs 0] (.agg (B6 (WF_ c)))) (hQ:∀ r∈j7 WF_ t,r.st.length=41) (hb:(O7 WF_ t).length<=400000000000):Pf Tryz.prog 34 [.rp t.cs 0] (.ro 41 (stR (L5 (O7 WF_ t)))):=by
 refine Pf.of_fn (.cons (x5 t) .nil) (WQ_ _) ?_
 refine B7 T_ok func34 rfl rfl ntmps34 rfl (by simp) ?_
 refine rG ?_
 refine rK fun K hK=>?_
 simp [go_sem]
 refine A2 (zGj t hS hSO _ WF_ hord hQ hb) ?_
 simp [go_sem]
 apply hK
 refine A4 ?_
 simp [go_sem]
section
variable {w:RW} {f:RF} {x:RV}
end
structure RT where
 w:RW
 skip:Int
 k:Nat
section
variable {ops:List XOp} {w:Wk} {v:RW} {x:Ins}
end
structure FSame (f g:Fl) (k:Nat):Prop where
 s:∀ q,q≠k->g.state.getD q 0=f.state.getD q 0
 w:∀ q,q≠k->g.write.getD q zV=f.write.getD q zV
 p:∀ q,q≠k->g.pair.getD q 0=f.pair.getD q 0
 pl:∀ q,q≠k->g.place.getD q 0=f.place.getD q 0
 va:∀ q,q≠k->g.value.getD q 0=f.value.getD q 0
 ph:∀ q,q≠k->g.path.getD q 0=f.path.getD q 0
theorem zTv {α:Type} {l:List α} {k q:Nat} {x d:α} (h:q≠k):(l.set k x).getD q d=l.getD q d:=by rw [P4,if_neg (fun hc=>h hc.1)]
theorem X5 {α:Type} {l:List α} {k:Nat} {x d:α} (h:k<l.length):(l.set k x).getD k d=x:=by rw [P4,if_pos ⟨rfl,h⟩]
theorem zM6 (w:Wk) (f:Fl) (x:Ins) (k:Nat) (r:Vl) (b:Bool):FSame f (m8 w f x k r b) k:=by
 unfold m8 P2 x6
 refine ⟨fun q e=>?_,fun q e=>?_,fun q e=>?_,fun q e=>?_,fun q e=>?_,fun q e=>?_⟩ <;>
  (dsimp only;(repeat' split)<;>first|rfl|(simp only [zTv e]))
section
variable {n:Nat} {ops:List XOp} {reads:List Vl} {rds:List RV} {works:List Bool} {x:Ins} {s:Ts} {u:RT} {i:Nat}
end
structure Pw where
 w:Wk
 out:Int
 k:Nat
def N8 (reads:List Vl) (works:List Bool) (i:Nat) (x:Ins) (s:Pw):Pw :=
 if 0<s.out then { w:={ s.w with left:=o64 s.w.left (y7 1 (i:Nat)) },out:=s.out-1,k:=if J8 x then s.k+1 else s.k }
 else if J8 x then { w:=O1 s.w x s.k (reads.getD s.k zV) (works.getD s.k false),out:=s.out,k:=s.k+1 }
 else if VL_ x.op then { s with w:=brW s.w x,out:=brN s.w x }
 else { s with w:=H8 s.w x }
def goB (x:Ins) (s:Pw):Bool:=!(decide (s.out<=0)&&!J8 x&&VL_ x.op&&!brK s.w x)
def x8 (reads:List Vl) (works:List Bool):Nat->List Ins->Pw->Pw × Bool
 | _,[],s=>(s,true)
 | i,x::l,s=>if goB x s then x8 reads works (i+1) l (N8 reads works i x s) else (N8 reads works i x s,false)
def Ts.p (s:Ts):Pw:=⟨s.w,s.out,s.k⟩
theorem zBn (reads:List Vl) (works:List Bool) (i:Nat) (x:Ins) (s:Ts):(stepT reads works i x s).p=N8 reads works i x s.p:=by
 unfold stepT N8 Ts.p
 dsimp only
 split
 .rfl
 split
 .rfl
 split<;>rfl
theorem zai (x:Ins) (s:Ts):Z4 x s=goB x s.p:=rfl
theorem zTw (reads:List Vl) (works:List Bool):∀ (i:Nat) (l:List Ins) (s:Ts),((runT reads works i l s).1.p,(runT reads works i l s).2)=x8 reads works i l s.p
 | _,[],s=>rfl
 | i,x::l,s=>by
  unfold runT x8
  rw [zai]
  by_cases h:goB x s.p=true
  .rw [if_pos h,if_pos h,zTw reads works (i+1) l,zBn]
  rw [if_neg h,if_neg h,zBn]
theorem WU_ (reads:List Vl) (works:List Bool):∀ (i:Nat) (l l':List Ins) (s:Pw),x8 reads works i (l++l') s=if (x8 reads works i l s).2 then x8 reads works (i+l.length) l' (x8 reads works i l s).1 else x8 reads works i l s
 | _,[],l',s=>by simp [x8]
 | i,x::l,l',s=>by
  rw [cons_append,x8,x8]
  by_cases h:goB x s=true
  .rw [if_pos h,if_pos h,WU_ reads works (i+1) l l',length_cons,show i+1+l.length=i+(l.length+1) by omega]
  rw [if_neg h,if_neg h];simp
structure Fx where
 st:Int
 wr:Vl
 pr:Int
 pl:Int
 vl:Int
 ph:Int
def fx0:Fx:=⟨0,zV,0,0,0,0⟩
def n4 (f:Fl) (k:Nat):Fx:=⟨f.state.getD k 0,f.write.getD k zV,f.pair.getD k 0,f.place.getD k 0,f.value.getD k 0,f.path.getD k 0⟩
def fxM (w:Wk) (x:Ins) (read:Vl) (works:Bool):Fx :=
  { st:=r6 x works,wr:=(ZH_ w x read works).getD zV,pr:=if x.op=14/\0<w.lr/\w.lrLoc=x.loc then w.lr else 0,
    pl:=if x.op=14/\works=false then 0 else if 0<x.dep then w.hangs (x.dep-1).toNat else 0,vl:=if (ZH_ w x read works).isSome then n7 w x.aR x.aN else 0,ph:=if x.op=14/\works=false then 0 else w.path }
def fxP (reads:List Vl) (works:List Bool) (s:Pw) (x:Ins):Fx:=if 0<s.out then { fx0 with st:=2 } else fxM s.w x (reads.getD s.k zV) (works.getD s.k false)
theorem Uu_ (n k:Nat):n4 (f0 n) k=fx0:=by
 unfold n4 f0 fx0
 simp only [List.getD,List.getElem?_replicate]
 split<;>rfl
theorem zRk {n:Nat} {w:Wk} {f:Fl} {x:Ins} {k:Nat} {read:Vl} {works:Bool} (ok:FlOk n f) (hk:k<n) (h0:n4 f k=fx0):n4 (m8 w f x k read works) k=fxM w x read works:=by
 obtain ⟨l1,l2,l3,l4,l5,l6⟩:=ok
 simp only [n4,fx0,Fx.mk.injEq] at h0
 obtain ⟨z1,z2,z3,z4,z5,z6⟩:=h0
 have e1:(m8 w f x k read works).state.getD k 0=r6 x works:=by rw [zFy];exact X5 (by omega)
 have e2:(m8 w f x k read works).write.getD k zV=(ZH_ w x read works).getD zV:=by
  rw [zFz]
  cases ZH_ w x read works with
  | none=>exact z2
  | some u=>exact X5 (by omega)
 simp only [n4,fxM,Fx.mk.injEq]
 have p3:f.pair.length=n:=l3
 refine ⟨e1,e2,?_⟩
 have hpl:∀ d:List Int,d.length=n->d.getD k 0=0->(if 0<x.dep then d.set k (w.hangs (x.dep-1).toNat) else d).getD k 0=if 0<x.dep then w.hangs (x.dep-1).toNat else 0:=fun d hd h=>by
  split
  .exact X5 (by omega)
  exact h
 by_cases h1:x.op=10\/x.op=11
 .have h14:¬ x.op=14:=by omega
  simp only [m8,P2,ZH_,h1,h14,if_true,if_false,false_and,Option.isSome_some]
  exact ⟨z3,hpl _ l4 z4,X5 (by omega),X5 (by omega)⟩
 by_cases h2:x.op=12
 .have h14:¬ x.op=14:=by omega
  simp only [m8,P2,ZH_,h1,h2,h14,if_true,if_false,false_and,Option.isSome_some]
  exact ⟨z3,hpl _ l4 z4,X5 (by omega),X5 (by omega)⟩
 by_cases h3:x.op=14
 .have hpr:(if 0<w.lr/\w.lrLoc=x.loc then f.pair.set k w.lr else f.pair).getD k 0=if 0<w.lr/\w.lrLoc=x.loc then w.lr else 0:=by
   split
   .exact X5 (by omega)
   exact z3
  have hl:(if 0<x.dep then f.place.set k (w.hangs (x.dep-1).toNat) else f.place).length=n:=by
   split
   .simp;omega
   omega
  cases works
  .simp only [m8,P2,ZH_,x6,h1,h2,h3,if_true,if_false,true_and,and_true,Option.isSome_none,Bool.false_eq_true,and_false]
   exact ⟨hpr,X5 (by omega),z5,X5 (by simp;omega)⟩
  simp only [m8,P2,ZH_,x6,h1,h2,h3,if_true,if_false,true_and,and_true,Option.isSome_some,Bool.true_eq_false,and_false]
  exact ⟨hpr,hpl _ l4 z4,X5 (by omega),X5 (by omega)⟩
 simp only [m8,P2,ZH_,h1,h2,h3,if_false,false_and,Option.isSome_none,Bool.false_eq_true]
 exact ⟨z3,hpl _ l4 z4,z5,X5 (by omega)⟩
theorem zM7 {f g:Fl} {k q:Nat} (h:FSame f g k) (hq:q≠k):n4 g q=n4 f q:=by
 obtain ⟨h1,h2,h3,h4,h5,h6⟩:=h
 simp only [n4,Fx.mk.injEq]
 exact ⟨h1 q hq,h2 q hq,h3 q hq,h4 q hq,h5 q hq,h6 q hq⟩
section
variable {reads:List Vl} {works:List Bool}
theorem zaj {i:Nat} {x:Ins} {s:Pw}:(N8 reads works i x s).k=s.k+if J8 x then 1 else 0:=by
 unfold N8
 split
 .dsimp only;split<;>rfl
 split
 .rename_i h;simp [h]
 rename_i h;split<;>simp [h]
theorem zTx:∀ (l:List Ins) (i:Nat) (s:Pw),(x8 reads works i l s).2=true->(x8 reads works i l s).1.k=s.k+M8 l
 | [],i,s,_=>rfl
 | x::l,i,s,h=>by
  rw [x8] at h ⊢
  by_cases hg:goB x s=true
  .rw [if_pos hg] at h ⊢
   rw [zTx l _ _ h,zaj,M5];omega
  rw [if_neg hg] at h;cases h
theorem zGk {n i : Nat} {x : Ins} {s : Ts} (ok : FlOk n s.f) (hk : J8 x = true → s.k < n) (h0 : J8 x = true → n4 s.f s.k = fx0) :
    (∀ q,q≠s.k->n4 (stepT reads works i x s).f q=n4 s.f q)/\(J8 x=true->n4 (stepT reads works i x s).f s.k=fxP reads works s.p x)/\(J8 x=false->(stepT reads works i x s).f=s.f):=by
  unfold stepT fxP
  by_cases ho:0<s.out
  . rw [if_pos ho,if_pos (show 0<s.p.out from ho)]
    dsimp only
    by_cases hm:J8 x=true
    . simp only [hm,if_true]
      have hk:=hk hm
      have h0:=h0 hm
      refine ⟨fun q hq=>?_,fun _=>?_,fun h=>by cases h⟩
      . simp only [n4,Fx.mk.injEq,and_self,and_true];exact zTv hq
      simp only [n4,fx0,Fx.mk.injEq] at h0 ⊢
      exact ⟨X5 (by have:=ok.l1;omega),h0.2⟩
    rw [Bool.not_eq_true] at hm
    simp only [hm,Bool.false_eq_true,if_false]
    exact ⟨fun _ _=>trivial,fun h=>h.elim,fun _=>trivial⟩
  rw [if_neg ho,if_neg (show ¬ 0<s.p.out from ho)]
  by_cases hm:J8 x=true
  . simp only [hm,if_true]
    exact ⟨fun q hq=>zM7 (zM6 _ _ _ _ _ _) hq,fun _=>zRk ok (hk hm) (h0 hm),fun h=>by cases h⟩
  rw [Bool.not_eq_true] at hm
  simp only [hm,Bool.false_eq_true,if_false]
  refine ⟨fun q _=>?_,fun h=>h.elim,fun _=>?_⟩<;>split<;>rfl
theorem zGl {i:Nat} {x:Ins} {s:Ts} (h:Z4 x s=false):J8 x=false/\(stepT reads works i x s).f=s.f:=by
 unfold Z4 at h
 simp only [Bool.not_eq_false',Bool.and_eq_true,decide_eq_true_eq,Bool.not_eq_true'] at h
 obtain ⟨⟨⟨h1,h2⟩,h3⟩,h4⟩:=h
 refine ⟨h2,?_⟩
 unfold stepT
 rw [if_neg (by omega),h2]
 simp [h3]
theorem Vm_ {n : Nat} : ∀ (l : List Ins) (i : Nat) (s : Ts), FlOk n s.f → s.k + M8 l ≤ n → (∀ q, s.k ≤ q → q < n → n4 s.f q = fx0) →
    (∀ q,q<s.k\/s.k+M8 l<=q->n4 (runT reads works i l s).1.f q=n4 s.f q) ∧
    (∀ b x,l[b]?=some x->J8 x=true->n4 (runT reads works i l s).1.f (s.k+M8 (l.take b))=if (x8 reads works i (l.take b) s.p).2 then fxP reads works (x8 reads works i (l.take b) s.p).1 x else fx0)
  | [],i,s,ok,hk,hz=>⟨fun q _=>rfl,fun b x h=>by simp at h⟩
  | y::l,i,s,ok,hk,hz=>by
    rw [M5] at hk
    have hkm:J8 y=true->s.k<n:=fun h=>by simp [h] at hk;omega
    obtain ⟨e1,e2,e3⟩:=zGk (reads:=reads) (works:=works) (i:=i) ok hkm fun h=>hz s.k (Nat.le_refl _) (hkm h)
    have ek:(stepT reads works i y s).k=s.k+if J8 y then 1 else 0:=zPv
    by_cases hb:Z4 y s=true
    . have hr:runT reads works i (y::l) s=runT reads works (i+1) l (stepT reads works i y s):=by rw [runT,if_pos hb]
      have eo:∀ q,q≠s.k\/J8 y=false->n4 (stepT reads works i y s).f q=n4 s.f q:=fun q hq=>by
        rcases hq with hq|hq
        . exact e1 q hq
        rw [e3 hq]
      obtain ⟨i1,i2⟩:=Vm_ l (i+1) (stepT reads works i y s) (XB_ ok) (by rw [ek];omega) fun q h1 h2=>by
        rw [ek] at h1
        by_cases hm:J8 y=true
        . rw [eo q (.inl (by simp [hm] at h1;omega))];exact hz q (by omega) h2
        rw [eo q (.inr (by simpa using hm))];exact hz q (by omega) h2
      rw [ek] at i1 i2
      refine ⟨fun q hq=>?_,fun b x hx hm=>?_⟩
      . rw [hr,M5] at *
        by_cases hm:J8 y=true
        . simp only [hm,if_true] at i1 hq
          rw [i1 q (by omega),eo q (.inl (by omega))]
        simp only [hm,Bool.false_eq_true,if_false] at i1 hq
        rw [i1 q (by omega),eo q (.inr (by simpa using hm))]
      rw [hr]
      cases b with
      | zero =>
        simp only [List.getElem?_cons_zero,Option.some.injEq] at hx
        subst hx
        rw [take_zero,show M8 []=0 from rfl]
        show n4 _ s.k=_
        rw [i1 s.k (.inl (by simp [hm])),e2 hm]
        rfl
      | succ b =>
        have hx:l[b]?=some x:=by simpa using hx
        have hg:goB y s.p=true:=hb
        have:=i2 b x hx hm
        rw [take_succ_cons,M5,<-Nat.add_assoc,this,x8,if_pos hg,zBn]
    have hb:Z4 y s=false:=by simpa using hb
    obtain ⟨hm0,hs⟩:=zGl (reads:=reads) (works:=works) (i:=i) hb
    have hr:runT reads works i (y::l) s=(stepT reads works i y s,false):=by rw [runT,if_neg (by simp [hb])]
    rw [hr]
    refine ⟨fun q _=>by rw [hs],fun b x hx hm=>?_⟩
    cases b with
    | zero =>
      simp only [List.getElem?_cons_zero,Option.some.injEq] at hx
      subst hx;rw [hm0] at hm;cases hm
    | succ b =>
      have hx:l[b]?=some x:=by simpa using hx
      have hg:goB y s.p=false:=hb
      rw [take_succ_cons,x8,if_neg (by simp [hg])]
      show n4 (stepT reads works i y s).f _=fx0
      rw [hs]
      refine hz _ (by omega) ?_
      have h1:M8 (y::l.take b)+1<=M8 (y::l):=by
        have h2:=r5 hx
        rw [hm] at h2
        have h3:M8 (l.take (b+1))<=M8 l:=by
          unfold M8;exact List.Sublist.countP_le (take_sublist _ _)
        rw [M5,M5]
        simp at h2;omega
      rw [M5] at h1 ⊢
      rw [M5] at h1
      omega
end
def kOf (t:List (List Ins)) (i:Nat):Nat:=((t.take i).map M8).sum
theorem w7 (l:List Ins) (r:List (List Ins)) (i:Nat):kOf (l::r) (i+1)=M8 l+kOf r i:=by simp [kOf]
def pw0 (k:Nat):Pw:=⟨w0,0,k⟩
def B8 (t:Tst) (reads:List Vl) (works:List Bool) (i b:Nat):Pw × Bool:=x8 reads works 0 ((lth t i).take b) (pw0 (kOf t.ths i))
section
variable {reads:List Vl} {works:List Bool}
theorem d9 {n : Nat} : ∀ (ls : List (List Ins)) (s : Os'), FlOk n s.f → s.k + (ls.map M8).sum ≤ n → (∀ q, s.k ≤ q → q < n → n4 s.f q = fx0) →
    (∀ q,q<s.k->n4 (X2_ reads works ls s).f q=n4 s.f q) ∧
    (∀ i l,ls[i]?=some l->∀ b x,l[b]?=some x->J8 x=true->n4 (X2_ reads works ls s).f (s.k+kOf ls i+M8 (l.take b)) =
      if (x8 reads works 0 (l.take b) (pw0 (s.k+kOf ls i))).2 then fxP reads works (x8 reads works 0 (l.take b) (pw0 (s.k+kOf ls i))).1 x else fx0) ∧
    (X2_ reads works ls s).regs.length=s.regs.length+ls.length/\(X2_ reads works ls s).left.length=s.left.length+ls.length ∧
    (∀ i,i<s.regs.length->(X2_ reads works ls s).regs[i]?=s.regs[i]?)/\(∀ i,i<s.left.length->(X2_ reads works ls s).left[i]?=s.left[i]?) ∧
    (∀ i l,ls[i]?=some l->(X2_ reads works ls s).regs[s.regs.length+i]?=some (x8 reads works 0 l (pw0 (s.k+kOf ls i))).1.w.regs/\(X2_ reads works ls s).left[s.left.length+i]?=some (x8 reads works 0 l (pw0 (s.k+kOf ls i))).1.w.left) ∧
    ((X2_ reads works ls s).whole=true↔s.whole=true/\∀ i l,ls[i]?=some l->(x8 reads works 0 l (pw0 (s.k+kOf ls i))).2=true/\zby (x8 reads works 0 l (pw0 (s.k+kOf ls i))).1.w.regs=true)
  | [],s,ok,hk,hz=>⟨fun q _=>rfl,fun i l h=>by simp at h,rfl,rfl,fun _ _=>rfl,fun _ _=>rfl,fun i l h=>by simp at h,by simp [X2_]⟩
  | l::r,s,ok,hk,hz=>by
    rw [map_cons,sum_cons] at hk
    have hp:(⟨w0,s.f,0,s.k⟩:Ts).p=pw0 s.k:=rfl
    have hrT:=zTw reads works 0 l ⟨w0,s.f,0,s.k⟩
    rw [hp] at hrT
    have hr1:(runT reads works 0 l ⟨w0,s.f,0,s.k⟩).1.w=(x8 reads works 0 l (pw0 s.k)).1.w:=by rw [<-hrT];rfl
    have hr2:(runT reads works 0 l ⟨w0,s.f,0,s.k⟩).2=(x8 reads works 0 l (pw0 s.k)).2:=by rw [<-hrT]
    obtain ⟨f1,f2⟩:=Vm_ (n:=n) (reads:=reads) (works:=works) l 0 ⟨w0,s.f,0,s.k⟩ ok (by dsimp only;omega) hz
    rw [hp] at f2
    dsimp only at f1 f2
    have ok2:FlOk n (Zh_ reads works l s).f:=XC_ ok
    have ek:(Zh_ reads works l s).k=s.k+M8 l:=rfl
    have ef:(Zh_ reads works l s).f=(runT reads works 0 l ⟨w0,s.f,0,s.k⟩).1.f:=rfl
    obtain ⟨g1,g2,g3,g4,g5,g6,g7,g8⟩:=d9 (n:=n) r (Zh_ reads works l s) ok2 (by rw [ek];omega) fun q h1 h2=>by
      rw [ek] at h1
      rw [ef,f1 q (by omega)];exact hz q (by omega) h2
    have hlr:(Zh_ reads works l s).regs=s.regs++[(x8 reads works 0 l (pw0 s.k)).1.w.regs]:=by rw [<-hr1];rfl
    have hll:(Zh_ reads works l s).left=s.left++[(x8 reads works 0 l (pw0 s.k)).1.w.left]:=by rw [<-hr1];rfl
    have hlw:(Zh_ reads works l s).whole=(s.whole&&(x8 reads works 0 l (pw0 s.k)).2&&zby (x8 reads works 0 l (pw0 s.k)).1.w.regs):=by rw [<-hr1,<-hr2];rfl
    rw [ek] at g2 g7 g8
    have e0:kOf (l::r) 0=0:=rfl
    have hro:X2_ reads works (l::r) s=X2_ reads works r (Zh_ reads works l s):=rfl
    rw [hro]
    refine ⟨fun q hq=>?_,fun i y hy b x hx hm=>?_,?_,?_,fun i hi=>?_,fun i hi=>?_,fun i y hy=>?_,?_⟩
    . rw [g1 q (by rw [ek];omega),ef,f1 q (by omega)]
    . cases i with
      | zero =>
        simp only [List.getElem?_cons_zero,Option.some.injEq] at hy
        subst hy
        rw [e0,Nat.add_zero]
        have h1:M8 (l.take b)+1<=M8 l:=by
          have h2:=r5 hx
          rw [hm] at h2
          have h3:M8 (l.take (b+1))<=M8 l:=by unfold M8;exact List.Sublist.countP_le (take_sublist _ _)
          simp at h2;omega
        rw [g1 _ (by rw [ek];omega),ef,f2 b x hx hm]
      | succ i =>
        have hy:r[i]?=some y:=by simpa using hy
        rw [w7,<-Nat.add_assoc,g2 i y hy b x hx hm]
    . rw [g3,hlr];simp;omega
    . rw [g4,hll];simp;omega
    . rw [g5 i (by rw [hlr];simp;omega),hlr,List.getElem?_append_left hi]
    . rw [g6 i (by rw [hll];simp;omega),hll,List.getElem?_append_left hi]
    . cases i with
      | zero =>
        simp only [List.getElem?_cons_zero,Option.some.injEq] at hy
        subst hy
        rw [e0,Nat.add_zero,Nat.add_zero,Nat.add_zero,g5 _ (by rw [hlr];simp),g6 _ (by rw [hll];simp),hlr,hll]
        simp
      | succ i =>
        have hy:r[i]?=some y:=by simpa using hy
        have:=g7 i y hy
        rw [hlr,hll,length_append,length_append] at this
        rw [w7,<-Nat.add_assoc]
        simpa [Nat.add_assoc,Nat.add_comm 1 i] using this
    rw [g8,hlw]
    simp only [Bool.and_eq_true]
    constructor
    . rintro ⟨⟨⟨a1,a2⟩,a3⟩,a4⟩
      refine ⟨a1,fun i y hy=>?_⟩
      cases i with
      | zero =>
        simp only [List.getElem?_cons_zero,Option.some.injEq] at hy
        subst hy
        rw [e0,Nat.add_zero];exact ⟨a2,a3⟩
      | succ i =>
        rw [w7,<-Nat.add_assoc];exact a4 i y (by simpa using hy)
    rintro ⟨a1,a2⟩
    have b0:=a2 0 l rfl
    rw [e0,Nat.add_zero] at b0
    refine ⟨⟨⟨a1,b0.1⟩,b0.2⟩,fun i y hy=>?_⟩
    have:=a2 (i+1) y (by simpa using hy)
    rwa [w7,<-Nat.add_assoc] at this
end
theorem zTy {t:Tst} {i:Nat} {l:List Ins} (h:t.ths[i]?=some l):lth t i=l:=by unfold lth;rw [List.getD,h];rfl
theorem zGm (t : Tst) (reads : List Vl) (works : List Bool) {i b : Nat} {x : Ins} (hx : (lth t i)[b]? = some x) (hm : J8 x = true) :
    n4 (D5 t reads works).f (kOf t.ths i+M8 ((lth t i).take b))=if (B8 t reads works i b).2 then fxP reads works (B8 t reads works i b).1 x else fx0:=by
  have hi:t.ths[i]?=some (lth t i):=by
    unfold lth at hx ⊢
    cases h:t.ths[i]? with
    | none=>rw [List.getD,h] at hx;simp at hx
    | some l=>simp [List.getD,h]
  have h:=(d9 (reads:=reads) (works:=works) (n:=Z3_ t) t.ths { f:=f0 (Z3_ t),left:=[],regs:=[],whole:=true,k:=0 } (zAt _) (by dsimp only;unfold Z3_;omega) fun q _ _=>Uu_ _ _).2.1 i _ hi b x hx hm
  simp only [Nat.zero_add] at h
  exact h
theorem V9 (t : Tst) (reads : List Vl) (works : List Bool) {i : Nat} (hi : i < t.ths.length) :
    (D5 t reads works).regs[i]?=some (B8 t reads works i (lth t i).length).1.w.regs/\(D5 t reads works).left[i]?=some (B8 t reads works i (lth t i).length).1.w.left:=by
  have hi:t.ths[i]?=some (lth t i):=by unfold lth;rw [List.getD,List.getElem?_eq_getElem hi];rfl
  have h:=(d9 (reads:=reads) (works:=works) (n:=Z3_ t) t.ths { f:=f0 (Z3_ t),left:=[],regs:=[],whole:=true,k:=0 } (zAt _) (by dsimp only;unfold Z3_;omega) fun q _ _=>Uu_ _ _).2.2.2.2.2.2.1 i _ hi
  simp only [Nat.zero_add,length_nil] at h
  unfold B8
  rw [take_length]
  exact h
theorem w8 (t:Tst) (reads:List Vl) (works:List Bool):(D5 t reads works).regs.length=t.ths.length/\(D5 t reads works).left.length=t.ths.length:=by
 have h:=(d9 (reads:=reads) (works:=works) (n:=Z3_ t) t.ths { f:=f0 (Z3_ t),left:=[],regs:=[],whole:=true,k:=0 } (zAt _) (by dsimp only;unfold Z3_;omega) fun q _ _=>Uu_ _ _)
 have h1:=h.2.2.1
 have h2:=h.2.2.2.1
 simp only [length_nil,Nat.zero_add] at h1 h2
 exact ⟨h1,h2⟩
theorem e8 (t:Tst) (reads:List Vl) (works:List Bool):(D5 t reads works).whole=true↔∀ i,i<t.ths.length->(B8 t reads works i (lth t i).length).2=true/\zby (B8 t reads works i (lth t i).length).1.w.regs=true:=by
 have h:=(d9 (reads:=reads) (works:=works) (n:=Z3_ t) t.ths { f:=f0 (Z3_ t),left:=[],regs:=[],whole:=true,k:=0 } (zAt _) (by dsimp only;unfold Z3_;omega) fun q _ _=>Uu_ _ _).2.2.2.2.2.2.2
 simp only [Nat.zero_add,true_and] at h
 refine h.trans ⟨fun a i hi=>?_,fun a i l hl=>?_⟩
 .have:=a i (lth t i) (by unfold lth;rw [List.getD,List.getElem?_eq_getElem hi];rfl)
  unfold B8;rw [take_length];exact this
 have:=a i (List.getElem?_eq_some_iff.1 hl).1
 unfold B8 at this;rw [take_length,zTy hl] at this;exact this
theorem zEr {th:Nat}:∀ (l:List Ins) (j k:Nat) (p:Nat × Nat),(Yr_ th j l)[k]?=some p->j<=p.2/\k=M8 (l.take (p.2-j))
 | [],j,k,p,h=>by simp [Yr_] at h
 | x::l,j,k,p,h=>by
  have next:∀ k,(Yr_ th (j+1) l)[k]?=some p->j<=p.2/\k+(if J8 x then 1 else 0)=M8 ((x::l).take (p.2-j)):=fun k h=>by
   obtain ⟨h1,h2⟩:=zEr l (j+1) k p h
   refine ⟨by omega,?_⟩
   rw [show p.2-j=(p.2-(j+1))+1 by omega,take_succ_cons,M5,h2];omega
  rw [Yr_] at h
  by_cases hm:J8 x=true
  .rw [if_pos hm] at h
   cases k with
   | zero =>
    simp only [List.getElem?_cons_zero,Option.some.injEq] at h
    subst h
    simp [M8]
   | succ k =>
    have:=next k (by simpa using h)
    rw [if_pos hm] at this;exact this
  rw [if_neg hm] at h
  have:=next k h
  rwa [if_neg hm,Nat.add_zero] at this
theorem zEs:∀ (t:List (List Ins)) (j k:Nat) (p:Nat × Nat),(O0 j t)[k]?=some p->j<=p.1/\k=kOf t (p.1-j)+M8 ((t.getD (p.1-j) []).take p.2)
 | [],j,k,p,h=>by simp [O0] at h
 | l::r,j,k,p,h=>by
  rw [O0,List.getElem?_append] at h
  split at h
  .rename_i hk
   have h1:=(UU_ (List.mem_of_getElem? h)).1
   obtain ⟨_,h3⟩:=zEr l 0 k p h
   refine ⟨by omega,?_⟩
   rw [show p.1-j=0 by omega]
   simp only [kOf,take_zero,map_nil,sum_nil,getD_cons_zero,Nat.zero_add]
   simpa using h3
  rename_i hk
  obtain ⟨h1,h2⟩:=zEs r (j+1) _ p h
  rw [j4] at h2 hk
  refine ⟨by omega,?_⟩
  rw [show p.1-j=(p.1-(j+1))+1 by omega,w7,getD_cons_succ]
  omega
theorem zhu {t:Tst} {k:Nat} (hk:k<nO t):k=kOf t.ths ((O0 0 t.ths).getD k (0,0)).1+M8 ((lth t ((O0 0 t.ths).getD k (0,0)).1).take ((O0 0 t.ths).getD k (0,0)).2):=by
 have h:(O0 0 t.ths)[k]?=some ((O0 0 t.ths).getD k (0,0)):=by rw [List.getD,List.getElem?_eq_getElem hk];rfl
 have:=(zEs t.ths 0 k _ h).2
 simpa [lth] using this
def U64 (m:Int):Prop:=0<=m/\m<18446744073709551616
theorem s8 (q:Nat):P8 0 q=false:=by simp [P8]
theorem L9:U64 0:=⟨by omega,by omega⟩
theorem M0 {a b:Int} (ha:U64 a) (hb:U64 b):U64 (o64 a b)/\∀ q,P8 (o64 a b) q=(P8 a q||P8 b q):=by
 obtain ⟨m,rfl⟩:=Int.eq_ofNat_of_zero_le ha.1
 obtain ⟨n,rfl⟩:=Int.eq_ofNat_of_zero_le hb.1
 have h1:m<2 ^ 64:=by have:=ha.2;omega
 have h2:n<2 ^ 64:=by have:=hb.2;omega
 rw [zXw (by omega) (by omega)]
 have:=Nat.or_lt_two_pow h1 h2
 exact ⟨⟨by omega,by omega⟩,fun q=>by simp [P8,Nat.testBit_or]⟩
theorem S2 {k:Nat} (hk:k<64):U64 (y7 1 (k:Nat))/\∀ q,P8 (y7 1 (k:Nat)) q=decide (k=q):=by
 have h:y7 1 (k:Nat)=((2 ^ k:Nat):Int):=by
  have:=zPz (a:=1) hk
  rw [show ((1:Nat):Int)=1 from rfl] at this
  rw [this,Nat.shiftLeft_eq,Nat.one_mul]
  have h2:2 ^ k<2 ^ 64:=Nat.pow_lt_pow_right (by omega) hk
  rw [Nat.mod_eq_of_lt (by omega)]
 rw [h]
 have h2:2 ^ k<2 ^ 64:=Nat.pow_lt_pow_right (by omega) hk
 have h3:0<2 ^ k:=Nat.two_pow_pos k
 exact ⟨⟨by omega,by omega⟩,fun q=>by unfold P8;rw [Int.toNat_natCast];exact Nat.testBit_two_pow⟩
structure Wu (w:Wk):Prop where
 hangs:∀ x,U64 (w.hangs x)
 path:U64 w.path
theorem WV_ {w:Wk} (h:Wu w) (rd:Int) (v:Vl) {on:Int} (ho:U64 on):Wu (Wr_ w rd v on):=⟨fun x=>by
 show U64 (if x=rd.toNat then on else w.hangs x)
 split
 .exact ho
 exact h.hangs x,h.path⟩
theorem M7 {w:Wk} (h:Wu w) (b:Bool) (n:Int):U64 (n7 w b n):=by
 unfold n7;split
 .exact h.hangs _
 exact L9
theorem wu0:Wu w0:=⟨fun _=>L9,L9⟩
theorem zhv {w:Wk} (h:Wu w) (x:Ins) {k:Nat} (hk:k<64) (read:Vl) (works:Bool):Wu (O1 w x k read works):=by
 have hs:=(S2 hk).1
 unfold O1
 split
 .exact WV_ h _ _ hs
 split
 .exact ⟨(WV_ h x.rd read hs).hangs,h.path⟩
 split
 .exact h
 split
 .exact WV_ h _ _ hs
 split
 .unfold x7
  have h':Wu { w with lr:=0 }:=⟨h.hangs,h.path⟩
  cases works
  .exact WV_ h' _ _ L9
  exact WV_ h' _ _ hs
 exact h
theorem znt {w:Wk} (h:Wu w) (x:Ins):Wu (brW w x):=⟨h.hangs,(M0 h.path (M0 (M7 h _ _) (M7 h _ _)).1).1⟩
theorem zRl {w:Wk} (h:Wu w) (x:Ins):Wu (H8 w x):=by
 unfold H8
 split
 .exact h
 split
 .exact WV_ h _ _ L9
 exact WV_ h _ _ (M0 (M7 h _ _) (M7 h _ _)).1
theorem zak {reads:List Vl} {works:List Bool} {i:Nat} {x:Ins} {s:Pw} (h:Wu s.w) (hk:J8 x=true->s.k<64):Wu (N8 reads works i x s).w:=by
 unfold N8
 split
 .exact ⟨h.hangs,h.path⟩
 split
 .rename_i hm;exact zhv h x (hk hm) _ _
 split
 .exact znt h x
 exact zRl h x
def Kin (G:Nat->Prop) (w:Wk):Prop:=∀ x,(∀ q,P8 (w.hangs x) q=true->G q)->(w.regs x).k=true
section
variable {G:Nat->Prop} {w:Wk}
theorem zre:Kin G w0:=fun x _=>rfl
theorem Kin.arg (h:Kin G w) {b:Bool} {n:Int} (hq:∀ q,P8 (n7 w b n) q=true->G q):(T3 w b n).k=true:=by
 unfold T3 n7 at *
 cases b
 .rfl
 exact h _ hq
theorem zEt (v:Vl):(q7 v).k=v.k:=by
 unfold q7
 by_cases h:v.k=true
 .rw [if_pos h]
 rw [if_neg h];simpa using h
theorem Kin.set (h:Kin G w) (rd:Int) {v:Vl} {on:Int} (hv:(∀ q,P8 on q=true->G q)->v.k=true):Kin G (Wr_ w rd v on):=fun x hx=>by
 show (if x=rd.toNat then q7 v else w.regs x).k=true
 replace hx:∀ q,P8 (if x=rd.toNat then on else w.hangs x) q=true->G q:=hx
 by_cases e:x=rd.toNat
 .rw [if_pos e] at hx ⊢;rw [zEt];exact hv hx
 rw [if_neg e] at hx ⊢;exact h x hx
theorem Kin.mem (h:Kin G w) {x:Ins} {k:Nat} (hk:k<64) {read:Vl} {works:Bool} (hr:rdB x.op=true->G k->read.k=true):Kin G (O1 w x k read works):=by
 have hs:=(S2 hk).2
 have hG:∀ {on:Int},on=y7 1 (k:Nat)->(∀ q,P8 on q=true->G q)->G k:=fun e hq=>hq k (by rw [e,hs];simp)
 unfold O1
 split
 .rename_i h9
  exact h.set _ fun hq=>hr (by simp [rdB,h9]) (hG rfl hq)
 split
 .rename_i h13
  exact h.set _ fun hq=>hr (by simp [rdB,h13]) (hG rfl hq)
 split
 .exact h
 split
 .rename_i h11
  exact h.set _ fun hq=>hr (by rcases h11 with h11|h11<;>simp [rdB,h11]) (hG rfl hq)
 split
 .unfold x7
  have h':Kin G { w with lr:=0 }:=h
  cases works
  .exact h'.set _ fun _=>rfl
  exact h'.set _ fun _=>rfl
 exact h
theorem Kin.plain (h:Kin G w) (hu:Wu w) {x:Ins} (h1:x.op=1->x.aR=false):Kin G (H8 w x):=by
 unfold H8
 split
 .exact h
 split
 .rename_i e
  exact h.set _ fun _=>by simp [T3,h1 e]
 refine h.set _ fun hq=>?_
 have hb:=(M0 (M7 hu x.aR x.aN) (M7 hu x.bR x.bN)).2
 rw [Bool.and_eq_true]
 exact ⟨h.arg fun q hq'=>hq q (by rw [hb,hq'];rfl),h.arg fun q hq'=>hq q (by rw [hb,hq',Bool.or_true])⟩
theorem Kin.br (h:Kin G w) (hu:Wu w) {x:Ins} (hq:∀ q,P8 (brW w x).path q=true->G q):brK w x=true:=by
 have h1:=M0 (M7 hu x.aR x.aN) (M7 hu x.bR x.bN)
 have h2:=(M0 hu.path h1.1).2
 have hp:(brW w x).path=o64 w.path (o64 (n7 w x.aR x.aN) (n7 w x.bR x.bN)):=rfl
 unfold brK
 rw [Bool.and_eq_true]
 exact ⟨h.arg fun q hq'=>hq q (by rw [hp,h2,h1.2,hq'];simp),h.arg fun q hq'=>hq q (by rw [hp,h2,h1.2,hq'];simp)⟩
theorem Kin.step {reads : List Vl} {works : List Bool} {i : Nat} {x : Ins} {s : Pw} (h : Kin G s.w) (hu : Wu s.w) (hk : J8 x = true → s.k < 64) (h1 : x.op = 1 → x.aR = false)
    (hr:J8 x=true->rdB x.op=true->G s.k->(reads.getD s.k zV).k=true):Kin G (N8 reads works i x s).w:=by
  unfold N8
  split
  . exact h
  split
  . rename_i hm;exact h.mem (hk hm) (hr hm)
  split
  . exact h
  exact h.plain hu h1
end
structure Sm (s u:Pw):Prop where
 regs:∀ x,le (s.w.regs x) (u.w.regs x)
 hangs:s.w.hangs=u.w.hangs
 path:s.w.path=u.w.path
 left:s.w.left=u.w.left
 lr:s.w.lr=u.w.lr
 lrLoc:s.w.lrLoc=u.w.lrLoc
 out:s.out=u.out
 k:s.k=u.k
theorem Sm.refl (s:Pw):Sm s s:=⟨fun _=>le_refl _,rfl,rfl,rfl,rfl,rfl,rfl,rfl⟩
section
variable {s u:Pw} {reads reads':List Vl} {works:List Bool} {x:Ins} {i:Nat}
theorem Sm.arg (h:Sm s u) (b:Bool) (n:Int):le (T3 s.w b n) (T3 u.w b n):=by
 unfold T3;cases b
 .exact le_refl _
 exact h.regs _
theorem Sm.argh (h:Sm s u) (b:Bool) (n:Int):n7 s.w b n=n7 u.w b n:=by unfold n7;rw [h.hangs]
theorem Sm.brk (h:Sm s u) (hb:brK s.w x=true):brK u.w x=true/\brN s.w x=brN u.w x:=by
 unfold brK at hb
 rw [Bool.and_eq_true] at hb
 have e1:=h.arg x.aR x.aN hb.1
 have e2:=h.arg x.bR x.bN hb.2
 unfold brN brK
 rw [<-e1,<-e2,hb.1,hb.2]
 exact ⟨rfl,rfl⟩
theorem Sm.go (h:Sm s u) (hg:goB x s=true):goB x u=true:=by
 unfold goB at hg ⊢
 rw [<-h.out]
 by_cases hb:brK s.w x=true
 .rw [(h.brk hb).1];simp
 simp only [hb,Bool.not_false,Bool.and_true,Bool.not_eq_true'] at hg
 simp [hg]
theorem WW_ {w v:Wk} (h:∀ x,le (w.regs x) (v.regs x)) {a b:Vl} (hab:le a b) (rd on on':Int):∀ x,le ((Wr_ w rd a on).regs x) ((Wr_ v rd b on').regs x):=fun x=>by
 show le (if x=rd.toNat then q7 a else w.regs x) (if x=rd.toNat then q7 b else v.regs x)
 split
 .exact zDf hab
 exact h x
theorem Q8 (w v:Wk) (h:w.hangs=v.hangs) (rd:Int) (a b:Vl) (on:Int):(Wr_ w rd a on).hangs=(Wr_ v rd b on).hangs:=by unfold Wr_;rw [h]
theorem Sm.mem (h : Sm s u) {a b : Vl} (wk : Bool) (hab : r6 x wk = 1 → le a b) :
    (∀ q,le ((O1 s.w x s.k a wk).regs q) ((O1 u.w x u.k b wk).regs q))/\(O1 s.w x s.k a wk).hangs=(O1 u.w x u.k b wk).hangs/\(O1 s.w x s.k a wk).path=(O1 u.w x u.k b wk).path ∧
    (O1 s.w x s.k a wk).left=(O1 u.w x u.k b wk).left/\(O1 s.w x s.k a wk).lr=(O1 u.w x u.k b wk).lr/\(O1 s.w x s.k a wk).lrLoc=(O1 u.w x u.k b wk).lrLoc:=by
  obtain ⟨h1,h2,h3,h4,h5,h6,h7,h8⟩:=h
  replace hab:¬ x.op=14->le a b:=fun hc=>hab (by unfold r6;rw [if_neg (fun e=>hc e.1)])
  unfold O1
  rw [h8]
  split
  . replace hab:=hab (by omega)
    exact ⟨WW_ h1 hab _ _ _,Q8 _ _ h2 _ _ _ _,h3,h4,h5,h6⟩
  split
  . replace hab:=hab (by omega)
    exact ⟨WW_ h1 hab x.rd (y7 1 (u.k:Nat)) (y7 1 (u.k:Nat)),Q8 s.w u.w h2 x.rd a b (y7 1 (u.k:Nat)),h3,h4,rfl,rfl⟩
  split
  . exact ⟨h1,h2,h3,h4,h5,h6⟩
  split
  . replace hab:=hab (by omega)
    exact ⟨WW_ h1 hab _ _ _,Q8 _ _ h2 _ _ _ _,h3,h4,h5,h6⟩
  split
  . unfold x7
    cases wk
    . exact ⟨WW_ (w:={ s.w with lr:=0 }) (v:={ u.w with lr:=0 }) h1 (le_refl ⟨true,1⟩) x.rd 0 0,Q8 { s.w with lr:=0 } { u.w with lr:=0 } h2 x.rd ⟨true,1⟩ ⟨true,1⟩ 0,h3,h4,rfl,h6⟩
    exact ⟨WW_ (w:={ s.w with lr:=0 }) (v:={ u.w with lr:=0 }) h1 (le_refl ⟨true,0⟩) x.rd (y7 1 (u.k:Nat)) (y7 1 (u.k:Nat)),Q8 { s.w with lr:=0 } { u.w with lr:=0 } h2 x.rd ⟨true,0⟩ ⟨true,0⟩ (y7 1 (u.k:Nat)),h3,h4,rfl,h6⟩
  exact ⟨h1,h2,h3,h4,h5,h6⟩
theorem Sm.step (h:Sm s u) (hr:J8 x=true->¬ 0<s.out->r6 x (works.getD s.k false)=1->le (reads.getD s.k zV) (reads'.getD s.k zV)) (hg:goB x s=true):Sm (N8 reads works i x s) (N8 reads' works i x u):=by
 have hm:=fun a1 a2=>h.mem (x:=x) (works.getD s.k false) (hr a1 a2)
 obtain ⟨h1,h2,h3,h4,h5,h6,h7,h8⟩:=h
 have h':Sm s u:=⟨h1,h2,h3,h4,h5,h6,h7,h8⟩
 unfold N8
 rw [<-h7]
 by_cases ho:0<s.out
 .rw [if_pos ho,if_pos ho]
  exact ⟨h1,h2,h3,by dsimp only;rw [h4],h5,h6,rfl,by dsimp only;rw [h8]⟩
 rw [if_neg ho,if_neg ho]
 by_cases hmm:J8 x=true
 .rw [if_pos hmm,if_pos hmm]
  obtain ⟨a1,a2,a3,a4,a5,a6⟩:=hm hmm ho
  rw [<-h8] at *
  exact ⟨a1,a2,a3,a4,a5,a6,rfl,rfl⟩
 rw [if_neg hmm,if_neg hmm]
 by_cases hb:VL_ x.op=true
 .rw [if_pos hb,if_pos hb]
  have hk:brK s.w x=true:=by
   unfold goB at hg
   simpa [hmm,hb,show s.out<=0 by omega] using hg
  refine ⟨h1,h2,?_,h4,h5,h6,(h'.brk hk).2,h8⟩
  show o64 s.w.path (o64 (n7 s.w x.aR x.aN) (n7 s.w x.bR x.bN))=o64 u.w.path (o64 (n7 u.w x.aR x.aN) (n7 u.w x.bR x.bN))
  rw [h3,h'.argh,h'.argh]
 rw [if_neg hb,if_neg hb]
 have hp:Sm ⟨H8 s.w x,s.out,s.k⟩ ⟨H8 u.w x,u.out,u.k⟩:=by
  unfold H8
  split
  .exact ⟨h1,h2,h3,h4,h5,h6,h7,h8⟩
  split
  .exact ⟨WW_ h1 (h'.arg _ _) _ _ _,Q8 _ _ h2 _ _ _ _,h3,h4,h5,h6,h7,h8⟩
  rw [h'.argh,h'.argh]
  refine ⟨WW_ h1 (fun hk=>?_) _ _ _,Q8 _ _ h2 _ _ _ _,h3,h4,h5,h6,h7,h8⟩
  simp only [Bool.and_eq_true] at hk
  rw [h'.arg _ _ hk.1,h'.arg _ _ hk.2]
 exact ⟨hp.regs,hp.hangs,hp.path,hp.left,hp.lr,hp.lrLoc,rfl,hp.k⟩
theorem Sm.fx (h : Sm s u) (hr : ¬ 0 < s.out → r6 x (works.getD s.k false) = 1 → le (reads.getD s.k zV) (reads'.getD s.k zV)) : (fxP reads works s x).st = (fxP reads' works u x).st ∧ (fxP reads works s x).pr = (fxP reads' works u x).pr ∧ (fxP reads works s x).pl = (fxP reads' works u x).pl ∧
    (fxP reads works s x).vl=(fxP reads' works u x).vl/\(fxP reads works s x).ph=(fxP reads' works u x).ph/\le (fxP reads works s x).wr (fxP reads' works u x).wr:=by
  unfold fxP
  rw [<-h.out,<-h.k]
  split
  . exact ⟨rfl,rfl,rfl,rfl,rfl,le_refl _⟩
  rename_i ho
  replace hr:=hr ho
  unfold fxM ZH_
  dsimp only
  rw [h.lr,h.lrLoc,h.hangs,h.path,h.argh]
  refine ⟨rfl,rfl,rfl,?_,rfl,?_⟩
  . (repeat' split)<;>simp_all
  split
  . exact h.arg _ _
  split
  . rename_i e12;exact zDf (zg2 (h.arg _ _) (hr (by unfold r6;rw [if_neg (by omega)])))
  split
  . exact h.arg _ _
  exact le_refl _
end
theorem zM8 {th:Nat}:∀ (l:List Ins) (j b:Nat) (x:Ins),l[b]?=some x->J8 x=true->(Yr_ th j l)[M8 (l.take b)]?=some (th,j+b)
 | [],j,b,x,h,_=>by simp at h
 | y::l,j,b,x,h,hm=>by
  cases b with
  | zero =>
   simp only [List.getElem?_cons_zero,Option.some.injEq] at h
   subst h
   rw [Yr_,if_pos hm];rfl
  | succ b =>
   have ih:=zM8 (th:=th) l (j+1) b x (by simpa using h) hm
   rw [take_succ_cons,M5,Yr_]
   by_cases hy:J8 y=true
   .rw [if_pos hy,if_pos hy,Nat.add_comm 1,List.getElem?_cons_succ,ih,show j+1+b=j+(b+1) by omega]
   rw [if_neg hy,if_neg hy,Nat.zero_add,ih,show j+1+b=j+(b+1) by omega]
theorem zM9:∀ (t:List (List Ins)) (j i b:Nat) (l:List Ins) (x:Ins),t[i]?=some l->l[b]?=some x->J8 x=true->(O0 j t)[kOf t i+M8 (l.take b)]?=some (j+i,b)
 | [],j,i,b,l,x,h,_,_=>by simp at h
 | y::r,j,i,b,l,x,h,hx,hm=>by
  cases i with
  | zero =>
   simp only [List.getElem?_cons_zero,Option.some.injEq] at h
   subst h
   have h1:=zM8 (th:=j) y 0 b x hx hm
   rw [O0,show kOf (y::r) 0=0 from rfl,Nat.zero_add,List.getElem?_append_left (List.getElem?_eq_some_iff.1 h1).1,h1]
   simp
  | succ i =>
   have ih:=zM9 r (j+1) i b l x (by simpa using h) hx hm
   rw [O0,w7,List.getElem?_append_right (by rw [j4];omega),j4,show M8 y+kOf r i+M8 (l.take b)-M8 y=kOf r i+M8 (l.take b) by omega,ih,show j+1+i=j+(i+1) by omega]
def F8 (t:Tst) (i b:Nat):Nat:=kOf t.ths i+M8 ((lth t i).take b)
def opAt (t:Tst) (k:Nat):Nat:=((O0 0 t.ths).getD k (0,0)).2
theorem Zy_ {t:Tst} {i b:Nat} {x:Ins} (hx:(lth t i)[b]?=some x):t.ths[i]?=some (lth t i):=by
 unfold lth at hx ⊢
 cases h:t.ths[i]? with
 | none=>rw [List.getD,h] at hx;simp at hx
 | some l=>simp [List.getD,h]
theorem J6 {t:Tst} {i b:Nat} {x:Ins} (hx:(lth t i)[b]?=some x) (hm:J8 x=true):F8 t i b<nO t/\opX t (F8 t i b)=x/\E5 t (F8 t i b)=i/\opAt t (F8 t i b)=b:=by
 have h:=zM9 t.ths 0 i b (lth t i) x (Zy_ hx) hx hm
 rw [Nat.zero_add] at h
 have hg:(O0 0 t.ths).getD (F8 t i b) (0,0)=(i,b):=by unfold F8;rw [List.getD,h];rfl
 refine ⟨(List.getElem?_eq_some_iff.1 h).1,?_,by unfold E5;rw [hg],by unfold opAt;rw [hg]⟩
 unfold opX;rw [hg]
 unfold ZI_
 show (lth t i).getD b i0=x
 rw [List.getD,hx];rfl
theorem I5 {t:Tst} {k:Nat} (hk:k<nO t):(lth t (E5 t k))[opAt t k]?=some (opX t k)/\J8 (opX t k)=true/\F8 t (E5 t k) (opAt t k)=k/\E5 t k<t.ths.length:=by
 have h1:(O0 0 t.ths)[k]?=some ((O0 0 t.ths).getD k (0,0)):=by rw [List.getD,List.getElem?_eq_getElem hk];rfl
 obtain ⟨h2,h3,l,x,h4,h5,h6⟩:=UV_ (List.mem_of_getElem? h1)
 rw [Nat.sub_zero] at h4
 have e0:lth t (E5 t k)=l:=zTy h4
 have e:opX t k=x:=by
  unfold opX ZI_
  show (lth t (E5 t k)).getD _ i0=x
  rw [e0,List.getD,h5];rfl
 refine ⟨by rw [e,e0];exact h5,by rw [e];exact h6,(zhu hk).symm,by unfold E5;omega⟩
structure TG (t:Tst):Prop where
 n64:nO t<=64
 op1:∀ l∈t.ths,∀ x∈l,x.op=1->x.aR=false
theorem TG.one {t:Tst} (h:TG t) {i b:Nat} {x:Ins} (hx:(lth t i)[b]?=some x):x.op=1->x.aR=false:=h.op1 _ (List.mem_of_getElem? (Zy_ hx)) _ (List.mem_of_getElem? hx)
section
variable {t:Tst} {reads reads':List Vl} {works:List Bool} {i b:Nat} {x:Ins}
theorem E9 (hx:(lth t i)[b]?=some x):B8 t reads works i (b+1)=if (B8 t reads works i b).2 then (N8 reads works b x (B8 t reads works i b).1,goB x (B8 t reads works i b).1) else B8 t reads works i b:=by
 have hb:((lth t i).take b).length=b:=by rw [length_take];have:=(List.getElem?_eq_some_iff.1 hx).1;omega
 unfold B8
 rw [N6 hx,WU_,hb,Nat.zero_add]
 split
 .rw [x8]
  split
  .rename_i h;rw [x8,h]
  rename_i h;simp only [Bool.not_eq_true] at h;rw [h]
 rfl
theorem XK_ (hb:(lth t i).length<=b):B8 t reads works i b=B8 t reads works i (lth t i).length:=by
 unfold B8;rw [take_of_length_le hb,take_length]
theorem I0 (hb:¬ b<(lth t i).length):B8 t reads works i (b+1)=B8 t reads works i b:=by rw [XK_ (by omega:(lth t i).length<=b+1),XK_ (by omega:(lth t i).length<=b)]
theorem m6 (h:(B8 t reads works i b).2=true):(B8 t reads works i b).1.k=F8 t i b:=zTx _ _ _ h
theorem W0 (h:(B8 t reads works i (b+1)).2=true):(B8 t reads works i b).2=true:=by
 by_cases hb:b<(lth t i).length
 .rw [E9 (List.getElem?_eq_getElem hb)] at h
  cases h2:(B8 t reads works i b).2 with
  | true=>rfl
  | false=>rw [h2] at h;simp [h2] at h
 rwa [XK_ (by omega:(lth t i).length<=b),<-XK_ (t:=t) (i:=i) (b:=b+1) (by omega)]
theorem zBo:∀ {c:Nat},b<=c->(B8 t reads works i c).2=true->(B8 t reads works i b).2=true
 | 0,h,h2=>by rwa [Nat.le_zero.1 h]
 | c+1,h,h2=>by
  by_cases e:b=c+1
  .rw [e];exact h2
  exact zBo (c:=c) (by omega) (W0 h2)
theorem Vn_ (ht:TG t) (hx:(lth t i)[b]?=some x) (h:(B8 t reads works i b).2=true):J8 x=true->(B8 t reads works i b).1.k<64/\opX t (B8 t reads works i b).1.k=x:=fun hm=>by
 rw [m6 h]
 have h1:=J6 hx hm
 have:=ht.n64
 exact ⟨by omega,h1.2.1⟩
theorem s9 (ht:TG t):∀ b,(B8 t reads works i b).2=true->Wu (B8 t reads works i b).1.w
 | 0,_=>wu0
 | b+1,h=>by
  by_cases hb:b<(lth t i).length
  .have hp:=W0 h
   have hx:=List.getElem?_eq_getElem hb
   rw [E9 hx,if_pos hp]
   exact zak (s9 ht b hp) fun hm=>(Vn_ ht hx hp hm).1
  rw [I0 hb] at h ⊢
  exact s9 ht b h
def known (t:Tst) (reads:List Vl) (q:Nat):Prop:=rdB (opX t q).op=true->(reads.getD q zV).k=true
theorem XL_ (ht:TG t):∀ b,(B8 t reads works i b).2=true->Kin (known t reads) (B8 t reads works i b).1.w
 | 0,_=>zre
 | b+1,h=>by
  by_cases hb:b<(lth t i).length
  .have hp:=W0 h
   have hx:=List.getElem?_eq_getElem hb
   rw [E9 hx,if_pos hp]
   refine (XL_ ht b hp).step (s9 ht b hp) (fun hm=>(Vn_ ht hx hp hm).1) (ht.one hx) fun hm hr hG=>?_
   exact hG (by rw [(Vn_ ht hx hp hm).2];exact hr)
  rw [I0 hb] at h ⊢
  exact XL_ ht b h
def fxO (t:Tst) (reads:List Vl) (works:List Bool) (k:Nat):Fx:=n4 (D5 t reads works).f k
theorem X6 {k:Nat} (hk:k<nO t):fxO t reads works k=if (B8 t reads works (E5 t k) (opAt t k)).2 then fxP reads works (B8 t reads works (E5 t k) (opAt t k)).1 (opX t k) else fx0:=by
 obtain ⟨h1,h2,h3,_⟩:=I5 hk
 have:=zGm t reads works h1 h2
 unfold F8 at h3
 rw [h3] at this
 exact this
theorem JY_ (hx : (lth t i)[b]? = some x) (hm : J8 x = true) (hp : (B8 t reads works i b).2 = true) (ho : ¬ 0 < (B8 t reads works i b).1.out) :
    F8 t i b<nO t/\(B8 t reads works i b).1.k=F8 t i b/\(fxO t reads works (F8 t i b)).st=r6 x (works.getD (F8 t i b) false):=by
  obtain ⟨a1,a2,a3,a4⟩:=J6 hx hm
  refine ⟨a1,m6 hp,?_⟩
  rw [X6 a1,a2,a3,a4,if_pos hp]
  unfold fxP
  rw [if_neg ho,m6 hp];rfl
def RLe (t:Tst) (works:List Bool) (reads reads':List Vl):Prop:=∀ q,q<nO t->(fxO t reads works q).st=1->le (reads.getD q zV) (reads'.getD q zV)
theorem RLe.of (h:∀ q,le (reads.getD q zV) (reads'.getD q zV)):RLe t works reads reads':=fun q _ _=>h q
theorem RLe.here (hr : RLe t works reads reads') (hx : (lth t i)[b]? = some x) (hp : (B8 t reads works i b).2 = true) : J8 x = true → ¬ 0 < (B8 t reads works i b).1.out → r6 x (works.getD (B8 t reads works i b).1.k false) = 1 →
    le (reads.getD (B8 t reads works i b).1.k zV) (reads'.getD (B8 t reads works i b).1.k zV):=fun hm ho hs=>by
  obtain ⟨a1,a2,a3⟩:=JY_ hx hm hp ho
  rw [a2] at hs ⊢
  exact hr _ a1 (a3.trans hs)
theorem Zz_ (hr:RLe t works reads reads'):∀ b,(B8 t reads works i b).2=true->(B8 t reads' works i b).2=true/\Sm (B8 t reads works i b).1 (B8 t reads' works i b).1
 | 0,_=>⟨rfl,Sm.refl _⟩
 | b+1,h=>by
  by_cases hb:b<(lth t i).length
  .have hp:=W0 h
   have hx:=List.getElem?_eq_getElem hb
   obtain ⟨h1,h2⟩:=Zz_ hr b hp
   rw [E9 (reads:=reads) hx,if_pos hp] at h ⊢
   rw [E9 (reads:=reads') hx,if_pos h1]
   exact ⟨h2.go h,h2.step (hr.here hx hp) h⟩
  rw [I0 hb] at h ⊢
  rw [I0 hb]
  exact Zz_ hr b h
theorem JZ_ (ht:TG t) (hx:(lth t i)[b]?=some x) (h:(B8 t reads works i (b+1)).2=true) {q:Nat} (hq:P8 (B8 t reads works i b).1.w.path q=true):P8 (B8 t reads works i (b+1)).1.w.path q=true:=by
 have hp:=W0 h
 have hu:=s9 ht b hp
 rw [E9 hx,if_pos hp]
 generalize (B8 t reads works i b).1=s at *
 show P8 (N8 reads works b x s).w.path q=true
 unfold N8
 split
 .exact hq
 split
 .have:(O1 s.w x s.k (reads.getD s.k zV) (works.getD s.k false)).path=s.w.path:=by
   unfold O1
   split
   .rfl
   split
   .rfl
   split
   .rfl
   split
   .rfl
   split
   .unfold x7;cases works.getD s.k false<;>rfl
   rfl
  rw [this];exact hq
 split
 .show P8 (o64 s.w.path (o64 (n7 s.w x.aR x.aN) (n7 s.w x.bR x.bN))) q=true
  rw [(M0 hu.path (M0 (M7 hu _ _) (M7 hu _ _)).1).2,hq,Bool.true_or]
 have:(H8 s.w x).path=s.w.path:=by unfold H8;split;rfl;split<;>rfl
 rw [this];exact hq
theorem zMa (ht:TG t) {q:Nat}:∀ {c:Nat},b<=c->(B8 t reads works i c).2=true->P8 (B8 t reads works i b).1.w.path q=true->P8 (B8 t reads works i c).1.w.path q=true
 | 0,h,_,hq=>by rwa [Nat.le_zero.1 h] at hq
 | c+1,h,h2,hq=>by
  by_cases e:b=c+1
  .rw [<-e];exact hq
  have:=zMa ht (c:=c) (by omega) (W0 h2) hq
  by_cases hc:c<(lth t i).length
  .exact JZ_ ht (List.getElem?_eq_getElem hc) h2 this
  rw [I0 hc];exact this
theorem Uv_ (ht:TG t) (hr:RLe t works reads reads'):∀ b,(B8 t reads' works i b).2=true->(∀ q,P8 (B8 t reads' works i b).1.w.path q=true->known t reads q)->(B8 t reads works i b).2=true
 | 0,_,_=>rfl
 | b+1,h,hk=>by
  have hp:=W0 h
  by_cases hb:b<(lth t i).length
  .have hx:=List.getElem?_eq_getElem hb
   have hpr:=Uv_ ht hr b hp fun q hq=>hk q (JZ_ ht hx h hq)
   have hs:=(Zz_ hr b hpr).2
   rw [E9 hx,if_pos hpr]
   show goB _ (B8 t reads works i b).1=true
   rw [E9 hx,if_pos hp] at h hk
   replace h:goB (lth t i)[b] (B8 t reads' works i b).1=true:=h
   replace hk:∀ q,P8 (N8 reads' works b (lth t i)[b] (B8 t reads' works i b).1).w.path q=true->known t reads q:=hk
   have hkin:=XL_ (works:=works) ht b hpr
   have hu:=s9 (works:=works) ht b hpr
   generalize (B8 t reads works i b).1=s at *
   generalize (B8 t reads' works i b).1=u at *
   unfold goB
   by_cases h1:0<s.out
   .simp [show ¬ s.out<=0 by omega]
   by_cases h2:J8 (lth t i)[b]=true
   .simp [h2]
   by_cases h3:VL_ (lth t i)[b].op=true
   .have:brK s.w (lth t i)[b]=true:=hkin.br hu fun q hq=>hk q (by
     unfold N8
     rw [<-hs.out,if_neg h1,if_neg h2,if_pos h3]
     show P8 (o64 u.w.path (o64 (n7 u.w _ _) (n7 u.w _ _))) q=true
     rw [<-hs.path,<-hs.argh,<-hs.argh];exact hq)
    simp [this]
   simp [h3]
  rw [I0 hb] at h hk ⊢
  exact Uv_ ht hr b h hk
end
def WX_ (t:Tst) (reads:List Vl) (works:List Bool) (k q:Nat):Prop:=P8 (B8 t reads works (E5 t k) (opAt t k)).1.w.path q=true
section
variable {t:Tst} {reads reads':List Vl} {works:List Bool} {k:Nat}
theorem zhw (s:Pw) (x:Ins):(fxP reads works s x).st≠0:=by
 unfold fxP;split
 .show (2:Int)≠0;decide
 exact zXs _ _
theorem R6 (hk:k<nO t):(fxO t reads works k).st≠0↔(B8 t reads works (E5 t k) (opAt t k)).2=true:=by
 rw [X6 hk]
 split
 .rename_i h;simp [h,zhw]
 rename_i h;simp [h,fx0]
theorem Z0_ (hr : RLe t works reads reads') (hk : k < nO t) (h : (fxO t reads works k).st ≠ 0) :
    (fxO t reads works k).st=(fxO t reads' works k).st/\(fxO t reads works k).pr=(fxO t reads' works k).pr/\(fxO t reads works k).pl=(fxO t reads' works k).pl ∧
    (fxO t reads works k).vl=(fxO t reads' works k).vl/\(fxO t reads works k).ph=(fxO t reads' works k).ph/\le (fxO t reads works k).wr (fxO t reads' works k).wr:=by
  have h1:=(R6 hk).1 h
  obtain ⟨h2,h3⟩:=Zz_ hr _ h1
  rw [X6 hk,X6 hk,if_pos h1,if_pos h2]
  obtain ⟨p1,p2,p3,_⟩:=I5 hk
  exact h3.fx (hr.here p1 h1 p2)
theorem zhx (hr:RLe t works reads reads') (hk:k<nO t):le (fxO t reads works k).wr (fxO t reads' works k).wr:=by
 by_cases h:(fxO t reads works k).st≠0
 .exact (Z0_ hr hk h).2.2.2.2.2
 have h2:¬ (B8 t reads works (E5 t k) (opAt t k)).2=true:=fun hc=>h ((R6 hk).2 hc)
 rw [X6 hk,if_neg h2]
 intro hc;cases hc
theorem zal (ht:TG t) (hr:RLe t works reads reads') (hk:k<nO t) (h:(fxO t reads' works k).st≠0) (hp:∀ q,WX_ t reads' works k q->known t reads q):(fxO t reads works k).st≠0 :=
 (R6 hk).2 (Uv_ ht hr _ ((R6 hk).1 h) hp)
theorem WY_ (hk : k < nO t) (h : (fxO t reads works k).st = 1) : (B8 t reads works (E5 t k) (opAt t k)).2 = true ∧ ¬ 0 < (B8 t reads works (E5 t k) (opAt t k)).1.out ∧ ¬ ((opX t k).op = 14 ∧ works.getD k false = false) ∧
    fxO t reads works k=fxM (B8 t reads works (E5 t k) (opAt t k)).1.w (opX t k) (reads.getD k zV) (works.getD k false)/\(∀ q,P8 (fxO t reads works k).ph q=true↔WX_ t reads works k q):=by
  have h1:=(R6 hk).1 (by rw [h];decide)
  have e:=X6 (reads:=reads) (works:=works) hk
  rw [if_pos h1] at e
  have hkk:(B8 t reads works (E5 t k) (opAt t k)).1.k=k:=by rw [m6 h1];exact (I5 hk).2.2.1
  have ho:¬ 0<(B8 t reads works (E5 t k) (opAt t k)).1.out:=fun hc=>by
    rw [e] at h;unfold fxP at h;rw [if_pos hc] at h;cases h
  have e2:fxO t reads works k=fxM (B8 t reads works (E5 t k) (opAt t k)).1.w (opX t k) (reads.getD k zV) (works.getD k false):=by
    rw [e];unfold fxP;rw [if_neg ho,hkk]
  have h14:¬ ((opX t k).op=14/\works.getD k false=false):=fun hc=>by
    rw [e2] at h
    have:r6 (opX t k) (works.getD k false)=1:=h
    unfold r6 at this
    rw [if_pos hc] at this;cases this
  refine ⟨h1,ho,h14,e2,fun q=>?_⟩
  rw [e2]
  show P8 (if (opX t k).op=14/\works.getD k false=false then 0 else _) q=true↔_
  rw [if_neg h14];rfl
theorem WZ_ (ht:TG t) (hk:k<nO t) (hw:wrB (opX t k).op=true) (h:(fxO t reads works k).st=1) (hv:∀ q,P8 (fxO t reads works k).vl q=true->known t reads q) (ha:(opX t k).op=12->known t reads k):(fxO t reads works k).wr.k=true:=by
 obtain ⟨h1,ho,h14,e,_⟩:=WY_ hk h
 have hkin:=XL_ (works:=works) ht _ h1
 have hsome:(ZH_ (B8 t reads works (E5 t k) (opAt t k)).1.w (opX t k) (reads.getD k zV) (works.getD k false)).isSome=true:=by
  unfold ZH_
  split
  .rfl
  split
  .rfl
  rename_i n1 n2
  have h14':(opX t k).op=14:=by
   simp only [wrB,Bool.or_eq_true,decide_eq_true_eq] at hw
   omega
  rw [if_pos ⟨h14',by have:=fun hc=>h14 ⟨h14',hc⟩;simpa using this⟩];rfl
 rw [e] at hv ⊢
 have hv':∀ q,P8 (n7 (B8 t reads works (E5 t k) (opAt t k)).1.w (opX t k).aR (opX t k).aN) q=true->known t reads q:=fun q hq=>hv q (by
  show P8 (if _ then _ else _) q=true
  rw [if_pos hsome];exact hq)
 have harg:=hkin.arg hv'
 show ((ZH_ _ _ _ _).getD zV).k=true
 unfold ZH_ at hsome ⊢
 split
 .exact harg
 split
 .rename_i e12
  show (q7 _).k=true
  rw [zEt]
  show ((T3 _ _ _).k&&(reads.getD k zV).k)=true
  rw [harg,ha e12 (by simp [rdB,e12])];rfl
 split
 .exact harg
 rename_i n1 n2 n3;rw [if_neg n1,if_neg n2,if_neg n3] at hsome;cases hsome
end
def t7 (P:Nat->Prop) (m:Int):Prop:=∀ q,P8 m q=true->P q
structure Bt (P:Nat->Prop) (w:Wk):Prop where
 hangs:∀ x,t7 P (w.hangs x)
 path:t7 P w.path
theorem P7 {P:Nat->Prop}:t7 P 0:=fun q h=>by rw [s8] at h;cases h
theorem YN_ {P:Nat->Prop} {a b:Int} (ha:U64 a) (hb:U64 b) (h1:t7 P a) (h2:t7 P b):t7 P (o64 a b):=fun q h=>by
 rw [(M0 ha hb).2,Bool.or_eq_true] at h
 exact h.elim (h1 q) (h2 q)
section
variable {P:Nat->Prop} {w:Wk}
theorem Bt.arg (h:Bt P w) (b:Bool) (n:Int):t7 P (n7 w b n):=by
 unfold n7;split
 .exact h.hangs _
 exact P7
theorem Bt.set (h:Bt P w) (rd:Int) (v:Vl) {on:Int} (ho:t7 P on):Bt P (Wr_ w rd v on):=⟨fun x=>by
 show t7 P (if x=rd.toNat then on else w.hangs x)
 split
 .exact ho
 exact h.hangs x,h.path⟩
theorem Bt.up {Q:Nat->Prop} (h:Bt P w) (hpq:∀ q,P q->Q q):Bt Q w:=⟨fun x q hq=>hpq q (h.hangs x q hq),fun q hq=>hpq q (h.path q hq)⟩
theorem Bt.step {reads:List Vl} {works:List Bool} {i:Nat} {x:Ins} {s:Pw} (h:Bt P s.w) (hu:Wu s.w) (hk:J8 x=true->s.k<64) (hp:J8 x=true->¬ 0<s.out->r6 x (works.getD s.k false)=1->P s.k):Bt P (N8 reads works i x s).w:=by
 unfold N8
 split
 .exact ⟨h.hangs,h.path⟩
 rename_i ho
 split
 .rename_i hm
  have hb:r6 x (works.getD s.k false)=1->t7 P (y7 1 (s.k:Nat)):=fun hs q hq=>by
   rw [(S2 (hk hm)).2,decide_eq_true_eq] at hq
   subst hq;exact hp hm ho hs
  dsimp only
  unfold O1
  split
  .rename_i e;exact h.set _ _ (hb (by unfold r6;rw [if_neg (by omega)]))
  split
  .rename_i e
   have:=h.set x.rd (reads.getD s.k zV) (hb (by unfold r6;rw [if_neg (by omega)]))
   exact ⟨this.hangs,this.path⟩
  split
  .exact h
  split
  .rename_i e;exact h.set _ _ (hb (by unfold r6;rw [if_neg (by omega)]))
  split
  .unfold x7
   have h':Bt P { s.w with lr:=0 }:=⟨h.hangs,h.path⟩
   cases hw:works.getD s.k false
   .exact h'.set _ _ P7
   exact h'.set _ _ (hb (by unfold r6;rw [hw];simp))
  exact h
 split
 .exact ⟨h.hangs,YN_ hu.path (M0 (M7 hu _ _) (M7 hu _ _)).1 h.path (YN_ (M7 hu _ _) (M7 hu _ _) (h.arg _ _) (h.arg _ _))⟩
 dsimp only
 unfold H8
 split
 .exact h
 split
 .exact h.set _ _ P7
 exact h.set _ _ (YN_ (M7 hu _ _) (M7 hu _ _) (h.arg _ _) (h.arg _ _))
end
section
variable {t:Tst} {reads:List Vl} {works:List Bool} {i b:Nat}
theorem zMb {x:Ins} (hx:(lth t i)[b]?=some x) (hm:J8 x=true) {c:Nat} (hc:b<c):F8 t i b<F8 t i c:=by
 have h2:=r5 hx
 rw [hm] at h2
 simp only [if_true] at h2
 have h3:M8 ((lth t i).take (b+1))<=M8 ((lth t i).take c):=by
  unfold M8
  have:(lth t i).take (b+1)=((lth t i).take c).take (b+1):=by rw [take_take,Nat.min_eq_left hc]
  rw [this]
  exact List.Sublist.countP_le (take_sublist _ _)
 unfold F8;omega
theorem zBp (ht:TG t):∀ b,(B8 t reads works i b).2=true->Bt (fun q=>E5 t q=i/\opAt t q<b/\q<nO t/\(fxO t reads works q).st=1) (B8 t reads works i b).1.w
 | 0,_=>⟨fun x=>P7,P7⟩
 | b+1,h=>by
  have hp:=W0 h
  have ih:=(zBp ht b hp).up (Q:=fun q=>E5 t q=i/\opAt t q<b+1/\q<nO t/\(fxO t reads works q).st=1) fun q hq=>⟨hq.1,by omega,hq.2.2⟩
  by_cases hb:b<(lth t i).length
  .have hx:=List.getElem?_eq_getElem hb
   rw [E9 hx,if_pos hp]
   refine ih.step (s9 ht b hp) (fun hm=>(Vn_ ht hx hp hm).1) fun hm ho hs=>?_
   obtain ⟨a1,a2,a3,a4⟩:=J6 hx hm
   rw [m6 hp]
   refine ⟨a3,by rw [a4];omega,a1,?_⟩
   rw [X6 a1,a2,a3,a4,if_pos hp]
   unfold fxP
   rw [if_neg ho,m6 hp]
   rw [m6 hp] at hs
   exact hs
  rw [I0 hb];exact ih
theorem Z1_ (ht:TG t) {k:Nat} (hk:k<nO t) (h:(fxO t reads works k).st≠0) {q:Nat} (hq:WX_ t reads works k q):E5 t q=E5 t k/\opAt t q<opAt t k/\q<nO t/\(fxO t reads works q).st=1 :=
 (zBp ht _ ((R6 hk).1 h)).path q hq
theorem YO_ (ht:TG t) {k:Nat} (hk:k<nO t) (h:(fxO t reads works k).st=1) {q:Nat} (hq:P8 (fxO t reads works k).vl q=true):E5 t q=E5 t k/\opAt t q<opAt t k/\q<nO t/\(fxO t reads works q).st=1:=by
 obtain ⟨h1,ho,h14,e,_⟩:=WY_ hk h
 rw [e] at hq
 replace hq:P8 (if (ZH_ (B8 t reads works (E5 t k) (opAt t k)).1.w (opX t k) (reads.getD k zV) (works.getD k false)).isSome then n7 (B8 t reads works (E5 t k) (opAt t k)).1.w (opX t k).aR (opX t k).aN else 0) q=true:=hq
 split at hq
 .exact (zBp ht _ h1).arg _ _ q hq
 rw [s8] at hq;cases hq
theorem n5 {k q:Nat} (hk:k<nO t) (hq:q<nO t) (h:E5 t q=E5 t k):q<k↔opAt t q<opAt t k:=by
 obtain ⟨a1,a2,a3,_⟩:=I5 hk
 obtain ⟨b1,b2,b3,_⟩:=I5 hq
 constructor
 .intro hlt
  rcases Nat.lt_or_ge (opAt t q) (opAt t k) with h1|h1
  .exact h1
  rcases Nat.lt_or_eq_of_le h1 with h2|h2
  .have:=zMb a1 a2 h2
   rw [a3,<-h,b3] at this;omega
  rw [<-a3,<-b3,h,h2] at hlt;omega
 intro hlt
 rw [h] at b1
 have:=zMb b1 b2 hlt
 rw [a3,<-h,b3] at this;exact this
theorem Uw_ (ht:TG t) {k q:Nat} (hk:k<nO t) (hq:q<nO t) (h:E5 t q=E5 t k) (hle:opAt t q<=opAt t k) (hs:(fxO t reads works k).st≠0) {p:Nat} (hp:WX_ t reads works q p):WX_ t reads works k p:=by
 unfold WX_ at hp ⊢
 rw [h] at hp
 exact zMa ht hle ((R6 hk).1 hs) hp
theorem zam {k q:Nat} (hk:k<nO t) (hq:q<nO t) (h:E5 t q=E5 t k) (hle:opAt t q<=opAt t k) (hs:(fxO t reads works k).st≠0):(fxO t reads works q).st≠0:=by
 rw [R6 hq,h]
 exact zBo hle ((R6 hk).1 hs)
end
theorem Ja_ {α:Type} {p q:α->Bool}:∀ {l:List α},(∀ a∈l,p a=true->q a=true)->(∃ a∈l,p a=false/\q a=true)->l.countP p<l.countP q
 | [],_,⟨a,h,_⟩=>by cases h
 | x::l,h,⟨a,ha,h1,h2⟩=>by
  have hl:l.countP p<=l.countP q:=countP_mono_left fun b hb=>h b (.tail _ hb)
  rw [countP_cons,countP_cons]
  rcases List.mem_cons.1 ha with rfl|ha
  .rw [h1,h2];simp;omega
  have:=Ja_ (l:=l) (fun b hb=>h b (.tail _ hb)) ⟨a,ha,h1,h2⟩
  have h3:=h x (.head _)
  by_cases hp:p x=true
  .rw [hp,h3 hp];simp;omega
  rw [if_neg hp];omega
def FLe (n:Nat) (f g:Nat->Fx):Prop:=∀ k,k<n->((f k).st≠0->(g k).st=(f k).st)/\le (f k).wr (g k).wr
theorem Jb_ {t:Tst} {reads reads':List Vl} {works:List Bool} (hr:RLe t works reads reads'):FLe (nO t) (fxO t reads works) (fxO t reads' works):=fun k hk =>
 ⟨fun h=>(Z0_ hr hk h).1.symm,zhx hr hk⟩
structure Nx (t:Tst) where
 N:(Nat->Fx)->Nat->Vl
 mono:∀ f g,FLe (nO t) f g->∀ k,k<nO t->le (N f k) (N g k)
def itR (t:Tst) (w:List Bool) (N:Nx t):Nat->List Vl
 | 0=>List.replicate (nO t) zV
 | j+1=>tab (nO t) (N.N (fxO t (itR t w N j) w))
theorem Ux_ {α:Type} {n i:Nat} {f:Nat->α} {d:α} (h:n<=i):(tab n f).getD i d=d:=by rw [List.getD,List.getElem?_eq_none (by rw [U8];exact h)];rfl
theorem zEu {n i:Nat} {d:Vl}:(List.replicate n d).getD i d=d:=by
 rw [List.getD,List.getElem?_replicate];split<;>rfl
section
variable {t:Tst} {w:List Bool} {N:Nx t}
theorem XM_:∀ j q,le ((itR t w N j).getD q zV) ((itR t w N (j+1)).getD q zV)
 | 0,q=>by
  show le ((List.replicate (nO t) zV).getD q zV) _
  rw [zEu];intro h;cases h
 | j+1,q=>by
  by_cases hq:q<nO t
  .show le ((tab (nO t) (N.N (fxO t (itR t w N j) w))).getD q zV) ((tab (nO t) (N.N (fxO t (itR t w N (j+1)) w))).getD q zV)
   rw [L8 hq,L8 hq]
   exact N.mono _ _ (Jb_ (RLe.of (XM_ j))) q hq
  show le ((tab (nO t) _).getD q zV) _
  rw [Ux_ (by omega)];intro h;cases h
theorem znu {a b c:Vl} (h:le a b) (h':le b c):le a c:=fun hk=>by
 have e:=h hk
 rw [e];exact h' (by rw [<-e];exact hk)
theorem zMc (i j:Nat) (h:i<=j) (q:Nat):le ((itR t w N i).getD q zV) ((itR t w N j).getD q zV):=by
 induction j with
 | zero=>rw [Nat.le_zero.1 h];exact le_refl _
 | succ j ih =>
  by_cases e:i=j+1
  .rw [e];exact le_refl _
  exact znu (ih (by omega)) (XM_ j q)
def knC (l:List Vl) (n:Nat):Nat:=(List.range n).countP fun q=>(l.getD q zV).k
theorem Vo_ (q:Nat):le ((itR t w N (nO t+1)).getD q zV) ((itR t w N (nO t)).getD q zV):=by
 have back:∀ j,(∀ q,le ((itR t w N (j+1)).getD q zV) ((itR t w N j).getD q zV))->∀ q,le ((itR t w N (j+2)).getD q zV) ((itR t w N (j+1)).getD q zV):=fun j h q=>by
  by_cases hq:q<nO t
  .show le ((tab (nO t) (N.N (fxO t (itR t w N (j+1)) w))).getD q zV) ((tab (nO t) (N.N (fxO t (itR t w N j) w))).getD q zV)
   rw [L8 hq,L8 hq]
   exact N.mono _ _ (Jb_ (RLe.of h)) q hq
  show le ((tab (nO t) _).getD q zV) _
  rw [Ux_ (by omega)];intro h;cases h
 have key:∀ j,(∀ q,le ((itR t w N (j+1)).getD q zV) ((itR t w N j).getD q zV))\/j+1<=knC (itR t w N (j+1)) (nO t):=fun j=>by
  induction j with
  | zero =>
   rcases Classical.em (∀ q,le ((itR t w N 1).getD q zV) ((itR t w N 0).getD q zV)) with h|h
   .exact .inl h
   right
   obtain ⟨q,hq⟩:=Classical.not_forall.1 h
   have hk:((itR t w N 1).getD q zV).k=true:=Classical.byContradiction fun hc=>hq fun h=>absurd h hc
   have hq2:q<nO t:=Classical.byContradiction fun hc=>by
    have:((itR t w N 1).getD q zV)=zV:=Ux_ (by omega)
    rw [this] at hk;cases hk
   exact List.countP_pos_iff.2 ⟨q,List.mem_range.2 hq2,hk⟩
  | succ j ih =>
   rcases Classical.em (∀ q,le ((itR t w N (j+2)).getD q zV) ((itR t w N (j+1)).getD q zV)) with h|h
   .exact .inl h
   right
   rcases ih with ih|ih
   .exact absurd (back j ih) h
   obtain ⟨q,hq⟩:=Classical.not_forall.1 h
   have hk:((itR t w N (j+2)).getD q zV).k=true:=Classical.byContradiction fun hc=>hq fun h=>absurd h hc
   have hk2:((itR t w N (j+1)).getD q zV).k=false:=by
    cases h2:((itR t w N (j+1)).getD q zV).k with
    | false=>rfl
    | true=>exact absurd (fun _=>(XM_ (j+1) q h2).symm) hq
   have hq2:q<nO t:=Classical.byContradiction fun hc=>by
    have:((itR t w N (j+2)).getD q zV)=zV:=Ux_ (by omega)
    rw [this] at hk;cases hk
   have:knC (itR t w N (j+1)) (nO t)<knC (itR t w N (j+1+1)) (nO t):=Ja_ (fun a _ ha=>by rw [<-XM_ (j+1) a ha];exact ha) ⟨q,List.mem_range.2 hq2,hk2,hk⟩
   omega
 rcases key (nO t) with h|h
 .exact h q
 have:knC (itR t w N (nO t+1)) (nO t)<=nO t:=by
  have:=countP_le_length (l:=List.range (nO t)) (p:=fun q=>((itR t w N (nO t+1)).getD q zV).k)
  rwa [length_range] at this
 omega
end
structure Alike (t:Tst) (reads reads':List Vl) (works works':List Bool):Prop where
 rd:∀ q,q<nO t->rdB (opX t q).op=true->(fxO t reads works q).st=1->reads.getD q zV=reads'.getD q zV
 wk:∀ i b x,(lth t i)[b]?=some x->J8 x=true->x.op=14->(B8 t reads works i b).2=true->¬ 0<(B8 t reads works i b).1.out->works.getD (F8 t i b) false=works'.getD (F8 t i b) false
theorem zan {w:Wk} {x:Ins} {k:Nat} {a b:Vl} {wk:Bool} (h:rdB x.op=true->a=b):O1 w x k a wk=O1 w x k b wk:=by
 by_cases hr:rdB x.op=true
 .rw [h hr]
 have:¬ x.op=9/\¬ x.op=13/\¬ (x.op=11\/x.op=12):=by
  simp only [rdB,Bool.or_eq_true,decide_eq_true_eq] at hr;omega
 unfold O1
 rw [if_neg this.1,if_neg this.2.1,if_neg this.1,if_neg this.2.1]
 split
 .rfl
 rw [if_neg this.2.2,if_neg this.2.2]
theorem zao {w:Wk} {x:Ins} {k:Nat} {a:Vl} {u v:Bool} (h:x.op=14->u=v):O1 w x k a u=O1 w x k a v:=by
 by_cases e:x.op=14
 .rw [h e]
 unfold O1
 simp only [if_neg e]
theorem zap {w:Wk} {x:Ins} {a:Vl} {u v:Bool} (h:x.op=14->u=v):ZH_ w x a u=ZH_ w x a v:=by
 by_cases e:x.op=14
 .rw [h e]
 unfold ZH_
 simp only [e,false_and]
theorem zhy {w:Wk} {x:Ins} {a b:Vl} {u v:Bool} (hr:rdB x.op=true->r6 x u=1->a=b) (hw:x.op=14->u=v):fxM w x a u=fxM w x b v:=by
 have e1:r6 x u=r6 x v:=by
  by_cases e:x.op=14
  .rw [hw e]
  unfold r6;simp only [e,false_and]
 have e2:ZH_ w x a u=ZH_ w x b v:=by
  by_cases e:x.op=14
  .have h12:¬ x.op=12:=by omega
   unfold ZH_
   rw [hw e]
   simp only [h12,if_false]
  rw [zap hw]
  by_cases h12:x.op=12
  .rw [hr (by simp [rdB,h12]) (by unfold r6;rw [if_neg (by omega)])]
  unfold ZH_;simp only [h12,if_false]
 unfold fxM
 rw [e1,e2]
 by_cases e:x.op=14
 .rw [hw e]
 simp only [e,false_and]
section
variable {t:Tst} {reads reads':List Vl} {works works':List Bool}
theorem Alike.pre (h:Alike t reads reads' works works') {i:Nat}:∀ b,B8 t reads works i b=B8 t reads' works' i b
 | 0=>rfl
 | b+1=>by
  by_cases hb:b<(lth t i).length
  .have hx:=List.getElem?_eq_getElem hb
   have ih:=h.pre (i:=i) b
   rw [E9 hx,E9 (reads:=reads') hx,<-ih]
   by_cases hp:(B8 t reads works i b).2=true
   .rw [if_pos hp,if_pos hp]
    congr 1
    unfold N8
    split
    .rfl
    rename_i ho
    split
    .rename_i hm
     obtain ⟨a1,a2,a3⟩:=JY_ hx hm hp ho
     obtain ⟨b1,b2,_⟩:=J6 hx hm
     rw [a2]
     have hw:(lth t i)[b].op=14->works.getD (F8 t i b) false=works'.getD (F8 t i b) false:=fun e=>h.wk i b _ hx hm e hp ho
     rw [zao hw]
     congr 1
     refine zan fun hr=>h.rd _ a1 (by rw [b2];exact hr) ?_
     rw [a3];unfold r6;rw [if_neg fun e=>by simp [rdB,e.1] at hr]
    rfl
   rw [if_neg hp,if_neg hp]
  rw [I0 hb,I0 hb];exact h.pre b
theorem Alike.fx (h:Alike t reads reads' works works') {k:Nat} (hk:k<nO t):fxO t reads works k=fxO t reads' works' k:=by
 rw [X6 hk,X6 hk,<-h.pre]
 by_cases hp:(B8 t reads works (E5 t k) (opAt t k)).2=true
 .rw [if_pos hp,if_pos hp]
  obtain ⟨p1,p2,p3,_⟩:=I5 hk
  have hkk:(B8 t reads works (E5 t k) (opAt t k)).1.k=k:=by rw [m6 hp];exact p3
  unfold fxP
  split
  .rfl
  rename_i ho
  obtain ⟨a1,a2,a3⟩:=JY_ p1 p2 hp ho
  rw [p3] at a3
  rw [hkk]
  refine zhy (fun hr hs=>h.rd k hk hr (a3.trans hs)) fun e=>?_
  have:=h.wk _ _ _ p1 p2 e hp ho
  rwa [p3] at this
 rw [if_neg hp,if_neg hp]
theorem zhz {n:Nat} {f g:Fl} (hf:FlOk n f) (hg:FlOk n g) (h:∀ k,k<n->n4 f k=n4 g k):f=g:=by
 have key:∀ {α:Type} {l m:List α} (d:α),l.length=n->m.length=n->(∀ k,k<n->l.getD k d=m.getD k d)->l=m:=fun {α l m} d hl hm he=>by
  apply ext_getElem (by omega)
  intro i h1 h2
  have:=he i (by omega)
  simpa [List.getD,List.getElem?_eq_getElem h1,List.getElem?_eq_getElem h2] using this
 obtain ⟨a1,a2,a3,a4,a5,a6⟩:=hf
 obtain ⟨b1,b2,b3,b4,b5,b6⟩:=hg
 have hh:=fun k hk=>Fx.mk.inj (h k hk)
 cases f;cases g
 simp only [Fl.mk.injEq]
 exact ⟨key 0 a1 b1 fun k hk=>(hh k hk).1,key zV a2 b2 fun k hk=>(hh k hk).2.1,key 0 a3 b3 fun k hk=>(hh k hk).2.2.1,key 0 a4 b4 fun k hk=>(hh k hk).2.2.2.1,key 0 a5 b5 fun k hk=>(hh k hk).2.2.2.2.1,key 0 a6 b6 fun k hk=>(hh k hk).2.2.2.2.2⟩
theorem zaq (t:Tst):nO t=Z3_ t:=Zg_ 0 t.ths
theorem Q9 (t:Tst) (reads:List Vl) (works:List Bool):FlOk (nO t) (D5 t reads works).f:=by
 rw [zaq]
 have:∀ (ls:List (List Ins)) (s:Os'),FlOk (Z3_ t) s.f->FlOk (Z3_ t) (X2_ reads works ls s).f:=fun ls=>by
  induction ls with
  | nil=>exact fun s h=>h
  | cons l r ih=>exact fun s h=>ih _ (XC_ h)
 exact this _ _ (zAt _)
theorem zTz (ls:List (List Ins)):∀ s:Os',(X2_ reads works ls s).k=s.k+(ls.map M8).sum:=by
 induction ls with
 | nil=>intro s;rfl
 | cons l r ih=>intro s;rw [X2_,ih];show s.k+M8 l+_=_;simp;omega
theorem Alike.eq (h:Alike t reads reads' works works'):D5 t reads works=D5 t reads' works':=by
 have e1:(D5 t reads works).f=(D5 t reads' works').f:=zhz (Q9 _ _ _) (Q9 _ _ _) fun k hk=>h.fx hk
 have l1:=w8 t reads works
 have l2:=w8 t reads' works'
 have e2:(D5 t reads works).left=(D5 t reads' works').left:=by
  apply List.ext_getElem? ;intro i
  by_cases hi:i<t.ths.length
  .rw [(V9 t reads works hi).2,(V9 t reads' works' hi).2,h.pre]
  rw [List.getElem?_eq_none (by omega),List.getElem?_eq_none (by omega)]
 have e3:(D5 t reads works).regs=(D5 t reads' works').regs:=by
  apply List.ext_getElem? ;intro i
  by_cases hi:i<t.ths.length
  .rw [(V9 t reads works hi).1,(V9 t reads' works' hi).1,h.pre]
  rw [List.getElem?_eq_none (by omega),List.getElem?_eq_none (by omega)]
 have e4:(D5 t reads works).whole=(D5 t reads' works').whole:=by
  rw [Bool.eq_iff_iff,e8,e8]
  simp only [h.pre]
 have e5:(D5 t reads works).k=(D5 t reads' works').k:=by unfold D5;rw [zTz,zTz]
 generalize D5 t reads works=a at *
 generalize D5 t reads' works'=b at *
 cases a;cases b
 simp only at e1 e2 e3 e4 e5
 subst e1 e2 e3 e4 e5;rfl
end
def poA (t:Tst) (a b:Nat):Bool:=decide (E5 t a=E5 t b)&&decide (a<b)
def Vp_ (t:Tst) (pos:Nat->Nat) (k i:Nat):Bool:=!decide (i=k)&&(wrB (opX t i).op&&(decide ((opX t i).loc=(opX t k).loc)&&(!decide (pos k<pos i)||poA t i k)))
def M1 (t:Tst) (pos:Nat->Nat) (f:Nat->Fx) (k:Nat):Nat->Nat
 | 0=>0
 | m+1=>if Vp_ t pos k m&&(decide ((f m).st=1)&&(decide (M1 t pos f k m=0)||decide (pos (M1 t pos f k m-1)<pos m))) then m+1 else M1 t pos f k m
def zGn (t:Tst) (pos:Nat->Nat) (f:Nat->Fx) (k:Nat):Bool:=(List.range (nO t)).all fun i=>!(Vp_ t pos k i&&decide ((f i).st=0))
def zi0 (t:Tst) (k:Nat):Vl:=⟨true,(t.locs.getD (opX t k).loc.toNat ⟨ByteArray.empty,0⟩).v⟩
def nxO (t:Tst) (pos:Nat->Nat) (f:Nat->Fx) (k:Nat):Vl :=
 if rdB (opX t k).op&&zGn t pos f k then (if M1 t pos f k (nO t)=0 then zi0 t k else (f (M1 t pos f k (nO t)-1)).wr) else zV
section
variable {t:Tst} {pos:Nat->Nat} {f g:Nat->Fx} {k:Nat}
theorem H5 : ∀ m, (M1 t pos f k m = 0 → ∀ i, i < m → ¬ (Vp_ t pos k i = true ∧ (f i).st = 1)) ∧
    (M1 t pos f k m≠0->M1 t pos f k m-1<m/\Vp_ t pos k (M1 t pos f k m-1)=true/\(f (M1 t pos f k m-1)).st=1/\∀ i,i<m->Vp_ t pos k i=true->(f i).st=1->pos i<=pos (M1 t pos f k m-1))
  | 0=>⟨fun _ i h=>absurd h (Nat.not_lt_zero _),fun h=>absurd rfl h⟩
  | m+1=>by
    obtain ⟨h1,h2⟩:=H5 m
    unfold M1
    by_cases hc:(Vp_ t pos k m&&(decide ((f m).st=1)&&(decide (M1 t pos f k m=0)||decide (pos (M1 t pos f k m-1)<pos m))))=true
    . rw [if_pos hc]
      simp only [Bool.and_eq_true,Bool.or_eq_true,decide_eq_true_eq] at hc
      obtain ⟨c1,c2,c3⟩:=hc
      refine ⟨fun h=>absurd h (by omega),fun _=>⟨by omega,c1,c2,fun i hi a1 a2=>?_⟩⟩
      show pos i<=pos m
      by_cases e:i=m
      . subst e;exact Nat.le_refl _
      rcases c3 with c3|c3
      . exact absurd ⟨a1,a2⟩ (h1 c3 i (by omega))
      by_cases e0:M1 t pos f k m=0
      . exact absurd ⟨a1,a2⟩ (h1 e0 i (by omega))
      have:=(h2 e0).2.2.2 i (by omega) a1 a2
      omega
    rw [if_neg hc]
    simp only [Bool.and_eq_true,Bool.or_eq_true,decide_eq_true_eq] at hc
    refine ⟨fun h i hi a=>?_,fun h=>?_⟩
    . by_cases e:i=m
      . subst e;exact hc ⟨a.1,a.2,.inl h⟩
      exact h1 h i (by omega) a
    obtain ⟨a1,a2,a3,a4⟩:=h2 h
    refine ⟨by omega,a2,a3,fun i hi b1 b2=>?_⟩
    by_cases e:i=m
    . subst e
      rcases Nat.lt_or_ge (pos (M1 t pos f k i-1)) (pos i) with h5|h5
      . exact absurd ⟨b1,b2,.inr h5⟩ hc
      exact h5
    exact a4 i (by omega) b1 b2
theorem XN_:zGn t pos f k=true↔∀ i,i<nO t->Vp_ t pos k i=true->(f i).st≠0:=by
 unfold zGn
 simp only [all_eq_true,mem_range,Bool.not_eq_true',Bool.and_eq_false_iff,decide_eq_false_iff_not]
 constructor
 .intro h i hi hc e
  rcases h i hi with h|h
  .rw [hc] at h;cases h
  exact h e
 intro h i hi
 by_cases hc:Vp_ t pos k i=true
 .exact .inr (h i hi hc)
 left;simpa using hc
theorem zMd:∀ m,M1 t pos f k m<=m
 | 0=>Nat.le_refl _
 | m+1=>by unfold M1;have:=zMd m;split<;>omega
theorem Vq_ (h:∀ i,i<nO t->Vp_ t pos k i=true->((f i).st=1↔(g i).st=1)):∀ m,m<=nO t->M1 t pos f k m=M1 t pos g k m
 | 0,_=>rfl
 | m+1,hm=>by
  have ih:=Vq_ h m (by omega)
  unfold M1
  rw [ih]
  by_cases hc:Vp_ t pos k m=true
  .have e:decide ((f m).st=1)=decide ((g m).st=1):=by
    rw [Bool.eq_iff_iff,decide_eq_true_eq,decide_eq_true_eq];exact h m (by omega) hc
   rw [e]
  rw [Bool.not_eq_true] at hc
  rw [hc];rfl
theorem zEv (h:FLe (nO t) f g) (hd:zGn t pos f k=true):zGn t pos g k=true/\M1 t pos f k (nO t)=M1 t pos g k (nO t):=by
 rw [XN_] at hd
 refine ⟨XN_.2 fun i hi hc=>?_,Vq_ (fun i hi hc=>?_) _ (Nat.le_refl _)⟩
 .rw [(h i hi).1 (hd i hi hc)];exact hd i hi hc
 rw [(h i hi).1 (hd i hi hc)]
theorem zRm (h:FLe (nO t) f g):le (nxO t pos f k) (nxO t pos g k):=by
 unfold nxO
 by_cases hc:(rdB (opX t k).op&&zGn t pos f k)=true
 .obtain ⟨c1,c2⟩:=Bool.and_eq_true_iff.1 hc
  obtain ⟨d1,d2⟩:=zEv h c2
  rw [if_pos hc,if_pos (show (rdB (opX t k).op&&zGn t pos g k)=true by rw [c1,d1];rfl),d2]
  split
  .exact le_refl _
  rename_i hn
  have:=zMd (t:=t) (pos:=pos) (f:=g) (k:=k) (nO t)
  exact (h _ (by omega)).2
 rw [if_neg hc]
 intro hk;cases hk
end
def nxN (t:Tst) (pos:Nat->Nat):Nx t:=⟨nxO t pos,fun _ _ h _ _=>zRm h⟩
def Jc_ (t:Tst) (w:List Bool) (pos:Nat->Nat):List Vl:=itR t w (nxN t pos) (nO t)
def flO (t:Tst) (w:List Bool) (pos:Nat->Nat):Os':=D5 t (Jc_ t w pos) w
def G9 (t:Tst) (w:List Bool) (pos:Nat->Nat):Nat->Fx:=fxO t (Jc_ t w pos) w
def frK (t:Tst) (pos:Nat->Nat) (f:Nat->Fx) (k:Nat):Int:=if rdB (opX t k).op&&decide ((f k).st=1) then (M1 t pos f k (nO t):Int)-1 else -1
def frO (t:Tst) (w:List Bool) (pos:Nat->Nat):List Int:=tab (nO t) (frK t pos (G9 t w pos))
def csO (t:Tst) (w:List Bool) (pos:Nat->Nat):Cs:=⟨t,flO t w pos,frO t w pos⟩
def zar (t:Tst) (w:List Bool) (pos:Nat->Nat) (k:Nat):Option Nat:=if M1 t pos (G9 t w pos) ((G9 t w pos k).pr-1).toNat (nO t)=0 then none else some (pos (M1 t pos (G9 t w pos) ((G9 t w pos k).pr-1).toNat (nO t)-1))
def zk3 (t:Tst) (w:List Bool) (pos:Nat->Nat) (k:Nat):Prop :=
 (opX t k).op=14->(G9 t w pos k).st=1->(G9 t w pos k).pr≠0 ∧
  (∀ p,zar t w pos k=some p->p<=pos k) ∧
  ∀ i,i<nO t->wrB (opX t i).op=true->(G9 t w pos i).st=1->(opX t i).loc=(opX t k).loc->E5 t i≠E5 t k->(∀ p,zar t w pos k=some p->p<pos i)->¬ pos i<pos k
structure OrdE (ord:Cs->Rl) (t:Tst) (w:List Bool) (pos:Nat->Nat):Prop where
 inj:∀ a b,a<nO t->b<nO t->pos a=pos b->a=b
 whole:(flO t w pos).whole=true
 kept:∀ a b,a<nO t->b<nO t->ord (csO t w pos) a b=true->pos a<pos b
 par:∀ k,k<nO t->zk3 t w pos k
def XO_ (t:Tst) (pos:Nat->Nat) (f:Nat->Fx) (loc:Nat):Nat->Nat
 | 0=>0
 | m+1=>if wrB (opX t m).op&&(decide ((opX t m).loc=(loc:Nat))&&(decide ((f m).st=1)&&(decide (XO_ t pos f loc m=0)||decide (pos (XO_ t pos f loc m-1)<pos m)))) then m+1 else XO_ t pos f loc m
def zi1 (t:Tst) (w:List Bool) (pos:Nat->Nat) (loc:Nat):Int:=if XO_ t pos (G9 t w pos) loc (nO t)=0 then (t.locs.getD loc ⟨ByteArray.empty,0⟩).v else ((G9 t w pos) (XO_ t pos (G9 t w pos) loc (nO t)-1)).wr.v
def Yi_ (t:Tst) (w:List Bool) (pos:Nat->Nat):List Int:=T4 t (Ws_ (csO t w pos)) fun i=>if i<t.locs.length then zi1 t w pos i else 0
structure OrdOk (t:Tst) (ord:Cs->Rl):Prop where
 po:∀ c:Cs,c.t=t->FlOk c.n c.f.f->∀ a b,ord c a b=true->poP c a b=true
 loc:∀ c:Cs,c.t=t->FlOk c.n c.f.f->∀ a b,poP c a b=true->(c.x a).loc=(c.x b).loc->c.wr b=true->ord c a b=true
 path:∀ c:Cs,c.t=t->FlOk c.n c.f.f->∀ a b,poP c a b=true->c.wr b=true->P8 (c.f.f.path.getD b 0) a=true->ord c a b=true
 vl:∀ c:Cs,c.t=t->FlOk c.n c.f.f->∀ a b,poP c a b=true->c.wr b=true->P8 (c.f.f.value.getD b 0) a=true->ord c a b=true
 inn:∀ c:Cs,c.t=t->FlOk c.n c.f.f->∀ a m b,poP c a m=true->poP c m b=true->c.rd a=true->c.wr m=true->c.rd b=true->c.fr.getD b (-1)=(m:Nat)->P8 (c.f.f.value.getD m 0) a=true->ord c a b=true
 amo:∀ c:Cs,c.t=t->FlOk c.n c.f.f->∀ m b,poP c m b=true->(c.x m).op=12->c.rd b=true->c.fr.getD b (-1)=(m:Nat)->ord c m b=true
section
variable {t:Tst} {w:List Bool} {reads:List Vl}
def Jx_ (t:Tst) (reads:List Vl) (w:List Bool) (pos:Nat->Nat) (k:Nat):Nat :=
 (List.range (nO t)).foldr (fun q m=>if q=k\/(rdB (opX t q).op=true/\P8 (B8 t reads w (E5 t k) (opAt t k)).1.w.path q=true) then Nat.max (pos q) m else m) 0
theorem zEw {P:Nat->Prop} [DecidablePred P] {pos:Nat->Nat} {B:Nat}:∀ {l:List Nat},l.foldr (fun q m=>if P q then Nat.max (pos q) m else m) 0<=B↔∀ q∈l,P q->pos q<=B
 | []=>by simp
 | a::l=>by
  have ih:=zEw (P:=P) (pos:=pos) (B:=B) (l:=l)
  rw [foldr_cons]
  by_cases h:P a
  .rw [if_pos h]
   constructor
   .intro hm q hq hp
    rcases List.mem_cons.1 hq with rfl|hq
    .exact Nat.le_trans (Nat.le_max_left _ _) hm
    exact ih.1 (Nat.le_trans (Nat.le_max_right _ _) hm) q hq hp
   intro hh
   exact Nat.max_le.2 ⟨hh a (.head _) h,ih.2 fun q hq hp=>hh q (.tail _ hq) hp⟩
  rw [if_neg h,ih]
  constructor
  .intro hh q hq hp
   rcases List.mem_cons.1 hq with rfl|hq
   .exact absurd hp h
   exact hh q hq hp
  exact fun hh q hq hp=>hh q (.tail _ hq) hp
variable {pos:Nat->Nat}
theorem zEx {k B:Nat} (hk:k<nO t):Jx_ t reads w pos k<=B↔pos k<=B/\∀ q,q<nO t->rdB (opX t q).op=true->WX_ t reads w k q->pos q<=B:=by
 unfold Jx_
 rw [zEw (P:=fun q=>q=k\/(rdB (opX t q).op=true/\P8 (B8 t reads w (E5 t k) (opAt t k)).1.w.path q=true))]
 constructor
 .intro h
  exact ⟨h k (List.mem_range.2 hk) (.inl rfl),fun q hq h1 h2=>h q (List.mem_range.2 hq) (.inr ⟨h1,h2⟩)⟩
 rintro ⟨h1,h2⟩ q hq (rfl|h3)
 .exact h1
 exact h2 q (List.mem_range.1 hq) h3.1 h3.2
theorem Uy_ {k:Nat} (hk:k<nO t):pos k<=Jx_ t reads w pos k:=((zEx hk).1 (Nat.le_refl _)).1
theorem zEy {k q:Nat} (hk:k<nO t) (hq:q<nO t) (hr:rdB (opX t q).op=true) (hp:WX_ t reads w k q):pos q<=Jx_ t reads w pos k:=((zEx hk).1 (Nat.le_refl _)).2 q hq hr hp
def Wv_ (t:Tst) (reads:List Vl) (w:List Bool) (pos:Nat->Nat) (k:Nat):Nat:=Jx_ t reads w pos k*(nO t+1)+k
theorem zi2 {q k:Nat} (hq:q<nO t) (h:Jx_ t reads w pos q<Jx_ t reads w pos k):Wv_ t reads w pos q<Wv_ t reads w pos k:=by
 unfold Wv_
 have:(Jx_ t reads w pos q+1)*(nO t+1)<=Jx_ t reads w pos k*(nO t+1):=Nat.mul_le_mul_right _ h
 rw [Nat.add_mul] at this
 omega
theorem zi3 {q k:Nat} (h:Jx_ t reads w pos q<=Jx_ t reads w pos k) (hlt:q<k):Wv_ t reads w pos q<Wv_ t reads w pos k:=by
 unfold Wv_
 have:Jx_ t reads w pos q*(nO t+1)<=Jx_ t reads w pos k*(nO t+1):=Nat.mul_le_mul_right _ h
 omega
abbrev csR (t:Tst) (reads:List Vl) (w:List Bool) (fr:List Int):Cs:=⟨t,D5 t reads w,fr⟩
theorem YP_ {fr:List Int} {k:Nat}:(csR t reads w fr).run k=true↔(fxO t reads w k).st=1:=decide_eq_true_iff
theorem zEz {fr:List Int} {k:Nat}:(csR t reads w fr).rd k=true↔(fxO t reads w k).st=1/\rdB (opX t k).op=true:=by
 show ((csR t reads w fr).run k&&rdB (opX t k).op)=true↔_
 rw [Bool.and_eq_true,YP_]
theorem Jd_ {fr:List Int} {k:Nat}:(csR t reads w fr).wr k=true↔(fxO t reads w k).st=1/\wrB (opX t k).op=true:=by
 show ((csR t reads w fr).run k&&wrB (opX t k).op)=true↔_
 rw [Bool.and_eq_true,YP_]
theorem Wa_ {fr:List Int} {a b:Nat}:poP (csR t reads w fr) a b=true↔a<b/\b<nO t/\E5 t a=E5 t b/\(fxO t reads w a).st=1/\(fxO t reads w b).st=1:=by
 show (decide (a<b)&&decide (b<nO t)&&decide (E5 t a=E5 t b)&&((csR t reads w fr).run a&&(csR t reads w fr).run b))=true↔_
 simp only [Bool.and_eq_true,decide_eq_true_eq,YP_]
 constructor
 .rintro ⟨⟨⟨h1,h2⟩,h3⟩,h4,h5⟩;exact ⟨h1,h2,h3,h4,h5⟩
 rintro ⟨h1,h2,h3,h4,h5⟩;exact ⟨⟨⟨h1,h2⟩,h3⟩,h4,h5⟩
theorem run_lt {k:Nat} (h:(fxO t reads w k).st=1):k<nO t:=Classical.byContradiction fun hc=>by
 have:=(Q9 t reads w).l1
 have e:(fxO t reads w k).st=0:=by
  show (D5 t reads w).f.state.getD k 0=0
  rw [List.getD,List.getElem?_eq_none (by omega)];rfl
 rw [e] at h;cases h
variable {ord:Cs->Rl} {fr:List Int}
def zc8 (t:Tst) (ord:Cs->Rl) (reads:List Vl) (w:List Bool) (fr:List Int) (pos:Nat->Nat):Prop:=∀ a b,a<nO t->b<nO t->ord (csR t reads w fr) a b=true->pos a<pos b
theorem zF0 (ht:TG t) (ho:OrdOk t ord) (hp:zc8 t ord reads w fr pos) {i q:Nat} (hi:(fxO t reads w i).st=1) (hw:wrB (opX t i).op=true) (hq:WX_ t reads w i q):pos q<pos i:=by
 have hn:=run_lt hi
 obtain ⟨h1,h2,h3,h4⟩:=Z1_ ht hn (by omega) hq
 have hlt:=(n5 hn h3 h1).2 h2
 exact hp q i h3 hn (ho.path (csR t reads w fr) rfl (Q9 t reads w) q i (Wa_.2 ⟨hlt,hn,h1,h4,hi⟩) (Jd_.2 ⟨hi,hw⟩) (((WY_ hn hi).2.2.2.2 q).2 hq))
theorem zi4 (ht:TG t) (ho:OrdOk t ord) (hp:zc8 t ord reads w fr pos) {i q:Nat} (hi:(fxO t reads w i).st=1) (hw:wrB (opX t i).op=true) (hq:P8 (fxO t reads w i).vl q=true):pos q<pos i:=by
 have hn:=run_lt hi
 obtain ⟨h1,h2,h3,h4⟩:=YO_ ht hn hi hq
 have hlt:=(n5 hn h3 h1).2 h2
 exact hp q i h3 hn (ho.vl (csR t reads w fr) rfl (Q9 t reads w) q i (Wa_.2 ⟨hlt,hn,h1,h4,hi⟩) (Jd_.2 ⟨hi,hw⟩) hq)
theorem zMe (ht:TG t) {k q:Nat} (hk:k<nO t) (hq:q<nO t) (hth:E5 t q=E5 t k) (hlt:q<k) (hs:(fxO t reads w k).st≠0) (hpos:pos q<=Jx_ t reads w pos k):Wv_ t reads w pos q<Wv_ t reads w pos k :=
 zi3 ((zEx hq).2 ⟨hpos,fun p hp hr hpp=>zEy hk hp hr (Uw_ ht hk hq hth (Nat.le_of_lt ((n5 hk hq hth).1 hlt)) hs hpp)⟩) hlt
theorem Wb_ (ht : TG t) (ho : OrdOk t ord) (hp : zc8 t ord reads w fr pos) {i k q : Nat} (hi : (fxO t reads w i).st = 1) (hw : wrB (opX t i).op = true) (hk : k < nO t) (hik : pos i < pos k)
    (hq:WX_ t reads w i q\/P8 (fxO t reads w i).vl q=true\/q=i):Wv_ t reads w pos q<Wv_ t reads w pos k:=by
  have hn:=run_lt hi
  have hfacts:q<nO t/\E5 t q=E5 t i/\opAt t q<=opAt t i/\pos q<=pos i:=by
    rcases hq with hq|hq|rfl
    . have:=Z1_ ht hn (by omega) hq
      exact ⟨this.2.2.1,this.1,Nat.le_of_lt this.2.1,Nat.le_of_lt (zF0 ht ho hp hi hw hq)⟩
    . have:=YO_ ht hn hi hq
      exact ⟨this.2.2.1,this.1,Nat.le_of_lt this.2.1,Nat.le_of_lt (zi4 ht ho hp hi hw hq)⟩
    exact ⟨hn,rfl,Nat.le_refl _,Nat.le_refl _⟩
  obtain ⟨f1,f2,f3,f4⟩:=hfacts
  have h1:Jx_ t reads w pos q<=pos i:=(zEx f1).2 ⟨f4,fun p hp' hr hpp=>Nat.le_of_lt (zF0 ht ho hp hi hw (Uw_ ht hn f1 f2 f3 (by omega) hpp))⟩
  have h2:pos k<=Jx_ t reads w pos k:=Uy_ hk
  exact zi2 f1 (by omega)
theorem zMf (ht : TG t) (ho : OrdOk t ord) (hp : zc8 t ord reads w fr pos) {i k q : Nat} (hi : (fxO t reads w i).st = 1) (hw : wrB (opX t i).op = true) (hk : (fxO t reads w k).st = 1) (hr : rdB (opX t k).op = true) (hth : E5 t i = E5 t k) (hik : i < k)
    (hfr:fr.getD k (-1)=(i:Nat)) (hq:(rdB (opX t q).op=true/\P8 (fxO t reads w i).vl q=true)\/(q=i/\(opX t i).op=12)):Wv_ t reads w pos q<Wv_ t reads w pos k:=by
  have hn:=run_lt hi
  have hkn:=run_lt hk
  have hpo:poP (csR t reads w fr) i k=true:=Wa_.2 ⟨hik,hkn,hth,hi,hk⟩
  rcases hq with ⟨hq1,hq⟩|⟨rfl,h12⟩
  . obtain ⟨a1,a2,a3,a4⟩:=YO_ ht hn hi hq
    have hlt:=(n5 hn a3 a1).2 a2
    have h5:=hp q k a3 hkn (ho.inn (csR t reads w fr) rfl (Q9 t reads w) q i k (Wa_.2 ⟨hlt,hn,a1,a4,hi⟩) hpo (zEz.2 ⟨a4,hq1⟩) (Jd_.2 ⟨hi,hw⟩) (zEz.2 ⟨hk,hr⟩) hfr hq)
    exact zMe ht hkn a3 (a1.trans hth) (by omega) (by omega) (Nat.le_trans (Nat.le_of_lt h5) (Uy_ hkn))
  have h5:=hp q k hn hkn (ho.amo (csR t reads w fr) rfl (Q9 t reads w) q k hpo h12 (zEz.2 ⟨hk,hr⟩) hfr)
  exact zMe ht hkn hn hth hik (by omega) (Nat.le_trans (Nat.le_of_lt h5) (Uy_ hkn))
theorem zi5 (ht:TG t) {i k q:Nat} (hi:i<nO t) (hk:(fxO t reads w k).st=1) (hth:E5 t i=E5 t k) (hik:i<k) (hr:rdB (opX t q).op=true) (hq:WX_ t reads w i q):Wv_ t reads w pos q<Wv_ t reads w pos k:=by
 have hkn:=run_lt hk
 have hs:=zam hkn hi hth (Nat.le_of_lt ((n5 hkn hi hth).1 hik)) (by omega:(fxO t reads w k).st≠0)
 have hqk:=Uw_ ht hkn hi hth (Nat.le_of_lt ((n5 hkn hi hth).1 hik)) (by omega) hq
 obtain ⟨a1,a2,a3,a4⟩:=Z1_ ht hi hs hq
 have hlt:=(n5 hi a3 a1).2 a2
 exact zMe ht hkn a3 (a1.trans hth) (by omega) (by omega) (zEy hkn a3 hr hqk)
end
theorem zRn {α:Type} {d:α} {n:Nat} {l m:List α} (hl:l.length=n) (hm:m.length=n) (h:∀ k,k<n->l.getD k d=m.getD k d):l=m:=by
 apply ext_getElem (by omega)
 intro i h1 h2
 have:=h i (by omega)
 simpa [List.getD,List.getElem?_eq_getElem h1,List.getElem?_eq_getElem h2] using this
theorem zBq {t : Tst} {v : List Bool} : ∀ (f k : Nat) (v0 : List Bool), v0.length = nO t → k + f = nO t → (∀ q, k ≤ q → v0.getD q false = false) →
    (v∈zB1 t f k v0↔v.length=nO t/\(∀ q,q<k->v.getD q false=v0.getD q false)/\∀ q,k<=q->v.getD q false=true->(opX t q).op=14)
  | 0,k,v0,hl,hk,h0=>by
    unfold zB1
    rw [mem_singleton]
    constructor
    . rintro rfl
      exact ⟨hl,fun _ _=>rfl,fun q hq h=>by rw [h0 q hq] at h;cases h⟩
    rintro ⟨h1,h2,_⟩
    exact zRn h1 hl fun q hq=>h2 q (by omega)
  | f+1,k,v0,hl,hk,h0=>by
    have iA:=zBq (v:=v) f (k+1) v0 hl (by omega) fun q hq=>h0 q (by omega)
    have iB:=zBq (v:=v) f (k+1) (v0.set k true) (by rw [length_set];exact hl) (by omega) fun q hq=>by rw [P4,if_neg (by omega)];exact h0 q (by omega)
    unfold zB1
    rw [mem_append,iA]
    have hB:v∈(if (opX t k).op=14 then zB1 t f (k+1) (v0.set k true) else [])↔(opX t k).op=14/\v∈zB1 t f (k+1) (v0.set k true):=by
      split
      . rename_i h;simp [h]
      rename_i h;simp [h]
    rw [hB,iB]
    constructor
    . rintro (⟨h1,h2,h3⟩|⟨h4,h1,h2,h3⟩)
      . refine ⟨h1,fun q hq=>h2 q (by omega),fun q hq h=>?_⟩
        by_cases e:q=k
        . rw [h2 q (by omega),h0 q hq] at h;cases h
        exact h3 q (by omega) h
      refine ⟨h1,fun q hq=>?_,fun q hq h=>?_⟩
      . rw [h2 q (by omega),P4,if_neg (by omega)]
      by_cases e:q=k
      . rw [e];exact h4
      exact h3 q (by omega) h
    rintro ⟨h1,h2,h3⟩
    by_cases hv:v.getD k false=true
    . right
      refine ⟨h3 k (Nat.le_refl _) hv,h1,fun q hq=>?_,fun q hq=>h3 q (by omega)⟩
      rw [P4]
      by_cases e:q=k
      . rw [if_pos ⟨e,by omega⟩,e,hv]
      rw [if_neg (by omega)];exact h2 q (by omega)
    left
    refine ⟨h1,fun q hq=>?_,fun q hq=>h3 q (by omega)⟩
    by_cases e:q=k
    . rw [e,h0 k (Nat.le_refl _)];simpa using hv
    exact h2 q (by omega)
theorem zBr {t:Tst} {v:List Int}:∀ (f k:Nat) (p:List Int),v∈W2_ t f k p↔∃ s,v=p++s/\s.length=f/\∀ q,q<f->s.getD q 0∈Yt_ t (k+q)
 | 0,k,p=>by
  unfold W2_
  rw [mem_singleton]
  constructor
  .rintro rfl;exact ⟨[],by simp,rfl,fun q hq=>absurd hq (Nat.not_lt_zero _)⟩
  rintro ⟨s,rfl,hs,_⟩
  rw [List.length_eq_zero_iff.1 hs,append_nil]
 | f+1,k,p=>by
  unfold W2_
  rw [mem_flatMap]
  constructor
  .rintro ⟨i,hi,h⟩
   obtain ⟨s,rfl,hs,h2⟩:=(zBr f (k+1) (p++[i])).1 h
   refine ⟨i::s,by simp,by simp [hs],fun q hq=>?_⟩
   cases q with
   | zero=>simpa using hi
   | succ q =>
    have:=h2 q (by omega)
    rw [getD_cons_succ,show k+(q+1)=k+1+q by omega];exact this
  rintro ⟨s,rfl,hs,h2⟩
  cases s with
  | nil=>cases hs
  | cons i s =>
   refine ⟨i,by simpa using h2 0 (by omega),(zBr f (k+1) (p++[i])).2 ⟨s,by simp,by simpa using hs,fun q hq=>?_⟩⟩
   have:=h2 (q+1) (by omega)
   rw [getD_cons_succ,show k+(q+1)=k+1+q by omega] at this;exact this
theorem zas {t:Tst} {v:List Int}:v∈W2_ t (nO t) 0 []↔v.length=nO t/\∀ q,q<nO t->v.getD q 0∈Yt_ t q:=by
 rw [zBr]
 constructor
 .rintro ⟨s,rfl,hs,h⟩
  exact ⟨by simpa using hs,fun q hq=>by have:=h q hq;rw [Nat.zero_add] at this;simpa using this⟩
 rintro ⟨h1,h2⟩
 exact ⟨v,by simp,h1,fun q hq=>by rw [Nat.zero_add];exact h2 q hq⟩
theorem zMg {t:Tst} {k:Nat} {i:Int}:i∈Yt_ t k↔i=-1\/rdB (opX t k).op=true/\∃ m:Nat,i=m/\m<nO t/\zGy t k m=true:=by
 unfold Yt_
 split
 .rename_i h
  unfold Jv_
  simp only [mem_cons,mem_map,List.mem_filter,mem_range,h,true_and]
  constructor
  .rintro (h1|⟨m,⟨h2,h3⟩,rfl⟩)
   .exact .inl h1
   exact .inr ⟨m,rfl,h2,h3⟩
  rintro (h1|⟨m,rfl,h2,h3⟩)
  .exact .inl h1
  exact .inr ⟨m,⟨h2,h3⟩,rfl⟩
 rename_i h
 simp [h]
theorem YQ_ {α:Type}:∀ {l:List α} {i:Nat} (h:i<l.length),(l[i]::l.eraseIdx i).Perm l
 | x::l,0,h=>by simp
 | x::l,i+1,h=>by
  have:=YQ_ (l:=l) (i:=i) (by simpa using h)
  simp only [getElem_cons_succ,eraseIdx_cons_succ]
  exact (List.Perm.swap _ _ _).trans (this.cons x)
theorem zBs {q:List Nat}:∀ (f:Nat) (a l:List Nat),l.length=f->(q∈zKb f a l↔∃ p,p.Perm l/\q=a++p)
 | 0,a,l,h=>by
  rw [List.length_eq_zero_iff.1 h]
  unfold zKb
  rw [mem_singleton]
  constructor
  .rintro rfl;exact ⟨[],.refl _,by simp⟩
  rintro ⟨p,hp,rfl⟩
  rw [hp.eq_nil,append_nil]
 | f+1,a,l,h=>by
  unfold zKb
  simp only [mem_flatMap,mem_range]
  constructor
  .rintro ⟨i,hi,hq⟩
   obtain ⟨p,hp,rfl⟩:=(zBs f _ _ (by rw [length_eraseIdx_of_lt hi];omega)).1 hq
   have e:l.getD i 0=l[i]:=by rw [List.getD,List.getElem?_eq_getElem hi];rfl
   rw [e]
   exact ⟨l[i]::p,(hp.cons _).trans (YQ_ hi),by simp⟩
  rintro ⟨p,hp,rfl⟩
  cases p with
  | nil=>have:=hp.length_eq;rw [h] at this;cases this
  | cons x p =>
   obtain ⟨i,hi,hx⟩:=List.mem_iff_getElem.1 (hp.mem_iff.1 (mem_cons_self ..))
   have e:l.getD i 0=x:=by rw [List.getD,List.getElem?_eq_getElem hi];exact hx
   refine ⟨i,hi,(zBs f _ _ (by rw [length_eraseIdx_of_lt hi];omega)).2 ⟨p,?_,by rw [e];simp⟩⟩
   have h2:=YQ_ hi
   rw [hx] at h2
   exact (hp.trans h2.symm).cons_inv
theorem zMh {q l:List Nat}:q∈zKb l.length [] l↔q.Perm l:=by
 rw [zBs _ _ _ rfl]
 constructor
 .rintro ⟨p,hp,rfl⟩;simpa using hp
 intro h;exact ⟨q,h,by simp⟩
theorem zMi (pos:Nat->Nat):∀ (l:List Nat),l.Nodup->(∀ a∈l,∀ b∈l,pos a=pos b->a=b)->∃ p:List Nat,p.Perm l/\p.Pairwise fun a b=>pos a<pos b
 | [],_,_=>⟨[],.refl _,.nil⟩
 | x::l,hn,hi=>by
  obtain ⟨hx,hl⟩:=List.nodup_cons.1 hn
  obtain ⟨p,hp,hs⟩:=zMi pos l hl fun a ha b hb=>hi a (.tail _ ha) b (.tail _ hb)
  refine ⟨p.filter (fun a=>decide (pos a<pos x))++x::p.filter (fun a=>!decide (pos a<pos x)),?_,?_⟩
  .refine List.perm_middle.trans (List.Perm.cons x (List.Perm.trans ?_ hp))
   exact filter_append_perm _ _
  rw [pairwise_append]
  refine ⟨hs.sublist filter_sublist,List.pairwise_cons.2 ⟨fun b hb=>?_,hs.sublist filter_sublist⟩,fun a ha b hb=>?_⟩
  .obtain ⟨h1,h2⟩:=List.mem_filter.1 hb
   have h3:¬ pos b<pos x:=by simpa using h2
   have hbl:=hp.mem_iff.1 h1
   have:pos b≠pos x:=fun e=>hx (hi b (.tail _ hbl) x (.head _) e▸hbl)
   omega
  obtain ⟨h1,h2⟩:=List.mem_filter.1 ha
  have h3:pos a<pos x:=by simpa using h2
  rcases List.mem_cons.1 hb with rfl|hb
  .exact h3
  have h4:¬ pos b<pos x:=by simpa using (List.mem_filter.1 hb).2
  omega
theorem zBt {p:List Nat} {a b:Nat}:UZ_ p a b=true↔∃ u v x,p=u++a::v/\b∈v/\x=0:=by
 induction p with
 | nil=>simp [UZ_]
 | cons y p ih =>
  unfold UZ_
  rw [Bool.or_eq_true,ih,Bool.and_eq_true,decide_eq_true_eq,decide_eq_true_eq]
  constructor
  .rintro (⟨rfl,h⟩|⟨u,v,x,rfl,h,e⟩)
   .exact ⟨[],p,0,rfl,h,rfl⟩
   exact ⟨y::u,v,x,rfl,h,e⟩
  rintro ⟨u,v,x,h,hb,e⟩
  cases u with
  | nil =>
   simp only [nil_append,List.cons.injEq] at h
   obtain ⟨rfl,rfl⟩:=h
   exact .inl ⟨rfl,hb⟩
  | cons z u =>
   simp only [cons_append,List.cons.injEq] at h
   obtain ⟨rfl,rfl⟩:=h
   exact .inr ⟨u,v,x,rfl,hb,e⟩
theorem zi6 {p:List Nat} {a b:Nat} (h:UZ_ p a b=true):a∈p/\b∈p:=by
 obtain ⟨u,v,x,rfl,hb,_⟩:=zBt.1 h
 exact ⟨by simp,by simp [hb]⟩
theorem zat {p:List Nat} {a b:Nat} (ha:a∈p) (hb:b∈p) (hne:a≠b):UZ_ p a b=true\/UZ_ p b a=true:=by
 induction p with
 | nil=>cases ha
 | cons y p ih =>
  simp only [UZ_,Bool.or_eq_true,Bool.and_eq_true,decide_eq_true_eq]
  rcases List.mem_cons.1 ha with e1|ha2
  .rcases List.mem_cons.1 hb with e2|hb2
   .exact absurd (e1.trans e2.symm) hne
   exact .inl (.inl ⟨e1.symm,hb2⟩)
  rcases List.mem_cons.1 hb with e2|hb2
  .exact .inr (.inl ⟨e2.symm,ha2⟩)
  exact (ih ha2 hb2).imp .inr .inr
theorem Vr_ {pos:Nat->Nat} {p:List Nat} (hs:p.Pairwise fun a b=>pos a<pos b) {a b:Nat}:UZ_ p a b=true↔a∈p/\b∈p/\pos a<pos b:=by
 constructor
 .intro h
  obtain ⟨h1,h2⟩:=zi6 h
  refine ⟨h1,h2,?_⟩
  obtain ⟨u,v,x,rfl,hb,_⟩:=zBt.1 h
  exact (List.pairwise_cons.1 (List.pairwise_append.1 hs).2.1).1 b hb
 rintro ⟨h1,h2,h3⟩
 rcases zat h1 h2 (fun e=>by rw [e] at h3;omega) with h|h
 .exact h
 exfalso
 obtain ⟨u,v,x,rfl,hb,_⟩:=zBt.1 h
 have:=(List.pairwise_cons.1 (List.pairwise_append.1 hs).2.1).1 a hb
 omega
def zMj:Nat->List (List Nat)->List Int->List Int
 | _,[],l=>l
 | loc,p::r,l=>zMj (loc+1) r (zB2 l loc p)
theorem zBu {c : Cs} {las : List Int} {co : Rl} : ∀ (f loc : Nat) (l : List Int) (co0 : Rl), (las, co) ∈ zNl c f loc l co0 ↔
    ∃ ps:List (List Nat),ps.length=f/\(∀ i,i<f->(ps.getD i []).Perm (j6 c (loc+i) c.n))/\las=zMj loc ps l/\co=fun a b=>co0 a b||ps.any fun p=>UZ_ p a b
  | 0,loc,l,co0=>by
    unfold zNl
    rw [mem_singleton]
    constructor
    . intro h
      obtain ⟨rfl,rfl⟩:=Prod.mk.inj h
      exact ⟨[],rfl,fun i hi=>absurd hi (Nat.not_lt_zero _),rfl,by funext a b;simp⟩
    rintro ⟨ps,hp,_,rfl,rfl⟩
    rw [List.length_eq_zero_iff.1 hp]
    congr 1
    funext a b;simp
  | f+1,loc,l,co0=>by
    unfold zNl
    rw [mem_flatMap]
    constructor
    . rintro ⟨p,hp,h⟩
      obtain ⟨ps,h1,h2,rfl,rfl⟩:=(zBu f (loc+1) _ _).1 h
      refine ⟨p::ps,by simp [h1],fun i hi=>?_,rfl,?_⟩
      . cases i with
        | zero=>exact zMh.1 hp
        | succ i=>rw [getD_cons_succ,show loc+(i+1)=loc+1+i by omega];exact h2 i (by omega)
      funext a b;simp [Bool.or_assoc]
    rintro ⟨ps,hp,h2,rfl,rfl⟩
    cases ps with
    | nil=>cases hp
    | cons p ps =>
      refine ⟨p,zMh.2 (by simpa using h2 0 (by omega)),(zBu f (loc+1) _ _).2 ⟨ps,by simpa using hp,fun i hi=>?_,rfl,?_⟩⟩
      . have:=h2 (i+1) (by omega)
        rw [getD_cons_succ,show loc+(i+1)=loc+1+i by omega] at this;exact this
      funext a b;simp [Bool.or_assoc]
theorem zRo (l:List Int) (loc:Nat) (p:List Nat):(zB2 l loc p).length=l.length:=by unfold zB2;split<;>simp
theorem zMk:∀ (ps:List (List Nat)) (loc:Nat) (l:List Int) (i:Nat),loc+ps.length<=l.length->(zMj loc ps l).getD i 0=if loc<=i/\i<loc+ps.length then (match (ps.getD (i-loc) []).getLast? with|none=>l.getD i 0|some k=>(k:Int)+1) else l.getD i 0
 | [],loc,l,i,_=>by unfold zMj;rw [if_neg (by intro h;have:=h.2;simp at this;omega)]
 | p::r,loc,l,i,h=>by
  have h':loc+(r.length+1)<=l.length:=by simpa using h
  unfold zMj
  rw [zMk r (loc+1) _ i (by rw [zRo];omega),length_cons]
  have hT:(zB2 l loc p).getD i 0=if i=loc then (match p.getLast? with|none=>l.getD i 0|some k=>(k:Int)+1) else l.getD i 0:=by
   unfold zB2
   cases p.getLast? with
   | none=>simp
   | some k =>
    dsimp only
    rw [P4]
    by_cases e:i=loc
    .rw [if_pos ⟨e,by omega⟩,if_pos e]
    rw [if_neg (by omega),if_neg e]
  by_cases e:i=loc
  .subst e
   rw [if_neg (by omega),if_pos (by omega),hT,if_pos rfl,Nat.sub_self]
   first|rfl|simp
  by_cases hc:loc+1<=i/\i<loc+1+r.length
  .rw [if_pos hc,if_pos (by omega),hT,if_neg e]
   obtain ⟨m,hm⟩:∃ m,i-loc=m+1:=⟨i-loc-1,by omega⟩
   rw [hm,getD_cons_succ,show i-(loc+1)=m by omega]
  rw [if_neg hc,if_neg (by omega),hT,if_neg e]
theorem k8 {c:Cs} {loc k:Nat}:k∈j6 c loc c.n↔k<c.n/\c.wr k=true/\(c.x k).loc=(loc:Nat):=by
 unfold j6
 simp [List.mem_filter,and_assoc]
theorem zMl {c:Cs} {loc m:Nat}:(j6 c loc m).Nodup:=List.Pairwise.sublist filter_sublist nodup_range
theorem zF1 {p:Rl} {pos:Nat->Nat} (h:∀ a b,p a b=true->pos a<pos b):∀ (n a b:Nat),wN p n a b=true->pos a<pos b
 | 0,a,b,hw=>h a b hw
 | n+1,a,b,hw=>by
  simp only [wN,Bool.or_eq_true,Bool.and_eq_true] at hw
  rcases hw with hw|⟨h1,h2⟩
  .exact zF1 h n a b hw
  have:=zF1 h n a n h1
  have:=zF1 h n n b h2
  omega
theorem zMm {p:Rl} {pos:Nat->Nat} (h:∀ a b,p a b=true->pos a<pos b):Zc_ p=false:=by
 cases hl:Zc_ p with
 | false=>rfl
 | true =>
  unfold Zc_ at hl
  obtain ⟨a,_,ha⟩:=G2.1 hl
  have:=zF1 h 16 a a ha
  omega
theorem zRp {p:Rl}:zGz p=true↔∃ a b,a<16/\b<16/\p a b=true:=by
 unfold zGz
 rw [G2]
 constructor
 .rintro ⟨a,ha,h⟩
  obtain ⟨b,hb,h⟩:=G2.1 h
  exact ⟨a,b,ha,hb,h⟩
 rintro ⟨a,b,ha,hb,h⟩
 exact ⟨a,ha,G2.2 ⟨b,hb,h⟩⟩
end Go.Proofs.YtmpbalepefpllaaGreat
