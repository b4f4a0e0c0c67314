/- Texts put together, in order: Goutc, Goutb, W42, W43, W44, W45, W20, W21, W22, W62, W63, W64, W65, W66, Goutd, Goute, Goutf, Gtsoa, Gtsob, Gtsoc, Gtsod, Gtsoe, Gtsof, Gtsog, Gtsoh, Gtsoi, W41, W46, W47, Gtsoj, Gtsok, Gtsol, Gtsom, Gtson, Gppoa, Gppob. -/
import Derived.Test.YtmpbalepefpllaaGreatB5
open List
set_option maxRecDepth 100000
set_option maxHeartbeats 16000000
set_option linter.unusedVariables false
set_option linter.unusedSimpArgs false
namespace Go.Proofs.YtmpbalepefpllaaGreat
open Go Go.Sl Go.Proofs.Tryz
theorem Zj_:∀ (n:Nat) {d:List Nat},d.Nodup->(∀ i∈d,i<n)->d.length<=n
 | 0,d,_,h=>by cases d with|nil=>simp|cons x d=>exact absurd (h x (.head _)) (by omega)
 | n+1,d,hd,h=>by
  have h1:=Zj_ n (hd.erase n) fun i hi=>by
   have h2:=h i (mem_of_mem_erase hi)
   have h3:i≠n:=fun e=>by subst e;exact (hd.not_mem_erase) hi
   omega
  have h4:d.length<=(d.erase n).length+1:=by
   by_cases hm:n∈d
   .rw [length_erase_of_mem hm];omega
   rw [erase_of_not_mem hm];omega
  omega
def pk (l:List (List Int)) (d:List Nat):List (List Int):=d.map fun i=>l.getD i []
@[simp] theorem zJ9 (l:List (List Int)) (d:List Nat):(pk l d).length=d.length:=length_map ..
theorem zJa (l:List (List Int)) (d:List Nat) (i:Nat):pk l (d++[i])=pk l d++[l.getD i []]:=by simp [pk]
theorem zF4 (a b:List (List Int)):stR (a++b)=stR a++stR b:=map_append ..
theorem zW1 (a:List Int):stR [a]=[.agg (stK a)]:=rfl
theorem zCw {x:List Int}:∀ {l:List (List Int)},x∉l->(zFo x l).length=l.length+1
 | [],_=>rfl
 | y::l,h=>by
  unfold zFo
  split
  .rfl
  split
  .rename_i e;exact absurd (e▸.head _) h
  rw [length_cons,zCw fun hm=>h (.tail _ hm),length_cons]
theorem Zk_:∀ {l:List (List Int)},l.Nodup->(J4 l).length=l.length
 | [],_=>rfl
 | x::l,h=>by
  have h':=List.nodup_cons.1 h
  rw [show J4 (x::l)=zFo x (J4 l) from rfl,zCw fun hm=>h'.1 (mem_setOf.1 hm),Zk_ h'.2,length_cons]
theorem YB_ (q:List Int):∀ x∈stK q,x.one=true:=by
 intro x hx
 cases q with
 | nil=>cases hx
 | cons n r =>
  rw [stK] at hx
  cases hx with
  | head=>rfl
  | tail _ h=>obtain ⟨m,_,rfl⟩:=List.mem_map.1 h;rfl
theorem zF5 (l:List (List Int)):stR (pk l [])=[]:=rfl
theorem zQs {l:List (List Int)} {d:List Nat} (hd:∀ i∈d,i<l.length) {q:List Int} (h:q∈pk l d):q∈l:=by
 obtain ⟨i,hi,rfl⟩:=List.mem_map.1 h
 have:=hd i hi
 simp [List.getD,this]
theorem zdh {l:List (List Int)} {d:List Nat} (h:∀ i,i<l.length->i∈d) {q:List Int} (hq:q∈l):q∈pk l d:=by
 obtain ⟨i,hi,rfl⟩:=List.mem_iff_getElem.1 hq
 exact List.mem_map.2 ⟨i,h i hi,by simp [List.getD,hi]⟩
theorem UE_ {l:List (List Int)} (hl:l.Nodup):∀ {d:List Nat},(∀ i∈d,i<l.length)->d.Nodup->(pk l d).Nodup
 | [],_,_=>nodup_nil
 | i::d,hd,hn=>by
  have hn':=List.nodup_cons.1 hn
  rw [pk,map_cons,nodup_cons]
  refine ⟨fun h=>?_,UE_ hl (fun j hj=>hd j (.tail _ hj)) hn'.2⟩
  obtain ⟨j,hj,e⟩:=List.mem_map.1 h
  have h1:=hd i (.head _)
  have h2:=hd j (.tail _ hj)
  simp only [List.getD,List.getElem?_eq_getElem h1,List.getElem?_eq_getElem h2,Option.getD_some] at e
  rw [getElem_inj hl] at e
  exact hn'.1 (e▸hj)
theorem zJb {l:List (List Int)} {i:Nat} {p:V × V} (h:(M4 l)[i]?=some p):∃ q,l[i]?=some q/\p=(.agg (stK q),bV true):=by
 rw [M4,List.getElem?_map] at h
 cases hq:l[i]? with
 | none=>rw [hq] at h;cases h
 | some q=>rw [hq] at h;exact ⟨q,rfl,(Option.some.inj h).symm⟩
theorem of_fn (l:List (List Int)) (h41:∀ q∈l,q.length=41) (hn:l.Nodup) (hl:l.length<=400000000000) (n k:Nat) (hnk:n<k):Sl.Fn Tryz.prog 49 [.map n] [(n,.map (M4 l))] k fun v H _=>v=.ro 41 (stR (J4 l))/\H=[]:=by
 refine Fn.view ?_
 have g52:¬ n=k/\¬ k=n/\¬ n=k+1/\¬ k+1=n:=by and_intros<;>omega
 refine B7 T_ok func49 rfl rfl ntmps49 rfl (by simp) ?_
 refine rG ?_
 refine rG ?_
 refine A3 fun K1 hK1=>?_
 refine rG ?_ fun K h=>by simp [go_sem,g52];exact h
 apply A0
 refine Tr.weaken (Weaker.ghost 3 41 rfl) ?_
 refine A9 (α:=List Nat × Nat) (fun a=>⟨18,[(0,.map n),(6,.ptr k 0 0),(3,.sl a.2 0 a.1.length)],[(n,.map (M4 l)),(k,.iter n a.1 l.length),(a.2,.rows 41 (stR (pk l a.1)))],a.2+1⟩) (fun a=>a.1.Nodup/\(∀ i∈a.1,i<l.length)/\k<a.2) (fun a=>l.length-a.1.length) ([],k+1) ?_ ?_ ?_
 .exact ⟨nodup_nil,by simp,Nat.lt_succ_self k⟩
 .refine Weaker.fw 1 0 ?_ ?_<;>simp [go_sem,g52,Y1,zF5]
 rintro ⟨d,j⟩ ⟨hd,hdl,hkj⟩
 dsimp only at hd hdl hkj ⊢
 have g53:¬ n=k/\¬ k=n/\¬ n=j/\¬ j=n/\¬ k=j/\¬ j=k/\¬ n=j+1/\¬ j+1=n/\¬ n=j+2/\¬ j+2=n/\¬ n=j+3/\¬ j+3=n/\¬ n=j+4/\¬ j+4=n/\¬ k=j+1/\¬ j+1=k/\¬ k=j+2/\¬ j+2=k/\¬ k=j+3/\¬ j+3=k/\¬ k=j+4/\¬ j+4=k:=by and_intros<;>omega
 refine QI_ ?_
 refine zNr rfl rfl rfl (by decide) k n l.length d (M4 l) (by simp [go_sem,Y1,g53]) (by simp [go_sem,Y1,g53]) (by simp [go_sem,Y1,g53]) (by simp [go_sem,Y1,g53]) ?_ ?_
 .intro hall
  refine J1_ T_ok (by decide) fun K hK=>?_
  simp [go_sem]
  apply hK
  refine A3 fun K2 hK2=>?_
  refine cK (fun h=>?_) fun h=>?_
  .simp at h
  simp at h
  apply A6
  apply hK1
  refine rK fun K hK=>?_
  have hdn:=Zj_ _ hd hdl
  simp [go_sem,g53]
  have hs:=zAe (pk l d) (fun q hq=>h41 q (zQs hdl hq)) (UE_ hn hdl hd) (by simp;omega) j (j+1)
  rw [zJ9] at hs
  have hso:J4 (pk l d)=J4 l:=zA0 fun x=>⟨zQs hdl,zdh hall⟩
  rw [hso] at hs
  refine D5 hs rfl (by simp) (by simp [go_sem,g53]) fun k' hk'=>?_
  simp [go_sem,W1_,g53]
  apply hK
  refine rG ?_
  refine A4 ?_
  simp [go_sem]
  exact ⟨_,_,(View.freezeAll (sz:=41) (es:=stR (J4 l)) (by simp [go_sem,g53]) (by rw [UD_,<-hso,Zk_ (UE_ hn hdl hd),zJ9])).trans (View.nil _),rfl,rfl⟩
 intro i p hp hi
 obtain ⟨q,hq,rfl⟩:=zJb hp
 have hil:i<l.length:=(List.getElem?_eq_some_iff.1 hq).1
 have hd2:(d++[i]).Nodup:=List.nodup_append.2 ⟨hd,by simp,by intro a ha b hb;simp at hb;subst hb;exact fun e=>hi (e▸ha)⟩
 have hdl2:∀ x∈d++[i],x<l.length:=by intro x hx;rcases List.mem_append.1 hx with h|h;exact hdl x h;simp at h;omega
 have hdn:=Zj_ _ hd hdl
 have hql:(stK q).length=41:=(W4 q).trans (h41 q (List.mem_of_getElem? hq))
 have hqo:∀ x∈stK q,x.one=true:=YB_ q
 have hqt:List.take 41 (stK q)=stK q:=take_of_length_le (by omega)
 have hst:List.take d.length (stR (pk l d))=stR (pk l d):=take_of_length_le (by simp [UD_])
 refine J1_ T_ok (by decide) fun K hK=>?_
 simp [go_sem]
 apply hK
 refine A3 fun K3 hK3=>?_
 refine cJ (fun h=>?_) fun h=>?_
 .simp at h
 simp at h
 apply A1
 apply hK3
 apply A0
 refine rK fun K hK=>?_
 simp [go_sem,hp,hq,Y1,hql,hqo,g53]
 refine ⟨hqo,?_⟩
 apply hK
 refine rE fun K hK=>?_
 simp [go_sem,g53,hql,hqo,hqt,hst,UD_,zJ9]
 refine ⟨hqo,by omega,?_⟩
 apply hK
 refine ⟨(d++[i],j+3),?_,?_,?_⟩
 .exact ⟨hd2,hdl2,by omega⟩
 .have:=Zj_ _ hd2 hdl2;simp at this;simp;omega
 refine Weaker.fw 1 0 ?_ ?_
 .simp [go_sem,g53]
 simp [go_sem,zJa,zF4,zW1,hq,g53]
theorem zOh (t:Tst) (ht:t.ths.length<=1000) (hl:∀ x∈t.ths,x.length<=1000) (hr:∀ l∈t.ths,∀ x∈l,Xb_ x.op=true->0<=x.rd/\x.rd<8) (hlo:t.locs.length<=1000):Pf Tryz.prog 52 [.rp t.cs 0] (.ro 2 (Vy_ (S0 t))):=by
 refine Pf.of_fz 1 (.cons (u6 t) .nil) (zd5 _) ?_
 refine B7 T_ok func52 rfl rfl ntmps52 rfl (by simp) ?_
 refine rG ?_
 refine rG ?_
 refine A3 fun K1 hK1=>?_
 refine rG ?_ fun K h=>by simp [go_sem,Tst.cs];exact h
 apply A0
 refine Tr.weaken (Weaker.ghost 3 2 rfl) ?_
 refine A9 (α:=Nat × Nat × Nat) (fun a=>⟨47,[(0,.rp t.cs 0),(11,.ro 1 (N3 t.ths)),(12,iV (t.ths.length:Nat)),(13,iV (a.1:Nat)),(3,.sl a.2.1 0 (slO t.ths a.1).length)],[(a.2.1,.rows 2 (Vy_ (slO t.ths a.1)))],a.2.1+a.2.2+1⟩) (fun a=>a.1<=t.ths.length) (fun a=>t.ths.length-a.1) (0,0,0) ?_ ?_ ?_
 .dsimp only;omega
 .refine Weaker.fw 1 0 ?_ ?_
  .simp [go_sem,zCj,Tst.cs]
  simp [go_sem,zCj,zO7]
 rintro ⟨i,r,c⟩ hi
 dsimp only at hi ⊢
 refine rG ?_
 refine A3 fun K2 hK2=>?_
 refine cJ (fun h=>?_) fun h=>?_
 .simp at h
  obtain rfl:i=t.ths.length:=by omega
  apply A6
  apply hK1
  refine A3 fun K6 hK6=>?_
  refine rG ?_ fun K h=>by simp [go_sem,Tst.cs];exact h
  apply A0
  refine A9 (α:=Nat × Nat × Nat) (fun a=>⟨47,[(0,.rp t.cs 0),(36,iV (t.locs.length:Nat)),(37,iV (a.1:Nat)),(3,.sl a.2.1 0 (slQ t a.1).length)],[(a.2.1,.rows 2 (Vy_ (slQ t a.1)))],a.2.1+a.2.2+1⟩) (fun a=>a.1<=t.locs.length) (fun a=>t.locs.length-a.1) (0,r,c) ?_ ?_ ?_
  .dsimp only;omega
  .refine Weaker.fw 1 0 ?_ ?_
   .simp [go_sem,zIb,Tst.cs]
   simp [go_sem,zIb]
  rintro ⟨b,r,c⟩ hib
  dsimp only at hib ⊢
  refine rG ?_
  refine A3 fun K7 hK7=>?_
  refine cJ (fun h=>?_) fun h=>?_
  .simp at h
   obtain rfl:b=t.locs.length:=by omega
   apply A6
   apply hK6
   refine rG ?_
   refine A4 ?_
   simp [go_sem,zVg,take_of_length_le]
  simp at h
  have hql:=zVk t b
  have hw3:=wI b
  apply A1
  apply hK7
  refine A3 fun K8 hK8=>?_
  apply A0
  refine rG ?_
  refine rE fun K hK=>?_
  simp [go_sem]
  refine ⟨by omega,?_⟩
  apply hK
  apply hK8
  refine rF ?_ fun K h=>by simp [go_sem,hw3];exact h
  refine ⟨(b+1,r+c+2,0),?_,?_,?_⟩
  .dsimp only;omega
  .dsimp only;omega
  refine Weaker.fw 1 0 ?_ ?_
  .simp [go_sem,zCl]
  simp [go_sem,zCl,Xx_]
 simp at h
 have hI:=h
 clear h
 have h':i<(t.ths).length:=by omega
 obtain ⟨l,hx,hx'⟩:=E0 h'
 have hi0:(0:Int)<=(i:Nat):=by omega
 have hlm:=List.mem_of_getElem? hx
 have hw:=wI i
 apply A1
 apply hK2
 refine A3 fun K3 hK3=>?_
 apply A0
 refine rG ?_
 refine rK fun K hK=>?_
 simp [go_sem]
 refine A2 (zUk t i l hx (hl l hlm) (hr l hlm)) ?_
 simp [go_sem]
 apply hK
 apply A0
 refine A9 (α:=Nat × Nat × Nat) (fun b=>⟨47,[(0,.rp t.cs 0),(11,.ro 1 (N3 t.ths)),(12,iV (t.ths.length:Nat)),(13,iV (i:Nat)),(4,iV (i:Nat)),(18,.ro 1 (Q3 (Xe_ (WS_ l) 8))),(19,iV ((Xe_ (WS_ l) 8).length:Nat)),(20,iV (b.1:Nat)),(3,.sl b.2.1 0 (slP t.ths i l b.1).length)],[(b.2.1,.rows 2 (Vy_ (slP t.ths i l b.1)))],b.2.1+b.2.2+1⟩) (fun b=>b.1<=(Xe_ (WS_ l) 8).length) (fun b=>(Xe_ (WS_ l) 8).length-b.1) (0,r,c) ?_ ?_ ?_
 .dsimp only;omega
 .refine Weaker.fw 1 0 ?_ ?_<;>simp [go_sem,zO6]
 rintro ⟨b,r,c⟩ hib
 dsimp only at hib ⊢
 refine rG ?_
 refine A3 fun K4 hK4=>?_
 refine cJ (fun h=>?_) fun h=>?_
 .simp at h
  obtain rfl:b=(Xe_ (WS_ l) 8).length:=by omega
  apply A6
  apply hK3
  refine rF ?_ fun K h=>by simp [go_sem,hw];exact h
  refine ⟨(i+1,r,c),?_,?_,?_⟩
  .dsimp only;omega
  .dsimp only;omega
  refine Weaker.fw 1 0 ?_ ?_<;>simp [go_sem,zVf hx]
 have hul:=Yv_ (WS_ l) 8
 simp at h
 have hI2:=h
 clear h
 have h'2:b<((Xe_ (WS_ l) 8)).length:=by omega
 obtain ⟨m,hx2,hx'2⟩:=E0 h'2
 have hi02:(0:Int)<=(b:Nat):=by omega
 have hw2:=wI b
 have hpl:=zVj t.ths i l b
 apply A1
 apply hK4
 refine A3 fun K5 hK5=>?_
 apply A0
 refine rG ?_ fun K h=>by simp [go_sem,hI2,hx2,hx'2,hi02,h'2];exact h
 refine rE fun K hK=>?_
 simp [go_sem]
 refine ⟨by omega,?_⟩
 apply hK
 apply hK5
 refine rF ?_ fun K h=>by simp [go_sem,hw2];exact h
 refine ⟨(b+1,r+c+2,0),?_,?_,?_⟩
 .dsimp only;omega
 .dsimp only;omega
 refine Weaker.fw 1 0 ?_ ?_
 .simp [go_sem,zCk hx2]
 simp [go_sem,zCk hx2,Xx_]
theorem zJc (t:Tst) (ht:t.ths.length<=4) (hl:∀ x∈t.ths,x.length<=1000) (hr:∀ l∈t.ths,∀ x∈l,Xb_ x.op=true->0<=x.rd/\x.rd<8) (hlo:t.locs.length<=8) (g:List (Nat->Int)) (hg:g.length=t.ths.length) (f:Nat->Int):Pf Tryz.prog 141 [.rp t.cs 0,.ro 8 (E1 g),.agg (I4 f)] (.agg (stK (W5 t g f))):=by
 refine Pf.of_fz 1 (.cons (u6 t) (.cons (zIj g) (.cons (.agg (zIi f)) .nil))) (.agg (W7_ _)) ?_
 have hs40:=W9_ ht hlo
 have hml:=QZ_ t g f
 have hslots:=zOh t (by omega) hl hr (by omega)
 refine B7 T_ok func141 rfl rfl ntmps141 rfl (by simp) ?_
 refine rG ?_ fun K h=>by simp [go_sem,Xz_];exact h
 refine rG ?_ fun K h=>by simp [go_sem,Xz_];exact h
 refine A3 fun K1 hK1=>?_
 refine rK fun K hK=>?_
 simp [go_sem]
 refine A2 hslots ?_
 simp [go_sem]
 apply hK
 apply A0
 refine A9 (α:=Nat × Nat) (fun a=>⟨46,[(1,.ro 8 (E1 g)),(5,.ptr 0 0 0),(6,.ptr 1 0 0),(7,.ptr 2 0 0),(11,.ro 2 (Vy_ (S0 t))),(12,iV ((S0 t).length:Nat)),(13,iV (a.1:Nat))],[(2,.rows 41 [.agg (iV (a.1:Nat)::uVs (zIe ((Xy_ t g f).take a.1)))]),(0,.rows 8 [.agg (I4 f)]),(1,.rows 41 [.agg (iV 0::uVs (List.replicate 40 0))])],a.2⟩) (fun a=>a.1<=(S0 t).length/\2<a.2) (fun a=>(S0 t).length-a.1) (0,3) ?_ ?_ ?_
 .dsimp only;omega
 .refine Weaker.fy 1 0 ?_ ?_
  .simp [go_sem]
  simp [go_sem,zIe,uVs]
 rintro ⟨i,j⟩ ⟨hi,hj⟩
 dsimp only at hi hj ⊢
 refine rG ?_
 refine A3 fun K2 hK2=>?_
 refine cJ (fun h=>?_) fun h=>?_
 .simp at h
  obtain rfl:i=(S0 t).length:=by omega
  have hpe:(zIe (Xy_ t g f)).length=40:=V0_ (by omega)
  have htk:(Xy_ t g f).take (S0 t).length=Xy_ t g f:=take_of_length_le (by omega)
  apply A6
  apply hK1
  refine rG ?_ fun K h=>by simp [go_sem,htk,hpe,zVm,take_of_length_le];exact h
  refine A4 ?_
  simp [go_sem,W5,Vx_,hml,htk,hpe,zI2,take_of_length_le]
 simp at h
 have hI:=h
 clear h
 have h':i<(S0 t).length:=by omega
 obtain ⟨p,hx,hx'⟩:=E0 h'
 have hi0:(0:Int)<=(i:Nat):=by omega
 obtain ⟨a,b⟩:=p
 have hmem:=zId (List.mem_of_getElem? hx)
 have hm:(Xy_ t g f)[i]?=some (zEs g f (a,b)):=by unfold Xy_;rw [List.getElem?_map,hx];rfl
 have hpl:(zIe ((Xy_ t g f).take i)).length=40:=V0_ (by rw [length_take];omega)
 have g54:i<40/\(i:Int)<40:=by and_intros<;>omega
 have hst:=zIf hm (by omega)
 have hw:=wI i
 have g55:¬ j=0/\¬ 0=j/\¬ j=1/\¬ 1=j/\¬ j=2/\¬ 2=j:=by and_intros<;>omega
 apply A1
 apply hK2
 refine A3 fun K3 hK3=>?_
 apply A0
 refine rG ?_ fun K h=>by simp [go_sem,hI,hx,hx',hi0,h',g55];exact h
 refine X6 ⟨46,[(1,.ro 8 (E1 g)),(5,.ptr 0 0 0),(6,.ptr 1 0 0),(7,.ptr 2 0 0),(11,.ro 2 (Vy_ (S0 t))),(12,iV ((S0 t).length:Nat)),(13,iV (i:Nat))],[(2,.rows 41 [.agg (iV (i:Nat)::uVs (zIe ((Xy_ t g f).take (i+1))))]),(0,.rows 8 [.agg (I4 f)]),(1,.rows 41 [.agg (iV 0::uVs (List.replicate 40 0))])],j+40⟩ ?_ ?_
 .skip
  refine rG ?_ fun K h=>by simp [go_sem,g55];exact h
  refine cK (fun h=>?_) fun h=>?_
  .have ha:a<0:=by simpa using h
   obtain ⟨n,hn,hn8⟩:∃ n:Nat,b=n/\n<8:=by
    rcases hmem with ⟨n,hn,h2⟩|⟨q,r,hn,h2,h3⟩
    .cases hn;exact ⟨n,rfl,by omega⟩
    cases hn;omega
   subst hn
   have g56:(n:Int)<8/\(0:Int)<=(n:Nat):=by and_intros<;>omega
   have hmv:zEs g f (a,(n:Int))=f n:=by simp [zEs,ha]
   rw [hmv] at hst
   refine dE 7 [[],[0],[],[2],[2,3],[2,3,4],[],[0,1,2,3,4,5,6],[0,1,2,3,4,5,6,7]] fun K hK=>?_
   first|dsimp only [List.take,List.drop]|dsimp [List.take,List.drop]
   simp [go_sem,g56,hn8,VA_ f hn8,g54,hi0,hpl,zIk,hst,g55]
   refine ⟨by omega,by omega,?_⟩
   apply hK
   refine Weaker.fy 1 0 ?_ ?_<;>simp [go_sem,g55]
  have ha:¬ a<0:=by simpa using h
  obtain ⟨q,r,hq,hr2,hq2,hr8⟩:∃ q r:Nat,a=q/\b=r/\q<g.length/\r<8:=by
   rcases hmem with ⟨n,hn,h2⟩|⟨q,r,hn,h2,h3⟩
   .cases hn;omega
   cases hn;exact ⟨q,r,rfl,rfl,by omega,h3⟩
  subst hq hr2
  obtain ⟨gf,hgf,hgf'⟩:=E0 hq2
  have g57:(r:Int)<8/\(0:Int)<=(r:Nat)/\(q:Int)<(g.length:Nat)/\(0:Int)<=(q:Nat):=by and_intros<;>omega
  have hmv:zEs g f ((q:Int),(r:Int))=gf r:=by unfold zEs;rw [if_neg ha];simp [hgf]
  rw [hmv] at hst
  refine dE 11 [[],[0],[],[],[3],[],[5],[2,3,4],[2,3,4,5,6,7],[2,3,4,5,6,7,8],[],[0,1,2,3,4,5,6,7,8,9,10],[0,1,2,3,4,5,6,7,8,9,10,11]] fun K hK=>?_
  first|dsimp only [List.take,List.drop]|dsimp [List.take,List.drop]
  simp [go_sem,g57,hr8,hq2,hgf,hgf',VA_ gf hr8,g54,hi0,hpl,zIk,hst,g55]
  refine ⟨by omega,by omega,?_⟩
  apply hK
  refine Weaker.fy 1 0 ?_ ?_<;>simp [go_sem,g55]
 skip
 refine rF ?_ fun K h=>by simp [go_sem,hw,zVl,g55];exact h
 apply hK3
 refine rF ?_ fun K h=>by simp [go_sem,hw];exact h
 refine ⟨(i+1,j+100),?_,?_,?_⟩
 .dsimp only;omega
 .dsimp only;omega
 refine Weaker.fy 1 0 ?_ ?_<;>simp [go_sem,g55]
section
variable {f:List Int->Ex->Ex} {t:Tst} {k:List Int}
end
def upd {α:Type} (f:Nat->α) (i:Nat) (v:α):Nat->α:=fun j=>if j=i then v else f j
theorem J5 {α:Type} (f:Nat->α) (i:Nat) (v:α):upd f i v i=v:=if_pos rfl
section
variable {k:List Int} {i:Nat}
end
abbrev XOp:=Nat × Nat × Ins
def opQ (t:Tst) (k:Nat):Nat × Nat:=(M5 0 t.ths).getD k (0,0)
def zQt (t:Tst) (od:V) (ws:List Bool) (fr:List Int):List V:=[.rp t.cs 0,.ro 2 (d0 (M5 0 t.ths)),od,.ro 1 (bVs ws),.ro 1 (iVs fr)]
def E7 (t:Tst) (od:V) (ws:List Bool) (fr:List Int) (x:V):List V:=[.rp t.cs 0,.ro 2 (d0 (M5 0 t.ths)),od,.ro 1 (bVs ws),.ro 1 (iVs fr),x]
structure SeaOk (t:Tst):Prop where
 ths:t.ths.length<=4
 len:∀ l∈t.ths,l.length<=8
 n8:nO t<=8
 locs:t.locs.length<=8
 loc:∀ k,k<nO t->0<=(opX t k).loc/\(opX t k).loc<t.locs.length
 ins:∀ l∈t.ths,∀ x∈l,InsOk x
 rds:∀ l∈t.ths,∀ x∈l,Xb_ x.op=true->0<=x.rd/\x.rd<8
 fen:∀ l∈t.ths,∀ x∈l,x.op=15->(x.pred=1\/x.pred=2\/x.pred=3)/\(x.succ=1\/x.succ=2\/x.succ=3)
theorem zjw {t:Tst} {k:Nat} (hk:k<nO t):∃ l,((M5 0 t.ths)[k]?=some (opQ t k)/\∀ h,(M5 0 t.ths)[k]'h=opQ t k)/\((opQ t k).1<t.ths.length/\t.ths[(opQ t k).1]?=some l/\∀ h,t.ths[(opQ t k).1]'h=l)/\((opQ t k).2<l.length/\l[(opQ t k).2]?=some (opX t k)/\∀ h,l[(opQ t k).2]'h=opX t k):=by
 obtain ⟨l,h1,h2,h3,_⟩:=Cs.opAt (c:=⟨t,C9 t [] [],[]⟩) (k:=k) hk
 replace h1:(M5 0 t.ths)[k]?=some (opQ t k):=h1
 replace h2:t.ths[(opQ t k).1]?=some l:=h2
 replace h3:l[(opQ t k).2]?=some (opX t k):=h3
 obtain ⟨a1,a2⟩:=List.getElem?_eq_some_iff.1 h1
 obtain ⟨b1,b2⟩:=List.getElem?_eq_some_iff.1 h2
 obtain ⟨c1,c2⟩:=List.getElem?_eq_some_iff.1 h3
 exact ⟨l,⟨h1,fun _=>a2⟩,⟨b1,h2,fun _=>b2⟩,⟨c1,h3,fun _=>c2⟩⟩
theorem zCx {α:Type} {f:α->V} (h:∀ a,(f a).pureE=true) (l:List α):(l.map f).all V.pureE=true:=by
 rw [all_eq_true];intro v hv;obtain ⟨a,_,rfl⟩:=List.mem_map.1 hv;exact h a
@[go_sem] theorem zgb (l:List Int):(iVs l).all V.pureE=true:=zCx (fun _=>rfl) l
@[go_sem] theorem zgc (l:List Vl):(vls l).all V.pureE=true:=zCx (fun _=>rfl) l
@[go_sem] theorem zgd (x:Ins):(V.agg x.cs).pureE=true:=rfl
@[go_sem] theorem zdi:zHm []=true:=rfl
@[go_sem] theorem zZ2 (n sz:Nat) (es:List V) (H:A7):zHm ((n,.rows sz es)::H)=(es.all V.pureE&&zHm H):=by unfold zHm;rw [List.all_cons]
@[go_sem] theorem zge (n i l:Nat):(V.sl n i l).pureE=true:=rfl
@[go_sem] theorem zdj (n i l:Nat):(V.ptr n i l).pureE=true:=rfl
@[go_sem] theorem zdk (x:Value):(V.val x).pureE=true:=rfl
theorem VH_ (t:Tst) {f:FuncId} (ws:List Bool) (fr:List Int) (x:Value) (j:Nat):NL (.rp (E7 t (.fn (.func f) [] []) ws fr (.val x)) j) :=
 .rp (.cons (u6 t) (.cons (zQk _) (.cons (fun ι ι' O w cv h=>by
  cases h with
  | fn h1 h2=>cases h1;cases h2;exact .fn .nil .nil) (.cons (zQd _) (.cons (QN_ _) (.cons (.val _) .nil))))))
theorem X8_ {t:Tst} {k m:Nat}:JO_ t k (m+1)=if zCs t k m then JO_ t k m++[(m:Int)] else JO_ t k m:=by
 unfold JO_
 rw [range_succ,filter_append,map_append]
 by_cases h:zCs t k m=true
 .rw [if_pos h];simp [h]
 rw [if_neg h];simp [h]
theorem zCy (t:Tst) (k m:Nat):(JO_ t k m).length<=m+1:=by
 unfold JO_
 rw [length_cons,length_map]
 have:=length_filter_le (zCs t k) (List.range m)
 rw [length_range] at this
 omega
def F7 (c:Cs) (kept po:Rl) (las:List Int):List V:=.rp c.cs 0::(B5 kept++(B5 po++iVs las))
section
variable {c:Cs} {kept po:Rl} {las:List Int}
theorem M6 (p:Rl):(B5 p).length=16:=by simp [B5]
@[go_sem high] theorem C1:E5 false 1 (F7 c kept po las) 0=.rp c.cs 0:=Eq.trans rfl rfl
@[go_sem high] theorem C2:E5 true 16 (F7 c kept po las) 1=.agg (B5 kept):=Eq.trans rfl rfl
@[go_sem high] theorem E8:E5 true 16 (F7 c kept po las) 17=.agg (B5 po):=Eq.trans rfl rfl
theorem C0 (hl:las.length=8):(F7 c kept po las).length=41:=by unfold F7 iVs;simp [M6,hl]
theorem B0 (c:Cs) (kept po:Rl) (las:List Int):(∀ x,x∈F7 c kept po las->x.one=true)=True:=eq_true fun x hx=>by
 rcases List.mem_cons.1 hx with rfl|hx
 .rfl
 rcases List.mem_append.1 hx with hx|hx
 .obtain ⟨a,_,rfl⟩:=List.mem_map.1 hx;rfl
 rcases List.mem_append.1 hx with hx|hx
 .obtain ⟨a,_,rfl⟩:=List.mem_map.1 hx;rfl
 obtain ⟨a,_,rfl⟩:=List.mem_map.1 hx;rfl
theorem B3 (hl:las.length=8):(V.agg (F7 c kept po las)).fits 41=true:=by
 rw [C8]
 exact ⟨C0 hl,fun x hx=>(B0 c kept po las).mpr trivial x hx⟩
theorem B1 (hl:las.length=8):(F7 c kept po las).take 41=F7 c kept po las:=take_of_length_le (by rw [C0 hl];omega)
theorem C4 (hl:las.length=8):E5 true 41 (F7 c kept po las) 0=.agg (F7 c kept po las):=by
 have:E5 true 41 (F7 c kept po las) 0=.agg (((F7 c kept po las).drop 0).take 41):=rfl
 rw [this,drop_zero,B1 hl]
theorem zW2 (hl:las.length=8) {i:Nat} {x:Int} (h:las[i]?=some x):E5 false 1 (F7 c kept po las) (33+i)=iV x:=by
 rw [zGu]
 unfold F7
 rw [List.getD,show 33+i=(32+i)+1 by omega,List.getElem?_cons_succ,List.getElem?_append_right (by rw [M6];omega),M6,List.getElem?_append_right (by rw [M6];omega),M6,show 32+i-16-16=i by omega,zco,h]
 rfl
theorem zCz {k':Rl}:B2 (.agg (F7 c kept po las)) 1 (.agg (B5 k'))=.agg (F7 c k' po las):=by
 have e:∀ (a:List V) (x:V) (r s:List V),a.length=16->s.length=16->B2 (.agg (x::(a++r))) 1 (.agg s)=.agg (x::(s++r)):=fun a x r s ha hs=>by
  simp [B2,V.cells,splice,hs,<-ha,Nat.add_comm 1]
 exact e _ _ _ _ (M6 _) (M6 _)
theorem zdl {k':Rl}:B2 (.agg (F7 c kept po las)) 17 (.agg (B5 k'))=.agg (F7 c kept k' las):=by
 have e:∀ (a b:List V) (x:V) (r s:List V),a.length=16->b.length=16->s.length=16->B2 (.agg (x::(a++(b++r)))) 17 (.agg s)=.agg (x::(a++(s++r))):=fun a b x r s ha hb hs=>by
  have h1:(x::(a++(b++r)))=(x::a)++(b++r):=rfl
  have h2:(x::a).length=17:=by simp [ha]
  simp only [B2,V.cells,splice]
  rw [h1]
  have t1:((x::a)++(b++r)).take 17=x::a:=by rw [take_append_of_le_length (by omega),take_of_length_le (by omega)]
  have t2:((x::a)++(b++r)).drop (17+s.length)=r:=by
   rw [hs,drop_append,drop_eq_nil_of_le (by omega),h2,drop_append,drop_eq_nil_of_le (by omega),hb];simp
  rw [t1,t2];simp
 exact e _ _ _ _ _ (M6 _) (M6 _) (M6 _)
theorem zW3 (hl:las.length=8) {i:Nat} (hi:i<8) {n:Int}:B2 (.agg (F7 c kept po las)) (33+i) (iV n)=.agg (F7 c kept po (las.set i n)):=by
 have h1:F7 c kept po las=(.rp c.cs 0::(B5 kept++B5 po))++iVs las:=by simp [F7]
 have h1':F7 c kept po (las.set i n)=(.rp c.cs 0::(B5 kept++B5 po))++iVs (las.set i n):=by simp [F7]
 have h2:(V.rp c.cs 0::(B5 kept++B5 po)).length=33:=by simp [M6]
 simp only [B2,V.cells,splice]
 rw [h1,h1']
 generalize (V.rp c.cs 0::(B5 kept++B5 po))=a at *
 congr 1
 rw [take_append,take_of_length_le (by omega),drop_append,drop_eq_nil_of_le (by simp;omega),h2]
 have e:∀ (l:List V) (x:V) (j:Nat),j<l.length->l.take j++([x]++l.drop (j+1))=l.set j x:=fun l x j h=>by
  rw [set_eq_take_append_cons_drop,if_pos h];rfl
 have:=e (iVs las) (iV n) i (by rw [zUx];omega)
 rw [J4_] at this
 rw [<-this]
 simp [show 33+i-33=i by omega,show 33+i+1-33=i+1 by omega]
theorem zQu (c:Cs) (kept po:Rl) (las:List Int):NLs (F7 c kept po las):=fun v hv=>by
 rcases List.mem_cons.1 hv with rfl|hv
 .exact Z9_ c
 rcases List.mem_append.1 hv with hv|hv
 .exact D9 _ v hv
 rcases List.mem_append.1 hv with hv|hv
 .exact D9 _ v hv
 obtain ⟨a,_,rfl⟩:=List.mem_map.1 hv;exact .val _
end
def rnC (r:Rn):List V:=.rp r.c.cs 0::(B5 r.co++(B5 r.ah++stK r.st))
theorem p5 {f g:Nat->Int} (h:∀ q,q<8->f q=g q):I4 f=I4 g:=map_congr_left fun q hq=>by rw [h q (List.mem_range.1 hq)]
theorem UF_ (f:Nat->Int) {r:Nat} (h:r<8) (n:Int):B2 (.agg (I4 f)) r (uV n)=.agg (I4 fun q=>if q=r then n else f q):=by
 rcases lt8 h with rfl|rfl|rfl|rfl|rfl|rfl|rfl|rfl<;>rfl
def rgU (l:List (Nat->Vl)) (i r q x:Nat):Int:=if q<i\/(q=i/\x<r) then ((l.getD q fun _=>zV) x).v else 0
def rgT (l:List (Nat->Vl)) (i r:Nat):List (Nat->Int):=tab l.length fun q=>rgU l i r q
theorem zW4 (l:List (Nat->Vl)) (i r:Nat):(rgT l i r).length=l.length:=R6 ..
theorem zAf {f g:Nat->Nat->Int} {n:Nat} (h:∀ q,q<n->∀ x,x<8->f q x=g q x):E1 (tab n f)=E1 (tab n g):=by
 unfold E1 tab
 rw [map_map,map_map]
 exact map_congr_left fun q hq=>by
  show V.agg (I4 (f q))=V.agg (I4 (g q))
  rw [p5 fun x hx=>h q (List.mem_range.1 hq) x hx]
theorem zOi (l:List (Nat->Vl)):E1 (rgT l 0 0)=List.replicate l.length (.agg (List.replicate 8 (uV 0))):=by
 unfold rgT E1 tab
 rw [map_map]
 apply ext_getElem (by simp)
 intro q h1 h2
 simp only [getElem_map,getElem_replicate,Function.comp]
 rw [p5 (g:=fun _=>0) fun x _=>by unfold rgU;rw [if_neg (by omega)]]
 rfl
theorem zW5 {l:List (Nat->Vl)} {i:Nat}:E1 (rgT l i 8)=E1 (rgT l (i+1) 0):=zAf fun q _ x hx=>by
 unfold rgU
 by_cases h:q<i\/(q=i/\x<8)
 .rw [if_pos h,if_pos (by omega)]
 rw [if_neg h,if_neg (by omega)]
theorem zdm {l:List (Nat->Vl)} {i r:Nat} (hi:i<l.length):(E1 (rgT l i r))[i]?=some (.agg (I4 (rgU l i r i))):=by rw [zIg,rgT,W5_ hi];rfl
theorem zW6 {l:List (Nat->Vl)} {i r:Nat} {g:Nat->Vl} (hg:l[i]?=some g) (hr:r<8):(E1 (rgT l i r)).set i (.agg (I4 fun q=>if q=r then (g r).v else rgU l i r i q))=E1 (rgT l i (r+1)):=by
 have hi:=(List.getElem?_eq_some_iff.1 hg).1
 have e:(E1 (rgT l i r)).set i (.agg (I4 fun q=>if q=r then (g r).v else rgU l i r i q))=E1 ((rgT l i r).set i fun q=>if q=r then (g r).v else rgU l i r i q):=(map_set ..).symm
 rw [e,rgT,zI3]
 refine zAf fun q _ x hx=>?_
 unfold rgU
 by_cases e1:q=i
 .subst e1
  rw [if_pos rfl]
  by_cases e2:x=r
  .subst e2;rw [if_pos rfl,if_pos (by omega),List.getD,hg];rfl
  rw [if_neg e2]
  by_cases h:q<q\/(q=q/\x<r)
  .rw [if_pos h,if_pos (by omega)]
  rw [if_neg h,if_neg (by omega)]
 rw [if_neg e1]
 by_cases h:q<i\/(q=i/\x<r)
 .rw [if_pos h,if_pos (by omega)]
 rw [if_neg h,if_neg (by omega)]
theorem zW7 (c:Cs):E1 (rgT c.f.regs c.f.regs.length 0)=E1 (X4_ c):=by
 have:X4_ c=tab c.f.regs.length fun q x=>((c.f.regs.getD q fun _=>zV) x).v:=by
  unfold X4_
  apply List.ext_getElem?
  intro q
  by_cases h:q<c.f.regs.length
  .rw [W5_ h,List.getElem?_map,List.getD,List.getElem?_eq_getElem h];rfl
  rw [List.getElem?_eq_none (by simp;omega),List.getElem?_eq_none (by rw [R6];omega)]
 rw [this]
 exact zAf fun q hq x _=>by unfold rgU;rw [if_pos (.inl hq)]
def lcU (c:Cs) (las:List Int) (i q:Nat):Int:=if q<i then zFq c las q else 0
theorem zOj (c:Cs) (las:List Int):I4 (lcU c las 0)=List.replicate 8 (uV 0):=rfl
theorem zJd {c:Cs} {las:List Int} {i:Nat} {v:Int} (h:zFq c las i=v):I4 (fun q=>if q=i then v else lcU c las i q)=I4 (lcU c las (i+1)):=p5 fun q _=>by
 unfold lcU
 by_cases e:q=i
 .subst e;rw [if_pos rfl,if_pos (by omega),h]
 rw [if_neg e]
 by_cases h:q<i
 .rw [if_pos h,if_pos (by omega)]
 rw [if_neg h,if_neg (by omega)]
theorem zOk {c:Cs} {las:List Int} {i:Nat} {u v:Int} (h:zFq c las i=v):I4 (fun q=>if q=i then v else if q=i then u else lcU c las i q)=I4 (lcU c las (i+1)):=by
 rw [<-zJd h]
 refine p5 fun q _=>?_
 by_cases e:q=i
 .rw [if_pos e,if_pos e]
 rw [if_neg e,if_neg e,if_neg e]
theorem zW8 (c:Cs) (las:List Int) (hl:c.t.locs.length<=8):I4 (lcU c las c.t.locs.length)=I4 fun q=>(Zd_ c las).getD q 0:=p5 fun q hq=>by
 unfold lcU Zd_
 rw [List.getD,List.getElem?_map,List.getElem?_range hq];rfl
theorem zW9 {c:Cs} {las:List Int} {i:Nat} {n:Int} {x:Ini} (hn:las[i]?=some n) (h:¬ 0<n) (hx:c.t.locs[i]?=some x):zFq c las i=x.v:=by
 unfold zFq
 rw [show las.getD i 0=n by rw [List.getD,hn];rfl,if_neg h,List.getD,hx];rfl
theorem zOl {c:Cs} {las:List Int} {i m:Nat} {n:Int} {u:Vl} (hn:las[i]?=some n) (h:n=(m:Int)+1) (hu:c.f.f.write[m]?=some u):zFq c las i=u.v:=by
 unfold zFq
 rw [show las.getD i 0=n by rw [List.getD,hn];rfl,if_pos (by omega),show (n-1).toNat=m by omega,List.getD,hu];rfl
theorem zWa (p:Rl):(decide (0<(Wb_ p 16:Int)))=zEx p:=by
 have key:∀ n,n<=16->(0<Wb_ p n↔∃ a b,a<n/\b<16/\p a b=true):=fun n=>by
  induction n with
  | zero =>
   intro _
   constructor
   .intro h;exact absurd h (by simp [Wb_])
   rintro ⟨a,_,h,_⟩;omega
  | succ n ih =>
   intro hn
   have ih:=ih (by omega)
   have hpos:0<Uf_ (D7 (p n))↔∃ b,b<16/\p n b=true:=by
    constructor
    .intro h
     by_cases e:∃ b,b<16/\p n b=true
     .exact e
     have:D7 (p n)=0:=D3.2 fun i hi=>by
      cases h9:p n i with
      | false=>rfl
      | true=>exact absurd ⟨i,hi,h9⟩ e
     rw [this,l9] at h;omega
    rintro ⟨b,hb,hp⟩
    have h0:D7 (p n)≠0:=fun e=>by rw [D3.1 e b hb] at hp;cases hp
    have:=U3_ (D7 (p n)) (by omega)
    omega
   show 0<Wb_ p n+Uf_ (D7 (p n))↔_
   constructor
   .intro h
    by_cases h1:0<Wb_ p n
    .obtain ⟨a,b,h2,h3,h4⟩:=ih.1 h1
     exact ⟨a,b,by omega,h3,h4⟩
    obtain ⟨b,h3,h4⟩:=hpos.1 (by omega)
    exact ⟨n,b,by omega,h3,h4⟩
   rintro ⟨a,b,h2,h3,h4⟩
   by_cases e:a=n
   .subst e;have:=hpos.2 ⟨b,h3,h4⟩;omega
   have:=ih.2 ⟨a,b,by omega,h3,h4⟩;omega
 rw [Bool.eq_iff_iff,decide_eq_true_eq,zEx,F2]
 have hk:=key 16 (Nat.le_refl _)
 constructor
 .intro h
  obtain ⟨a,b,h2,h3,h4⟩:=hk.1 (by omega)
  exact ⟨a,h2,F2.2 ⟨b,h3,h4⟩⟩
 rintro ⟨a,h2,h⟩
 obtain ⟨b,h3,h4⟩:=F2.1 h
 have:=hk.2 ⟨a,b,h2,h3,h4⟩
 omega
def chU (l:List Nat) (i c x y:Nat):Bool:=((List.range i).any fun p=>decide (l.getD p 0=x)&&decide (y∈l.drop (p+1)))||(decide (l.getD i 0=x)&&decide (y∈(l.drop (i+1)).take c))
theorem Qj_:∀ (l:List Nat) (x y:Nat),X3_ l x y=(List.range l.length).any fun p=>decide (l.getD p 0=x)&&decide (y∈l.drop (p+1))
 | [],_,_=>rfl
 | a::l,x,y=>by
  unfold X3_
  rw [Qj_ l x y,length_cons,range_succ_eq_map,any_cons,any_map]
  rfl
theorem zOm (l:List Nat):B5 (chU l 0 0)=B5 fun _ _=>false:=C3 fun x y=>by simp [chU]
theorem zOn {l:List Nat} {i c a b:Nat} (ha:l[i]?=some a) (hb:(l.drop (i+1))[c]?=some b):B5 (fun x y=>chU l i c x y||(decide ((x:Int)=(a:Nat))&&decide ((y:Int)=(b:Nat))))=B5 (chU l i (c+1)):=C3 fun x y=>by
 unfold chU
 rw [M1 hb,List.getD,ha]
 rw [Bool.eq_iff_iff]
 simp only [Option.getD_some,Bool.or_eq_true,Bool.and_eq_true,decide_eq_true_eq,mem_append,mem_singleton]
 constructor
 .rintro ((h|⟨h1,h2⟩)|⟨h1,h2⟩)
  .exact .inl h
  .exact .inr ⟨h1,.inl h2⟩
  exact .inr ⟨by omega,.inr (by omega)⟩
 rintro (h|⟨h1,h2|h2⟩)
 .exact .inl (.inl h)
 .exact .inl (.inr ⟨h1,h2⟩)
 exact .inr ⟨by omega,by omega⟩
theorem zWb {l:List Nat} {i a:Nat} (ha:l[i]?=some a):B5 (chU l i (l.length-(i+1)))=B5 (chU l (i+1) 0):=C3 fun x y=>by
 unfold chU
 rw [range_succ,any_append,take_of_length_le (by rw [length_drop];omega)]
 simp
theorem zWc (l:List Nat):B5 (chU l l.length 0)=B5 (X3_ l):=C3 fun x y=>by
 rw [Qj_]
 unfold chU
 simp
def zJe (kept:Rl) (c:Cs) (f loc:Nat) (las:List Int) (co:Rl):List Rn:=(zLq c f loc las co).flatMap fun p=>V8_ kept c p.1 p.2
def zF6 (kept:Rl) (c:Cs) (f loc:Nat) (las:List Int) (co:Rl) (m:Nat) (ahead left:List Nat):List Rn:=(zIy m ahead left).flatMap fun p=>zJe kept c f (loc+1) (zA7 las loc p) fun a b=>co a b||X3_ p a b
theorem zJf (kept:Rl) (c:Cs) (loc:Nat) (las:List Int) (co:Rl):zJe kept c 0 loc las co=V8_ kept c las co:=by simp [zJe,zLq]
theorem zJg (kept:Rl) (c:Cs) (f loc:Nat) (las:List Int) (co:Rl):zJe kept c (f+1) loc las co=zF6 kept c f loc las co (W8 c loc c.n).length [] (W8 c loc c.n):=by
 unfold zJe zF6 zLq
 rw [flatMap_assoc]
 rfl
theorem zJh (kept:Rl) (c:Cs) (f loc:Nat) (las:List Int) (co:Rl) (ahead left:List Nat):zF6 kept c f loc las co 0 ahead left=zJe kept c f (loc+1) (zA7 las loc ahead) fun a b=>co a b||X3_ ahead a b:=by simp [zF6,zIy]
def zAg (kept:Rl) (c:Cs) (f loc:Nat) (las:List Int) (co:Rl) (m:Nat) (ahead left:List Nat) (i:Nat):List Rn:=(List.range i).flatMap fun i=>zF6 kept c f loc las co m (ahead++[left.getD i 0]) (left.eraseIdx i)
theorem Qk_ (kept:Rl) (c:Cs) (f loc:Nat) (las:List Int) (co:Rl) (m:Nat) (ahead left:List Nat):zF6 kept c f loc las co (m+1) ahead left=zAg kept c f loc las co m ahead left left.length:=by
 unfold zAg zF6
 rw [zIy,flatMap_assoc]
theorem Ql_ {kept:Rl} {c:Cs} {f loc:Nat} {las:List Int} {co:Rl} {m:Nat} {ahead left:List Nat} {i a:Nat} (h:left[i]?=some a):zAg kept c f loc las co m ahead left (i+1)=zAg kept c f loc las co m ahead left i++zF6 kept c f loc las co m (ahead++[a]) (left.take i++left.drop (i+1)):=by
 unfold zAg
 rw [range_succ,flatMap_append]
 simp [List.getD,h,eraseIdx_eq_take_drop_succ]
theorem zOo {kept:Rl} {c:Cs} {f loc:Nat} {las:List Int} {co:Rl} {m:Nat} {ahead left:List Nat} {i:Nat} (hi:i<=left.length) {r:Rn} (h:r∈zAg kept c f loc las co m ahead left i):r∈zF6 kept c f loc las co (m+1) ahead left:=by
 rw [Qk_]
 unfold zAg at h ⊢
 obtain ⟨q,hq,h⟩:=List.mem_flatMap.1 h
 exact List.mem_flatMap.2 ⟨q,List.mem_range.2 (by have:=List.mem_range.1 hq;omega),h⟩
theorem zJi (c:Cs) (loc m:Nat):(W8 c loc m).length<=m:=by
 unfold W8
 have:=length_filter_le (fun k=>c.wr k&&decide ((c.x k).loc=(loc:Nat))) (List.range m)
 rwa [length_range] at this
theorem Qm_ {c:Cs} {loc m:Nat}:W8 c loc (m+1)=if c.wr m&&decide ((c.x m).loc=(loc:Nat)) then W8 c loc m++[m] else W8 c loc m:=by
 unfold W8
 rw [range_succ,filter_append]
 by_cases h:(c.wr m&&decide ((c.x m).loc=(loc:Nat)))=true
 .rw [if_pos h];simp [h]
 rw [if_neg h];simp [h]
theorem zdn {kept:Rl} {c:Cs} {las:List Int} {co:Rl} (hm:∀ g f,(W5 c.t g f).length=41) {r:Rn} (h:r∈V8_ kept c las co):r.st.length=41:=by
 unfold V8_ at h
 split at h
 .cases h
 cases List.mem_singleton.1 h;exact hm _ _
theorem zWd {ord:Cs->Rl} {t:Tst} (hm:∀ g f,(W5 t g f).length=41) {r:Rn} (h:r∈O8 ord t):r.st.length=41:=by
 unfold O8 at h
 obtain ⟨w,_,h⟩:=List.mem_flatMap.1 h
 obtain ⟨fr,_,h⟩:=List.mem_flatMap.1 h
 unfold Yj_ at h
 split at h
 .cases h
 obtain ⟨p,_,h⟩:=List.mem_flatMap.1 h
 exact zdn (c:=⟨t,_,fr⟩) hm h
attribute [go_sem] UD_
@[go_sem] theorem zjx (l:List (List Int)) (i:Nat) (h:i<(stR l).length):(stR l)[i]=.agg (stK (l[i]'(by simpa [stR] using h))):=by simp [stR]
@[go_sem] theorem stR_get? (l:List (List Int)) (i:Nat):(stR l)[i]?=(l[i]?).map fun k=>.agg (stK k):=by simp [stR]
theorem X9_ (l:List (List Int)):NL (.ro 41 (stR l)):=.ro fun v hv=>by obtain ⟨k,_,rfl⟩:=List.mem_map.1 hv;exact W7_ k
theorem zjy (f:Fn):NL (.fn f [] []):=fun _ _ _ _ _ h=>by cases h with|fn h1 h2=>cases h1;cases h2;exact .fn .nil .nil
theorem zdo (a b:Nat) (h:a+b<4611686018427387904):IntKind.i64.wrap (zNo (IntKind.u64.wrap (IntKind.i64.wrap ((a:Int)+(b:Int)))) 1)=((a+b) / 2:Nat):=by
 rw [E4 (x:=(a:Int)+(b:Int)) (by omega) (by omega),zBh (x:=(a:Int)+(b:Int)) (by omega) (by omega)]
 have:zNo ((a:Int)+(b:Int)) 1=((a+b) / 2:Nat):=by
  simp only [zNo]
  rw [show (2:Int) ^ (min (1:Int).toNat 64)=2 by rfl,Int.fdiv_eq_ediv_of_nonneg _ (by omega)]
  omega
 rw [this,E4 (by omega) (by omega)]
def zdp (x:List Int) (l:List (List Int)):Nat:=(l.filter fun y=>ltL y x).length
theorem zAh {x:List Int}:∀ {l:List (List Int)} {n:Nat},n<=l.length->(∀ i q,i<n->l[i]?=some q->ltL q x=true)->(∀ i q,n<=i->l[i]?=some q->ltL q x=false)->zdp x l=n
 | [],n,hn,_,_=>by simp at hn;subst hn;rfl
 | y::l,0,_,_,h=>by
  have h0:=h 0 y (Nat.le_refl _) rfl
  have:=zAh (l:=l) (n:=0) (Nat.zero_le _) (fun i q hi=>absurd hi (by omega)) (fun i q _ hq=>h (i+1) q (Nat.zero_le _) hq)
  simp only [zdp,filter_cons,h0] at this ⊢
  simpa using this
 | y::l,n+1,hn,h1,h=>by
  have h0:=h1 0 y (by omega) rfl
  have:=zAh (l:=l) (n:=n) (by simpa using hn) (fun i q hi hq=>h1 (i+1) q (by omega) hq) (fun i q hi hq=>h (i+1) q (by omega) hq)
  simp only [zdp,filter_cons,h0] at this ⊢
  simpa using this
theorem WA_ {l:List (List Int)} (hr:R9 l) {i j:Nat} (hij:i<j) {p q:List Int} (hp:l[i]?=some p) (hq:l[j]?=some q):ltL p q=true:=by
 obtain ⟨h1,rfl⟩:=List.getElem?_eq_some_iff.1 hp
 obtain ⟨h2,rfl⟩:=List.getElem?_eq_some_iff.1 hq
 exact List.pairwise_iff_getElem.1 hr i j h1 h2 hij
theorem zJj {x:List Int} {l:List (List Int)} (hr:R9 l) {n:Nat} (h1:∀ i q,i<n->l[i]?=some q->ltL q x=true) (h2:∀ i q,n<=i->l[i]?=some q->ltL q x=false):x∈l↔l[n]?=some x:=by
 constructor
 .intro h
  obtain ⟨i,hi,rfl⟩:=List.mem_iff_getElem.1 h
  have hg:l[i]?=some l[i]:=List.getElem?_eq_getElem hi
  have hni:¬ i<n:=fun hh=>by have:=h1 i _ hh hg;rw [Xu_] at this;cases this
  rcases Nat.lt_or_ge n i with hh|hh
  .have hn:l[n]?=some (l[n]'(by omega)):=List.getElem?_eq_getElem (by omega)
   have:=WA_ hr hh hn hg
   rw [h2 n _ (Nat.le_refl _) hn] at this;cases this
  obtain rfl:i=n:=by omega
  exact hg
 exact fun h=>List.mem_of_getElem? h
def zAi (x:List Int) (l:List (List Int)) (a b:Nat):Prop:=a<=b/\b<=l.length/\(∀ i q,i<a->l[i]?=some q->ltL q x=true)/\(∀ i q,b<=i->l[i]?=some q->ltL q x=false)
theorem zOp {x:List Int} {l:List (List Int)} (hr:R9 l) {a b m:Nat} (h:zAi x l a b) (hm:a<=m) (hmb:m<b) {q:List Int} (hq:l[m]?=some q) (hlt:ltL q x=true):zAi x l (m+1) b:=by
 refine ⟨hmb,h.2.1,fun i p hi hp=>?_,h.2.2.2⟩
 rcases Nat.lt_or_ge i m with hh|hh
 .exact Y3 (WA_ hr hh hp hq) hlt
 obtain rfl:i=m:=by omega
 rw [hp] at hq;cases hq;exact hlt
theorem zOq {x:List Int} {l:List (List Int)} (hr:R9 l) {a b m:Nat} (h:zAi x l a b) (hm:a<=m) (hmb:m<b) {q:List Int} (hq:l[m]?=some q) (hlt:ltL q x=false):zAi x l a m:=by
 refine ⟨hm,by have:=h.2.1;omega,h.2.2.1,fun i p hi hp=>?_⟩
 rcases Nat.lt_or_ge m i with hh|hh
 .cases hpx:ltL p x with
  | false=>rfl
  | true=>rw [Y3 (WA_ hr hh hq hp) hpx] at hlt;cases hlt
 obtain rfl:i=m:=by omega
 rw [hp] at hq;cases hq;exact hlt
theorem Qn_ {x:List Int} {l:List (List Int)} {a:Nat} (h:zAi x l a a):zdp x l=a:=zAh h.2.1 h.2.2.1 h.2.2.2
theorem Qo_ {x:List Int} {l:List (List Int)} (hr:R9 l) {a:Nat} (h:zAi x l a a):(x∈l)=(l[a]?=some x):=propext (zJj hr h.2.2.1 h.2.2.2)
theorem zJk (l:List (List Int)) (h41:∀ q∈l,q.length=41) (hr:R9 l) (hl:l.length<=400000000000) (x:List Int) (hx41:x.length=41):Pf Tryz.prog 120 [.ro 41 (stR l),.agg (stK x),.fn (.func 108) [] []] (.tup [iV (zdp x l:Nat),bV (decide (x∈l))]):=by
 refine Pf.of_fn (.cons (X9_ l) (.cons (.agg (W7_ x)) (.cons (zjy _) .nil))) (.tup (.cons (.val _) (.cons (.val _) .nil))) ?_
 have hxl:(stK x).length=41:=(W4 x).trans hx41
 have hxt:List.take 41 (stK x)=stK x:=take_of_length_le (by omega)
 have hxo:=YB_ x
 refine B7 T_ok func120 rfl rfl ntmps120 rfl (by simp) ?_
 refine rK fun K hK=>?_
 simp [go_sem,hxl]
 refine ⟨hxo,?_⟩
 apply hK
 refine rG ?_
 refine rG ?_
 refine A3 fun K1 hK1=>?_
 apply A0
 refine A9 (α:=Nat × Nat × Nat) (fun a=>⟨49,[(0,.ro 41 (stR l)),(2,.fn (.func 108) [] []),(4,.ptr 0 0 0),(8,iV (l.length:Nat)),(9,iV (a.1:Nat)),(10,iV (a.2.1:Nat))],[(0,.rows 41 [.agg (stK x)])],a.2.2+1⟩) (fun a=>zAi x l a.1 a.2.1) (fun a=>a.2.1-a.1) (0,l.length,0) ?_ ?_ ?_
 .exact ⟨Nat.zero_le _,Nat.le_refl _,fun i q hi=>absurd hi (by omega),fun i q hi hq=>by rw [List.getElem?_eq_none hi] at hq;cases hq⟩
 .refine Weaker.fw 1 0 ?_ ?_<;>simp [go_sem]
 rintro ⟨a,b,j⟩ hsp
 dsimp only at hsp ⊢
 have hsp1:=hsp.1
 have hsp2:=hsp.2.1
 refine A3 fun K2 hK2=>?_
 refine rG ?_
 refine cJ (fun h=>?_) fun h=>?_
 .simp at h
  obtain rfl:a=b:=by omega
  apply A6
  apply hK1
  refine dK 15 [[],[],[],[1,2],[1,2,3],[1,2,3,4],[1,2,3,4],[1,2,3,4],[1,2,3,4,6,7],[1,2,3,4,6,7,8],[1,2,3,4],[1,2,3,4,5,6,7,8,9,10],[1,2,3,4,5,6,7,8,9,10,11],[1,2,3,4,5,6,7,8,9,10,11,12],[0,1,2,3,4,5,6,7,8,9,10,11],[0,1,2,3,4,5,6,7,8,9,10,11,12,13,14]] fun K hK=>?_
  first|dsimp only [List.take,List.drop]|dsimp [List.take,List.drop]
  rcases Nat.lt_or_ge a l.length with hh|hh
  .obtain ⟨q,hq,hq'⟩:=E0 hh
   have hhI:(a:Int)<(l.length:Nat):=by omega
   have hh0:(0:Int)<=(a:Nat):=by omega
   have hql:(stK q).length=41:=(W4 q).trans (h41 q (List.mem_of_getElem? hq))
   have hqo:∀ x∈stK q,x.one=true:=YB_ q
   have hqt:List.take 41 (stK q)=stK q:=take_of_length_le (by omega)
   simp [go_sem,hq,hq',hhI,hh0,hh,hxl,hxt,hxo,hql,hqt,hqo]
   refine A5 (Z5_ q x (h41 q (List.mem_of_getElem? hq)) hx41) ?_
   simp [go_sem,hq,hq',hhI,hh0,hh,hxl,hxt,hxo,hql,hqt,hqo]
   apply hK
   refine A4 ?_
   have hc:(s0 q x==0)=decide (q=x):=by
    rw [Bool.eq_iff_iff]
    simp
    exact ⟨Xt_,fun h=>by rw [h];exact Xs_ x⟩
   simp [go_sem,Qn_ hsp,Qo_ hr hsp,hq,hc]
  have hhI:¬ (a:Int)<(l.length:Nat):=by omega
  have hhn:¬ a<l.length:=by omega
  have hq:l[a]?=none:=List.getElem?_eq_none hh
  simp [go_sem,hhI,hhn]
  apply hK
  refine A4 ?_
  simp [go_sem,Qn_ hsp,Qo_ hr hsp,hq]
 simp at h
 have hab:a<b:=by omega
 clear h
 have hmid:=zdo a b (by omega)
 obtain ⟨m,hm⟩:∃ m,(a+b) / 2=m:=⟨_,rfl⟩
 rw [hm] at hmid
 have hm1:a<=m/\m<b:=by omega
 clear hm
 have hh:m<l.length:=by omega
 obtain ⟨q,hq,hq'⟩:=E0 hh
 have hhI:(m:Int)<(l.length:Nat):=by omega
 have hh0:(0:Int)<=(m:Nat):=by omega
 have hw:=wI m
 have hql:(stK q).length=41:=(W4 q).trans (h41 q (List.mem_of_getElem? hq))
 have hqo:∀ x∈stK q,x.one=true:=YB_ q
 have hqt:List.take 41 (stK q)=stK q:=take_of_length_le (by omega)
 apply A1
 apply hK2
 apply A0
 refine rG ?_ fun K h=>by simp [go_sem,hmid];exact h
 refine dK 6 [[],[],[],[1,2],[1,2,3],[],[0,1,2,3,4,5],[0,1,2,3,4,5,6]] fun K hK=>?_
 first|dsimp only [List.take,List.drop]|dsimp [List.take,List.drop]
 simp [go_sem,hq,hq',hhI,hh0,hh,hxl,hxt,hxo,hql,hqt,hqo]
 refine A2 (Z5_ q x (h41 q (List.mem_of_getElem? hq)) hx41) ?_
 simp [go_sem]
 apply hK
 refine cK (fun h=>?_) fun h=>?_
 .have hlt:ltL q x=true:=by simpa [ltL] using h
  refine rF ?_ fun K h=>by simp [go_sem,hw];exact h
  refine ⟨(m+1,b,j+6),?_,?_,?_⟩
  .dsimp only;exact zOp hr hsp (by omega) (by omega) hq hlt
  .dsimp only;omega
  refine Weaker.fw 1 0 ?_ ?_<;>simp [go_sem]
 have hlt:ltL q x=false:=by simpa [ltL] using h
 refine rF ?_
 refine ⟨(a,m,j+6),?_,?_,?_⟩
 .dsimp only;exact zOq hr hsp (by omega) (by omega) hq hlt
 .dsimp only;omega
 refine Weaker.fw 1 0 ?_ ?_<;>simp [go_sem]
theorem Qp_ (l:List (List Int)) (h41:∀ q∈l,q.length=41) (hr:R9 l) (hl:l.length<=400000000000) (x:List Int) (hx41:x.length=41):Pf Tryz.prog 66 [.ro 41 (stR l),.agg (stK x)] (bV (decide (x∈l))):=by
 refine Pf.of_fn (.cons (X9_ l) (.cons (.agg (W7_ x)) .nil)) (.val _) ?_
 have hxl:(stK x).length=41:=(W4 x).trans hx41
 have hxt:List.take 41 (stK x)=stK x:=take_of_length_le (by omega)
 have hxo:=YB_ x
 refine B7 T_ok func66 rfl rfl ntmps66 rfl (by simp) ?_
 refine rK fun K hK=>?_
 simp [go_sem,hxl]
 refine ⟨hxo,?_⟩
 apply hK
 refine rK fun K hK=>?_
 simp [go_sem,hxl,hxt]
 refine A2 (zJk l h41 hr hl x hx41) ?_
 simp [go_sem]
 apply hK
 refine rG ?_
 refine A4 ?_
 simp [go_sem]
theorem Qq_ (s:List (List Int)) (hs41:∀ q∈s,q.length=41) (hsl:s.length<=400000000000) (l:List (List Int)) (h41:∀ q∈l,q.length=41) (hr:R9 l) (hl:l.length<=400000000000):Pf Tryz.prog 36 [.ro 41 (stR s),.ro 41 (stR l)] (bV (decide (∀ x∈s,x∈l))):=by
 refine Pf.of_fn (.cons (X9_ s) (.cons (X9_ l) .nil)) (.val _) ?_
 refine B7 T_ok func36 rfl rfl ntmps36 rfl (by simp) ?_
 refine rG ?_
 refine A3 fun K1 hK1=>?_
 refine rG ?_
 apply A0
 refine A9 (α:=Nat × Nat) (fun a=>⟨18,[(1,.ro 41 (stR l)),(7,.ro 41 (stR s)),(8,iV (s.length:Nat)),(9,iV (a.1:Nat))],[],a.2⟩) (fun a=>a.1<=s.length/\∀ i q,i<a.1->s[i]?=some q->q∈l) (fun a=>s.length-a.1) (0,0) ?_ ?_ ?_
 .exact ⟨Nat.zero_le _,fun i q hi=>absurd hi (Nat.not_lt_zero _)⟩
 .refine Weaker.fw 1 0 ?_ ?_<;>simp [go_sem]
 rintro ⟨i,j⟩ ⟨hi,hall⟩
 dsimp only at hi hall ⊢
 refine rG ?_
 refine A3 fun K2 hK2=>?_
 refine cJ (fun h=>?_) fun h=>?_
 .simp at h
  obtain rfl:i=s.length:=by omega
  clear h
  apply A6
  apply hK1
  refine rG ?_
  refine A4 ?_
  have hy:∀ x∈s,x∈l:=fun x hx=>by obtain ⟨i,hi,rfl⟩:=List.mem_iff_getElem.1 hx;exact hall i _ hi (List.getElem?_eq_getElem hi)
  simp [go_sem]
  exact hy
 simp at h
 have hI:=h
 clear h
 have h':i<s.length:=by omega
 obtain ⟨x,hx,hx'⟩:=E0 h'
 have hi0:(0:Int)<=(i:Nat):=by omega
 have hw:=wI i
 have hq41:=hs41 x (List.mem_of_getElem? hx)
 have hxl:(stK x).length=41:=(W4 x).trans hq41
 have hxt:List.take 41 (stK x)=stK x:=take_of_length_le (by omega)
 have hxo:=YB_ x
 apply A1
 apply hK2
 refine A3 fun K3 hK3=>?_
 apply A0
 refine rK fun K hK=>?_
 simp [go_sem,hI,hi0,h',hx,hx',hxl,hxt]
 refine ⟨hxo,?_⟩
 apply hK
 refine rK fun K hK=>?_
 simp [go_sem,hxl,hxt]
 refine A2 (Qp_ l h41 hr hl x hq41) ?_
 simp [go_sem]
 apply hK
 refine cK (fun h=>?_) fun h=>?_
 .have hm:x∉l:=by simpa using h
  refine rG ?_
  refine A4 ?_
  have hn:¬ ∀ x∈s,x∈l:=fun h=>hm (h x (List.mem_of_getElem? hx))
  simp [go_sem,hn]
 have hm:x∈l:=by simpa using h
 apply A1
 apply hK3
 refine rF ?_ fun K h=>by simp [go_sem,hw];exact h
 refine ⟨(i+1,j+1),?_,?_,?_⟩
 .dsimp only;exact ⟨by omega,fun i2 q2 h2 hq2=>by rcases Nat.lt_or_ge i2 i with h|h;exact hall i2 q2 h hq2;obtain rfl:i2=i:=(by omega);rw [hx] at hq2;cases hq2;exact hm⟩
 .dsimp only;omega
 refine Weaker.fw 1 0 ?_ ?_<;>simp [go_sem]
theorem U0 {x:Int} (h:-128<=x) (h':x<=127):IntKind.i8.wrap x=x:=by simp [IntKind.wrap,IntKind.bits,IntKind.signed];omega
theorem zWe {x:Ins} (h:x.op=15->(1<=x.pred/\x.pred<=3)/\(1<=x.succ/\x.succ<=3)):x.op≠15\/(x.op=15/\x.pred=1/\x.succ=1)\/(x.op=15/\x.pred=1/\x.succ=2)\/(x.op=15/\x.pred=1/\x.succ=3)\/(x.op=15/\x.pred=2/\x.succ=1)\/(x.op=15/\x.pred=2/\x.succ=2)\/(x.op=15/\x.pred=2/\x.succ=3)\/(x.op=15/\x.pred=3/\x.succ=1)\/(x.op=15/\x.pred=3/\x.succ=2)\/(x.op=15/\x.pred=3/\x.succ=3):=by
 by_cases ho:x.op=15
 .have:=h ho;omega
 exact .inl ho
theorem zLt {K:V->Prop}:J2 .and .i64 1 2 K=K (.val (.int .i64 0)):=by rfl
theorem zLu {K:V->Prop}:J2 .and .i64 1 1 K=K (.val (.int .i64 1)):=by rfl
theorem zLv {K:V->Prop}:J2 .and .i64 2 2 K=K (.val (.int .i64 2)):=by rfl
theorem zLw {K:V->Prop}:J2 .and .i64 2 1 K=K (.val (.int .i64 0)):=by rfl
theorem zLx {K:V->Prop}:J2 .and .i64 3 2 K=K (.val (.int .i64 2)):=by rfl
theorem zLy {K:V->Prop}:J2 .and .i64 3 1 K=K (.val (.int .i64 1)):=by rfl
def We_ (k:List Int) (i:Nat) (loc:Int):Nat->Int
 | 0=>gt k (104+loc.toNat)
 | n+1=>if gt k (i*26+10+n*2)=loc then gt k (i*26+10+n*2+1) else We_ k i loc n
theorem Qr_ (x:Ins) (h:x.op=15->(1<=x.pred/\x.pred<=3)/\(1<=x.succ/\x.succ<=3)):Pf Tryz.prog 126 [.agg x.cs] (bV (drB x)):=by
 refine Pf.of_fn (.cons (.agg (m8 x)) .nil) (.val _) ?_
 refine B7 T_ok func126 rfl rfl ntmps126 rfl (by simp) ?_
 refine rG ?_
 refine rK fun K hK=>?_
 rcases zWe h with hop|⟨hop,hp,hs⟩|⟨hop,hp,hs⟩|⟨hop,hp,hs⟩|⟨hop,hp,hs⟩|⟨hop,hp,hs⟩|⟨hop,hp,hs⟩|⟨hop,hp,hs⟩|⟨hop,hp,hs⟩|⟨hop,hp,hs⟩
 .have hp:=True.intro
  have hs:=True.intro
  simp [go_sem,hop]
  apply hK
  refine A4 ?_
  simp [go_sem,drB,hop,hp,hs]
 .simp [go_sem,hop,hp,hs,zLt,zLv,zLx,zLu,zLw,zLy]
  apply hK
  refine A4 ?_
  simp [go_sem,drB,hop,hp,hs]
 .simp [go_sem,hop,hp,hs,zLt,zLv,zLx,zLu,zLw,zLy]
  apply hK
  refine A4 ?_
  simp [go_sem,drB,hop,hp,hs]
 .simp [go_sem,hop,hp,hs,zLt,zLv,zLx,zLu,zLw,zLy]
  apply hK
  refine A4 ?_
  simp [go_sem,drB,hop,hp,hs]
 .simp [go_sem,hop,hp,hs,zLt,zLv,zLx,zLu,zLw,zLy]
  apply hK
  refine A4 ?_
  simp [go_sem,drB,hop,hp,hs]
 .simp [go_sem,hop,hp,hs,zLt,zLv,zLx,zLu,zLw,zLy]
  apply hK
  refine A4 ?_
  simp [go_sem,drB,hop,hp,hs]
 .simp [go_sem,hop,hp,hs,zLt,zLv,zLx,zLu,zLw,zLy]
  apply hK
  refine A4 ?_
  simp [go_sem,drB,hop,hp,hs]
 .simp [go_sem,hop,hp,hs,zLt,zLv,zLx,zLu,zLw,zLy]
  apply hK
  refine A4 ?_
  simp [go_sem,drB,hop,hp,hs]
 .simp [go_sem,hop,hp,hs,zLt,zLv,zLx,zLu,zLw,zLy]
  apply hK
  refine A4 ?_
  simp [go_sem,drB,hop,hp,hs]
 simp [go_sem,hop,hp,hs,zLt,zLv,zLx,zLu,zLw,zLy]
 apply hK
 refine A4 ?_
 simp [go_sem,drB,hop,hp,hs]
theorem U1 (k:List Int) (hk:k.length=112) (i:Nat) (hi:i<4) (r:Bool) (n:Int) (hn:r=true->0<=n/\n<8):Pf Tryz.prog 128 [.rp (mV k) (i*26),.agg [bV r,uV n]] (uV (Qc_ k i r n)):=by
 refine Pf.of_fn (.cons (.rp (zVn k)) (.cons (.agg (.cons (.val _) (.cons (.val _) .nil))) .nil)) (.val _) ?_
 refine B7 T_ok func128 rfl rfl ntmps128 rfl (by simp) ?_
 refine rG ?_
 refine A3 fun K1 hK1=>?_
 refine rG ?_
 refine cJ (fun h=>?_) fun h=>?_
 .have hr:r=false:=by simpa using h
  apply A1
  apply hK1
  refine rG ?_
  refine A4 ?_
  simp [go_sem,Qc_,hr]
 have hr:r=true:=by simpa using h
 obtain ⟨h0,h8⟩:=hn hr
 obtain ⟨m,rfl⟩:∃ m:Nat,n=m:=⟨n.toNat,by omega⟩
 have hm:m<8:=by omega
 have hmI:(m:Int)<8:=by omega
 refine dK 5 [[],[],[1],[0],[0,3],[0,1,2,3,4],[0,1,2,3,4,5],[0,1,2,3,4,5,6]] fun K hK=>?_
 first|dsimp only [List.take,List.drop]|dsimp [List.take,List.drop]
 simp [go_sem,hm,hmI,D0 hk,zd6 hk hi hm]
 refine ⟨by omega,?_⟩
 apply hK
 refine A4 ?_
 simp [go_sem,Qc_,hr]
theorem zWf (k:List Int) (hk:k.length=112) (i:Nat) (hi:i<4) (w:Nat) (hw:gt k (i*26+1)=(w:Nat)) (hw8:w<=8) (hlo:∀ s,s<8->0<=gt k (i*26+10+s*2)/\gt k (i*26+10+s*2)<8) (x:Nat) (hx:x<8):Pf Tryz.prog 160 [.rp (mV k) 0,.rp (mV k) (i*26),iV (x:Nat)] (uV (We_ k i (x:Nat) w)):=by
 refine Pf.of_fn (.cons (.rp (zVn k)) (.cons (.rp (zVn k)) (.cons (.val _) .nil))) (.val _) ?_
 have hwr:IntKind.i8.wrap ((w:Nat)-1)=(w:Nat)-1:=U0 (by omega) (by omega)
 have g58:(x:Int)<8/\(0:Int)<=(x:Nat):=by and_intros<;>omega
 refine B7 T_ok func160 rfl rfl ntmps160 rfl (by simp) ?_
 refine rG ?_
 refine A3 fun K1 hK1=>?_
 refine rK fun K hK=>?_
 simp [go_sem,D0 hk,D1 hk hi,hw,hwr]
 refine ⟨by omega,?_⟩
 apply hK
 apply A0
 refine A9 (α:=Nat) (fun n=>⟨40,[(0,.rp (mV k) 0),(1,.rp (mV k) (i*26)),(2,iV (x:Nat)),(7,i8V ((n:Nat)-1))],[],0⟩) (fun n=>n<=8/\We_ k i (x:Nat) n=We_ k i (x:Nat) w) (fun n=>n) w ?_ ?_ ?_
 .exact ⟨hw8,rfl⟩
 .refine Weaker.fw 1 0 ?_ ?_<;>simp [go_sem]
 rintro n ⟨hn,hl⟩
 skip
 refine A3 fun K2 hK2=>?_
 refine rG ?_
 refine cJ (fun h=>?_) fun h=>?_
 .simp at h
  obtain rfl:n=0:=by omega
  clear h
  apply A6
  apply hK1
  refine rK fun K hK=>?_
  simp [go_sem,hx,g58,D0 hk,ZZ_ hk hx]
  refine ⟨by omega,?_⟩
  apply hK
  refine A4 ?_
  simp [go_sem,<-hl,We_]
 simp at h
 have hn1:1<=n:=by omega
 clear h
 obtain ⟨m,rfl⟩:∃ m,n=m+1:=⟨n-1,by omega⟩
 have hm:m<8:=by omega
 have g59:(m:Int)<8/\(0:Int)<=(m:Nat):=by and_intros<;>omega
 obtain ⟨l0,l8⟩:=hlo m hm
 have hwl:IntKind.i64.wrap (gt k (i*26+10+m*2))=gt k (i*26+10+m*2):=E4 (by omega) (by omega)
 have hwm:IntKind.i8.wrap ((m:Nat)-1)=(m:Nat)-1:=U0 (by omega) (by omega)
 apply A1
 apply hK2
 refine A3 fun K3 hK3=>?_
 apply A0
 refine rK fun K hK=>?_
 simp [go_sem,hm,g59,D0 hk,zQi hk hi hm,hwl]
 trace_state
 refine ⟨by omega,?_⟩
 apply hK
 refine cK (fun h=>?_) fun h=>?_
 .have he:gt k (i*26+10+m*2)=(x:Nat):=by simpa using h
  refine rK fun K hK=>?_
  simp [go_sem,hm,g59,D0 hk,zQj hk hi hm]
  refine ⟨by omega,?_⟩
  apply hK
  refine A4 ?_
  simp [go_sem,<-hl,We_,he]
 have hne:¬ gt k (i*26+10+m*2)=(x:Nat):=by simpa using h
 apply A1
 apply hK3
 refine rF ?_ fun K h=>by simp [go_sem,hwm];exact h
 refine ⟨m,?_,?_,?_⟩
 .exact ⟨by omega,by rw [<-hl,We_,if_neg hne]⟩
 .omega
 refine Weaker.fw 1 0 ?_ ?_<;>simp [go_sem]
theorem zOr (k:List Int) (hk:k.length=112) (i:Nat) (hi:i<4) (w:Nat) (hw:gt k (i*26+1)=(w:Nat)+1) (hw8:w<8) (hlo:0<=gt k (i*26+10)/\gt k (i*26+10)<8) (r n:Nat):Sl.Fn Tryz.prog 130 [.ptr r 0 0,iV (i:Nat)] [(r,.rows 112 [.agg (mV k)])] n fun v H _=>v=.tup []/\H=[(r,.rows 112 [.agg (mV (O1 k i w))])]:=by
 have g60:(i:Int)<4/\(0:Int)<=(i:Nat):=by and_intros<;>omega
 obtain ⟨x,hx⟩:∃ x:Nat,gt k (i*26+10)=x:=⟨(gt k (i*26+10)).toNat,by omega⟩
 rw [hx] at hlo
 have hx8:x<8:=by omega
 have hxI:(x:Int)<8:=by omega
 have h1:k.set (104+x) (gt k (i*26+10+1))=P1 k i:=by unfold P1;rw [hx];rfl
 have hl1:(P1 k i).length=112:=by unfold P1;rw [length_set,hk]
 have hl2:(j4 (P1 k i) i).length=112:=Z8_ hl1 hi
 have hw2:gt (j4 (P1 k i) i) (i*26+1)=(w:Nat)+1:=by
  rw [Y4_ hl1 hi,if_neg (by omega)]
  unfold P1
  rw [H9 (by omega),hw]
 have h3:(j4 (P1 k i) i).set (i*26+1) (w:Nat)=Y4 k i w:=rfl
 have hl3:(Y4 k i w).length=112:=by unfold Y4;rw [length_set,hl2]
 have hw3:gt (Y4 k i w) (i*26+1)=(w:Nat):=by unfold Y4;rw [d8 (by omega)]
 have hww:IntKind.i8.wrap (w:Nat)=(w:Nat):=U0 (by omega) (by omega)
 have g61:(w:Int)<8/\i*26<=86:=by and_intros<;>omega
 have hsh:B2 (.agg (mV (P1 k i))) (i*26+10) (.agg (((mV (P1 k i)).drop (i*26+10+2)).take 14))=.agg (mV (j4 (P1 k i) i)):=zEu hl1 hi
 have h4:((Y4 k i w).set (i*26+10+w*2) 0).set (i*26+10+w*2+1) 0=O1 k i w:=rfl
 refine B7 T_ok func130 rfl rfl ntmps130 rfl (by simp) ?_
 refine rG ?_ fun K h=>by simp [go_sem,hi,g60];exact h
 refine dK 15 [[],[],[1],[1,2],[1,2,3],[1,2,3,4],[1,2,3,4,5],[],[7],[7,8],[7,8,9],[7,8,9,10],[7,8,9,10,11],[0],[0,13],[0,1,2,3,4,5,6,7,8,9,10,11,12,13,14],[0,1,2,3,4,5,6,7,8,9,10,11,12,13,14,15]] fun K hK=>?_
 first|dsimp only [List.take,List.drop]|dsimp [List.take,List.drop]
 simp [go_sem,D0 hk,zVq hk hi,zVr hk hi,hx,hx8,hxI,Y3_ hk hx8,h1]
 repeat refine ⟨by omega,?_⟩
 apply hK
 refine dK 8 [[],[0],[0,1],[0,1,2],[],[4],[4,5],[4,5,6],[0,1,2,3,4,5,6,7]] fun K hK=>?_
 first|dsimp only [List.take,List.drop]|dsimp [List.take,List.drop]
 simp [go_sem,D0 hl1,g61,hsh,take_take]
 repeat refine ⟨by omega,?_⟩
 apply hK
 refine rK fun K hK=>?_
 simp [go_sem,D0 hl2,D1 hl2 hi,hw2,hww,X1_ hl2 hi,h3]
 repeat refine ⟨by omega,?_⟩
 apply hK
 refine dE 8 [[],[],[1],[1,2],[1,2,3],[],[0],[0,6],[0,1,2,3,4,5,6,7],[0,1,2,3,4,5,6,7,8]] fun K hK=>?_
 first|dsimp only [List.take,List.drop]|dsimp [List.take,List.drop]
 simp [go_sem,D0 hl3,D1 hl3 hi,hw3,g61,zCo hl3 hi hw8,h4]
 repeat refine ⟨by omega,?_⟩
 apply hK
 refine ⟨.inl rfl,?_⟩
 simp [go_sem]
theorem zjz (x:Ins):M2 x.op=true\/(M2 x.op=false/\drB x=false)\/(M2 x.op=false/\drB x=true):=by cases M2 x.op<;>cases drB x<;>simp
theorem UG_ (t:Tst) (i:Nat) (hi:i<4) (l:List Ins) (hx:t.ths[i]?=some l) (hl:zIs l) (k:List Int) (hk:k.length=112) (p0:Nat) (hp0:gt k (i*26)=(p0:Nat)) (hpl:p0<=l.length) (r n:Nat) (hr:r≠2) (hrn:r<n) (h2n:2<n):Sl.Fn Tryz.prog 70 [.ptr 2 0 0,.ptr r 0 (i*26),iV (i:Nat)] [(2,.rows 3 [.agg [.rp t.cs 0,.map 0,.map 1]]),(r,.rows 112 [.agg (mV k)])] n fun v H _=>v=.tup []/\H=[(2,.rows 3 [.agg [.rp t.cs 0,.map 0,.map 1]]),(r,.rows 112 [.agg (mV (locT l i (l.length+1) k))])]:=by
 have g62:¬ r=2/\¬ 2=r:=by and_intros<;>omega
 have hil:i<t.ths.length:=(List.getElem?_eq_some_iff.1 hx).1
 have g63:(i:Int)<(t.ths.length:Nat)/\(0:Int)<=(i:Nat):=by and_intros<;>omega
 have hx':t.ths[i]=l:=(List.getElem?_eq_some_iff.1 hx).2
 have hl8:=hl.1
 refine B7 T_ok func70 rfl rfl ntmps70 rfl (by simp) ?_
 refine rG ?_ fun K h=>by simp [go_sem,g63,hil,hx,hx',Tst.cs,g62];exact h
 apply A0
 refine A9 (α:=List Int × Nat × Nat × Nat) (fun a=>⟨117,[(0,.ptr 2 0 0),(1,.ptr r 0 (i*26)),(2,iV (i:Nat)),(6,.ro 13 (W0 l))],[(2,.rows 3 [.agg [.rp t.cs 0,.map 0,.map 1]]),(r,.rows 112 [.agg (mV a.1)])],a.2.2.2⟩) (fun a=>a.1.length=112/\gt a.1 (i*26)=(a.2.1:Nat)/\a.2.1<=l.length/\l.length<a.2.1+a.2.2.1/\locT l i a.2.2.1 a.1=locT l i (l.length+1) k/\r<a.2.2.2/\2<a.2.2.2) (fun a=>a.2.2.1) (k,p0,l.length+1,n) ?_ ?_ ?_
 .exact ⟨hk,hp0,hpl,by dsimp only;omega,rfl,hrn,h2n⟩
 .refine Weaker.fy 1 0 ?_ ?_
  .simp [go_sem,g62]
  simp [go_sem,Tst.cs,g62]
 rintro ⟨q,p,e,j⟩ ⟨hq,hp,hpl,hpe,hlt,hrj,h2j⟩
 dsimp only at hq hp hpl hpe hlt hrj h2j ⊢
 have g64:¬ r=j/\¬ j=r/\¬ 2=j/\¬ j=2:=by and_intros<;>omega
 have hw64:IntKind.i64.wrap (p:Nat)=(p:Nat):=E4 (by omega) (by omega)
 refine A3 fun K1 hK1=>?_
 refine rK fun K hK=>?_
 simp [go_sem,D0 hq,I7 hq hi,D1 hq hi,hp,g62,g64,hw64]
 repeat refine ⟨by omega,?_⟩
 apply hK
 refine cJ (fun h=>?_) fun h=>?_
 .simp at h
  have hpn:p=l.length:=by omega
  clear h
  obtain ⟨e,rfl⟩:∃ e2,e=e2+1:=⟨e-1,by omega⟩
  apply A6
  refine ⟨.inl rfl,?_⟩
  have hq9:locT l i (e+1) q=q:=by rw [locT,hp,Int.toNat_natCast,List.getElem?_eq_none (by omega)]
  rw [<-hlt,hq9]
  simp [go_sem,g62,g64]
 simp at h
 have hpI:(p:Int)<(l.length:Nat):=by omega
 have hpn:p<l.length:=by omega
 clear h
 obtain ⟨x,hg,hg'⟩:=E0 hpn
 have hok:=hl.2 p x hg
 obtain ⟨d,hd⟩:∃ d:Nat,x.rd=d:=⟨x.rd.toNat,by have:=hok.rd0;omega⟩
 have hd8:d<8:=by have:=hok.rd8;omega
 have g65:(d:Int)<8/\(0:Int)<=(p:Nat):=by and_intros<;>omega
 obtain ⟨e,rfl⟩:∃ e2,e=e2+1:=⟨e-1,by omega⟩
 apply A1
 apply hK1
 apply A0
 refine rK fun K hK=>?_
 simp [go_sem,B6,g62,g64,D0 hq,I7 hq hi,D1 hq hi,hp,hd,hd8,g65,hpI,hpn,hg,hg']
 repeat refine ⟨by omega,?_⟩
 apply hK
 refine zC1 (fun u:Unit=>⟨117,[(0,.ptr 2 0 0),(1,.ptr r 0 (i*26)),(2,iV (i:Nat)),(6,.ro 13 (W0 l))],[(2,.rows 3 [.agg [.rp t.cs 0,.map 0,.map 1]]),(r,.rows 112 [.agg (mV (j8 x i q))])],j+60⟩) (fun u:Unit=>X2_ x i q=false) ?_ ?_
 .skip
  apply A0
  refine rK fun K hK=>?_
  simp [go_sem,B6,g62,g64]
  refine A2 (N5 x) ?_
  rcases zjz x with hm|⟨hm,hd2⟩|⟨hm,hd2⟩
  .simp [go_sem,hm,B6,g62,g64]
   apply hK
   refine cJ (fun h=>?_) fun h=>?_
   .simp at h
   clear h
   have hs:X2_ x i q=true:=by simp [X2_,hm]
   refine Tr.weaken (Weaker.del j) ?_
   refine A4 ?_
   have hq9:locT l i (e+1) q=q:=by rw [locT,hp,Int.toNat_natCast,hg];simp only [hs,if_true]
   rw [<-hlt,hq9]
   simp [go_sem,Sl.del,g62,g64]
  .simp [go_sem,hm,B6,g62,g64]
   refine A2 (Qr_ x hok.fence) ?_
   simp [go_sem,hm,hd2,B6,g62,g64]
   apply hK
   refine cK (fun h=>?_) fun h=>?_
   .simp at h
   clear h
   have hns:X2_ x i q=false:=by simp [X2_,hm,hd2]
   refine rG ?_ fun K h=>by simp [go_sem,B6,g62,g64];exact h
   refine cK (fun h=>?_) fun h=>?_
   .have h1:x.op=1:=by simpa using h
    refine dE 8 [[],[],[1],[],[3],[3,4],[0],[0,6],[0,1,2,3,4,5,6,7],[0,1,2,3,4,5,6,7,8]] fun K hK=>?_
    first|dsimp only [List.take,List.drop]|dsimp [List.take,List.drop]
    simp [go_sem,B6,g62,g64,D0 hq,I7 hq hi,D1 hq hi,hp,hd,hd8,g65,d7 hq hi hd8]
    repeat refine ⟨by omega,?_⟩
    have hls:j8 x i q=q.set (i*26+2+d) x.aN:=by unfold j8;rw [if_pos h1,hd];rfl
    apply hK
    refine ⟨(),hns,?_⟩
    refine Weaker.fy 1 0 ?_ ?_<;>simp [go_sem,hls,g62,g64]
   have h1:¬ x.op=1:=by simpa using h
   refine rG ?_ fun K h=>by simp [go_sem,B6,g62,g64];exact h
   refine cK (fun h=>?_) fun h=>?_
   .have h2:x.op<9:=by simpa using h
    refine dE 16 [[],[],[1],[],[3],[],[],[6],[5,6,7],[],[],[10],[5,6,7,8,9,10,11],[3,4,5,6,7,8,9,10,11,12],[0],[0,14],[0,1,2,3,4,5,6,7,8,9,10,11,12,13,14,15],[0,1,2,3,4,5,6,7,8,9,10,11,12,13,14,15,16]] fun K hK=>?_
    first|dsimp only [List.take,List.drop]|dsimp [List.take,List.drop]
    simp [go_sem,B6,g62,g64,D0 hq,I7 hq hi,D1 hq hi,hp,hd,hd8,g65]
    refine F6 (U1 q hq i hi x.aR x.aN hok.a) 1 (by simp [go_sem,i9,g62,g64]) ?_
    simp [go_sem,B6,g62,g64,D0 hq,I7 hq hi,D1 hq hi,hp,hd,hd8,g65]
    refine F6 (U1 q hq i hi x.bR x.bN hok.b) 1 (by simp [go_sem,i9,g62,g64]) ?_
    simp [go_sem,B6,g62,g64,D0 hq,I7 hq hi,D1 hq hi,hp,hd,hd8,g65]
    refine A5 (ZT_ x.op _ _) ?_
    simp [go_sem,d7 hq hi hd8,B6,g62,g64,D0 hq,I7 hq hi,D1 hq hi,hp,hd,hd8,g65]
    repeat refine ⟨by omega,?_⟩
    have hls:j8 x i q=q.set (i*26+2+d) (zC7 x.op (Qc_ q i x.aR x.aN) (Qc_ q i x.bR x.bN)):=by unfold j8;rw [if_neg h1,if_pos h2,hd];rfl
    apply hK
    refine ⟨(),hns,?_⟩
    refine Weaker.fy 1 0 ?_ ?_<;>simp [go_sem,hls,g62,g64]
   have h2:¬ x.op<9:=by simpa using h
   refine dK 16 [[],[0],[0,1],[0,1,2],[0,1,2,3],[0,1,2,3],[0,1,2,3,5],[0,1,2,3,4,5,6],[0,1,2,3],[0,1,2,3],[0,1,2,3,9],[0,1,2,3,4,5,6,7,8,9,10],[0,1,2,3,4,5,6,7,8,9,10,11],[0,1,2,3],[0,1,2,3,13],[0,1,2,3,13,14],[0,1,2,3,4,5,6,7,8,9,10,11,12,13,14,15],[0,1,2,3,4,5,6,7,8,9,10,11,12,13,14,15,16],[0,1,2,3,4,5,6,7,8,9,10,11,12,13,14,15,16,17]] fun K hK=>?_
   first|dsimp only [List.take,List.drop]|dsimp [List.take,List.drop]
   rcases Nat.lt_or_ge 15 x.op.toNat with h3|h3
   .have h3I:15<x.op:=by omega
    simp [go_sem,h3I,B6,g62,g64,D0 hq,I7 hq hi,D1 hq hi,hp,hd,hd8,g65]
    refine F6 (U1 q hq i hi x.aR x.aN hok.a) 1 (by simp [go_sem,i9,g62,g64]) ?_
    simp [go_sem,h3I,B6,g62,g64,D0 hq,I7 hq hi,D1 hq hi,hp,hd,hd8,g65]
    refine F6 (U1 q hq i hi x.bR x.bN hok.b) 1 (by simp [go_sem,i9,g62,g64]) ?_
    simp [go_sem,h3I,B6,g62,g64,D0 hq,I7 hq hi,D1 hq hi,hp,hd,hd8,g65]
    apply hK
    refine cJ (fun h=>?_) fun h=>?_
    .have hb:brT q i x=false:=by simpa [brT,h3I,G3,decide_eq_decide] using h
     have hls:j8 x i q=q:=by unfold j8;rw [if_neg h1,if_neg h2,hb];rfl
     apply A1
     refine ⟨(),hns,?_⟩
     refine Weaker.fy 1 0 ?_ ?_<;>simp [go_sem,hls,g62,g64]
    have hb:brT q i x=true:=by simpa [brT,h3I,G3,decide_eq_decide] using h
    have hs1:=hok.skip
    have hs0:=hok.skip0
    have hsk:IntKind.i8.wrap x.skip=x.skip:=U0 (by omega) (by omega)
    have hskp:IntKind.i8.wrap ((p:Int)+x.skip)=(p:Int)+x.skip:=U0 (by omega) (by omega)
    refine dE 7 [[],[0],[0,1],[0,1,2],[],[4],[4,5],[0,1,2,3,4,5,6],[0,1,2,3,4,5,6,7],[0,1,2,3,4,5,6,7,8],[0,1,2,3,4,5,6,7,8,9]] fun K hK=>?_
    first|dsimp only [List.take,List.drop]|dsimp [List.take,List.drop]
    simp [go_sem,B6,g62,g64,D0 hq,I7 hq hi,D1 hq hi,hp,hd,hd8,g65,hsk,hskp,V1_ hq hi]
    repeat refine ⟨by omega,?_⟩
    have hls:j8 x i q=q.set (i*26) ((p:Int)+x.skip):=by unfold j8;rw [if_neg h1,if_neg h2,if_pos hb,hp]
    apply hK
    refine ⟨(),hns,?_⟩
    refine Weaker.fy 1 0 ?_ ?_<;>simp [go_sem,hls,g62,g64]
   have h3I:¬ 15<x.op:=by omega
   simp [go_sem,h3I,B6,g62,g64,D0 hq,I7 hq hi,D1 hq hi,hp,hd,hd8,g65]
   apply hK
   refine cK (fun h=>?_) fun h=>?_
   .simp at h
   clear h
   have hb:brT q i x=false:=by simp [brT,h3I]
   have hls:j8 x i q=q:=by unfold j8;rw [if_neg h1,if_neg h2,hb];rfl
   apply A1
   refine ⟨(),hns,?_⟩
   refine Weaker.fy 1 0 ?_ ?_<;>simp [go_sem,hls,g62,g64]
  simp [go_sem,hm,B6,g62,g64]
  refine A2 (Qr_ x hok.fence) ?_
  simp [go_sem,hm,hd2,B6,g62,g64,D0 hq,I7 hq hi,D1 hq hi,hp]
  repeat refine ⟨by omega,?_⟩
  apply hK
  refine cK (fun h=>?_) fun h=>?_
  .have hs:X2_ x i q=true:=by simpa [X2_,hm,hd2] using h
   refine Tr.weaken (Weaker.del j) ?_
   refine A4 ?_
   have hq9:locT l i (e+1) q=q:=by rw [locT,hp,Int.toNat_natCast,hg];simp only [hs,if_true]
   rw [<-hlt,hq9]
   simp [go_sem,Sl.del,g62,g64]
  have hns:X2_ x i q=false:=by simpa [X2_,hm,hd2] using h
  refine rG ?_ fun K h=>by simp [go_sem,B6,g62,g64];exact h
  refine cK (fun h=>?_) fun h=>?_
  .have h1:x.op=1:=by simpa using h
   refine dE 8 [[],[],[1],[],[3],[3,4],[0],[0,6],[0,1,2,3,4,5,6,7],[0,1,2,3,4,5,6,7,8]] fun K hK=>?_
   first|dsimp only [List.take,List.drop]|dsimp [List.take,List.drop]
   simp [go_sem,B6,g62,g64,D0 hq,I7 hq hi,D1 hq hi,hp,hd,hd8,g65,d7 hq hi hd8]
   repeat refine ⟨by omega,?_⟩
   have hls:j8 x i q=q.set (i*26+2+d) x.aN:=by unfold j8;rw [if_pos h1,hd];rfl
   apply hK
   refine ⟨(),hns,?_⟩
   refine Weaker.fy 1 0 ?_ ?_<;>simp [go_sem,hls,g62,g64]
  have h1:¬ x.op=1:=by simpa using h
  refine rG ?_ fun K h=>by simp [go_sem,B6,g62,g64];exact h
  refine cK (fun h=>?_) fun h=>?_
  .have h2:x.op<9:=by simpa using h
   refine dE 16 [[],[],[1],[],[3],[],[],[6],[5,6,7],[],[],[10],[5,6,7,8,9,10,11],[3,4,5,6,7,8,9,10,11,12],[0],[0,14],[0,1,2,3,4,5,6,7,8,9,10,11,12,13,14,15],[0,1,2,3,4,5,6,7,8,9,10,11,12,13,14,15,16]] fun K hK=>?_
   first|dsimp only [List.take,List.drop]|dsimp [List.take,List.drop]
   simp [go_sem,B6,g62,g64,D0 hq,I7 hq hi,D1 hq hi,hp,hd,hd8,g65]
   refine F6 (U1 q hq i hi x.aR x.aN hok.a) 1 (by simp [go_sem,i9,g62,g64]) ?_
   simp [go_sem,B6,g62,g64,D0 hq,I7 hq hi,D1 hq hi,hp,hd,hd8,g65]
   refine F6 (U1 q hq i hi x.bR x.bN hok.b) 1 (by simp [go_sem,i9,g62,g64]) ?_
   simp [go_sem,B6,g62,g64,D0 hq,I7 hq hi,D1 hq hi,hp,hd,hd8,g65]
   refine A5 (ZT_ x.op _ _) ?_
   simp [go_sem,d7 hq hi hd8,B6,g62,g64,D0 hq,I7 hq hi,D1 hq hi,hp,hd,hd8,g65]
   repeat refine ⟨by omega,?_⟩
   have hls:j8 x i q=q.set (i*26+2+d) (zC7 x.op (Qc_ q i x.aR x.aN) (Qc_ q i x.bR x.bN)):=by unfold j8;rw [if_neg h1,if_pos h2,hd];rfl
   apply hK
   refine ⟨(),hns,?_⟩
   refine Weaker.fy 1 0 ?_ ?_<;>simp [go_sem,hls,g62,g64]
  have h2:¬ x.op<9:=by simpa using h
  refine dK 16 [[],[0],[0,1],[0,1,2],[0,1,2,3],[0,1,2,3],[0,1,2,3,5],[0,1,2,3,4,5,6],[0,1,2,3],[0,1,2,3],[0,1,2,3,9],[0,1,2,3,4,5,6,7,8,9,10],[0,1,2,3,4,5,6,7,8,9,10,11],[0,1,2,3],[0,1,2,3,13],[0,1,2,3,13,14],[0,1,2,3,4,5,6,7,8,9,10,11,12,13,14,15],[0,1,2,3,4,5,6,7,8,9,10,11,12,13,14,15,16],[0,1,2,3,4,5,6,7,8,9,10,11,12,13,14,15,16,17]] fun K hK=>?_
  first|dsimp only [List.take,List.drop]|dsimp [List.take,List.drop]
  rcases Nat.lt_or_ge 15 x.op.toNat with h3|h3
  .have h3I:15<x.op:=by omega
   simp [go_sem,h3I,B6,g62,g64,D0 hq,I7 hq hi,D1 hq hi,hp,hd,hd8,g65]
   refine F6 (U1 q hq i hi x.aR x.aN hok.a) 1 (by simp [go_sem,i9,g62,g64]) ?_
   simp [go_sem,h3I,B6,g62,g64,D0 hq,I7 hq hi,D1 hq hi,hp,hd,hd8,g65]
   refine F6 (U1 q hq i hi x.bR x.bN hok.b) 1 (by simp [go_sem,i9,g62,g64]) ?_
   simp [go_sem,h3I,B6,g62,g64,D0 hq,I7 hq hi,D1 hq hi,hp,hd,hd8,g65]
   apply hK
   refine cJ (fun h=>?_) fun h=>?_
   .have hb:brT q i x=false:=by simpa [brT,h3I,G3,decide_eq_decide] using h
    have hls:j8 x i q=q:=by unfold j8;rw [if_neg h1,if_neg h2,hb];rfl
    apply A1
    refine ⟨(),hns,?_⟩
    refine Weaker.fy 1 0 ?_ ?_<;>simp [go_sem,hls,g62,g64]
   have hb:brT q i x=true:=by simpa [brT,h3I,G3,decide_eq_decide] using h
   have hs1:=hok.skip
   have hs0:=hok.skip0
   have hsk:IntKind.i8.wrap x.skip=x.skip:=U0 (by omega) (by omega)
   have hskp:IntKind.i8.wrap ((p:Int)+x.skip)=(p:Int)+x.skip:=U0 (by omega) (by omega)
   refine dE 7 [[],[0],[0,1],[0,1,2],[],[4],[4,5],[0,1,2,3,4,5,6],[0,1,2,3,4,5,6,7],[0,1,2,3,4,5,6,7,8],[0,1,2,3,4,5,6,7,8,9]] fun K hK=>?_
   first|dsimp only [List.take,List.drop]|dsimp [List.take,List.drop]
   simp [go_sem,B6,g62,g64,D0 hq,I7 hq hi,D1 hq hi,hp,hd,hd8,g65,hsk,hskp,V1_ hq hi]
   repeat refine ⟨by omega,?_⟩
   have hls:j8 x i q=q.set (i*26) ((p:Int)+x.skip):=by unfold j8;rw [if_neg h1,if_neg h2,if_pos hb,hp]
   apply hK
   refine ⟨(),hns,?_⟩
   refine Weaker.fy 1 0 ?_ ?_<;>simp [go_sem,hls,g62,g64]
  have h3I:¬ 15<x.op:=by omega
  simp [go_sem,h3I,B6,g62,g64,D0 hq,I7 hq hi,D1 hq hi,hp,hd,hd8,g65]
  apply hK
  refine cK (fun h=>?_) fun h=>?_
  .simp at h
  clear h
  have hb:brT q i x=false:=by simp [brT,h3I]
  have hls:j8 x i q=q:=by unfold j8;rw [if_neg h1,if_neg h2,hb];rfl
  apply A1
  refine ⟨(),hns,?_⟩
  refine Weaker.fy 1 0 ?_ ?_<;>simp [go_sem,hls,g62,g64]
 rintro u hns
 obtain ⟨p',hp2,hpp,hpl2,hq3⟩:=zIu hq hi hp hok
 have hq2:(j8 x i q).length=112:=(Za_ x i q).trans hq
 have hwp:IntKind.i8.wrap ((p':Int)+1)=(p':Int)+1:=U0 (by omega) (by omega)
 have hinc:(j8 x i q).set (i*26) ((p':Int)+1)=WT_ (j8 x i q) i:=by unfold WT_;rw [hp2]
 refine rE fun K hK=>?_
 simp [go_sem,D0 hq2,I7 hq2 hi,hp2,hwp,V1_ hq2 hi,hinc,g62,g64]
 repeat refine ⟨by omega,?_⟩
 apply hK
 refine ⟨(WT_ (j8 x i q) i,p'+1,e,j+200),?_,?_,?_⟩
 .dsimp only;exact ⟨by rw [Zb_,Za_,hq],hq3,by omega,by omega,by rw [<-hlt,locT,hp,Int.toNat_natCast,hg];simp only [hns,Bool.false_eq_true,if_false],by omega,by omega⟩
 .dsimp only;omega
 refine Weaker.fy 1 0 ?_ ?_<;>simp [go_sem,g62,g64]
theorem zJl (k:List Int) (i:Nat) (loc:Int):∀ n,We_ k i loc n=zO9 k i loc n
 | 0=>rfl
 | n+1=>by rw [We_,zO9,zJl k i loc n]
theorem zWg (t:Tst) (i:Nat) (hi:i<4) (l:List Ins) (hx:t.ths[i]?=some l) (hl:zIs l) (q:List Int) (hq:q.length=112) (p:Nat) (hp:gt q (i*26)=(p:Nat)) (hpl:p<=l.length) (w:Nat) (hw:gt q (i*26+1)=(w:Nat)) (hwp:w<=p) (hlo:∀ s,s<8->0<=gt q (i*26+10+s*2)/\gt q (i*26+10+s*2)<8) (r n:Nat) (hr:r≠2) (hrn:r<n) (h2n:2<n):Sl.Fn Tryz.prog 129 [.ptr 2 0 0,.ptr r 0 0,iV (i:Nat)] [(2,.rows 3 [.agg [.rp t.cs 0,.map 0,.map 1]]),(r,.rows 112 [.agg (mV q)])] n fun v H _=>v=bV (N0 l i q).isSome/\H=[(2,.rows 3 [.agg [.rp t.cs 0,.map 0,.map 1]]),(r,.rows 112 [.agg (mV ((N0 l i q).getD q))])]:=by
 have g72:¬ r=2/\¬ 2=r:=by and_intros<;>omega
 have hil:i<t.ths.length:=(List.getElem?_eq_some_iff.1 hx).1
 have g73:(i:Int)<(t.ths.length:Nat)/\(0:Int)<=(i:Nat)/\(i:Int)<4:=by and_intros<;>omega
 have hx':t.ths[i]=l:=(List.getElem?_eq_some_iff.1 hx).2
 have hl8:=hl.1
 have hw64:IntKind.i64.wrap (p:Nat)=(p:Nat):=E4 (by omega) (by omega)
 have hlos:=hlo
 clear hlo
 have hwI:(w:Int)<9:=by omega
 refine B7 T_ok func129 rfl rfl ntmps129 rfl (by simp) ?_
 refine rG ?_
 refine rG ?_ fun K h=>by simp [go_sem,g73,hi,g72];exact h
 refine A3 fun K1 hK1=>?_
 refine dK 16 [[],[0],[0,1],[0,1,2],[0,1,2,3],[],[5],[5,6],[5,6,7],[5,6,7,8],[5,6,7,8,9],[5,6,7,8,9,10],[],[5,6,7,8,9,10,11,12],[5,6,7,8,9,10,11,12,13],[5,6,7,8,9,10,11,12,13,14],[0,1,2,3,4,5,6,7,8,9,10,11,12,13,14,15]] fun K hK=>?_
 first|dsimp only [List.take,List.drop]|dsimp [List.take,List.drop]
 simp [go_sem,g73,hil,hx,hx',Tst.cs,D0 hq,I7 hq hi,hp,hw64,hi,g72]
 repeat refine ⟨by omega,?_⟩
 apply hK
 refine cK (fun h=>?_) fun h=>?_
 .simp at h
  have hpn:p=l.length:=by omega
  clear h
  have hst:N0 l i q=none:=by unfold N0;rw [hp,Int.toNat_natCast,List.getElem?_eq_none (by omega)]
  refine rG ?_
  refine A4 ?_
  simp [go_sem,hst,Tst.cs,g72]
 simp at h
 have hpI:(p:Int)<(l.length:Nat):=by omega
 have hpn:p<l.length:=by omega
 clear h
 obtain ⟨x,hg,hg'⟩:=E0 hpn
 have hok:=hl.2 p x hg
 obtain ⟨d,hd⟩:∃ d:Nat,x.rd=d:=⟨x.rd.toNat,by have:=hok.rd0;omega⟩
 have hd8:d<8:=by have:=hok.rd8;omega
 have g74:(d:Int)<8/\(0:Int)<=(p:Nat):=by and_intros<;>omega
 apply A1
 apply hK1
 have g75:¬ r=n+32/\¬ n+32=r/\¬ 2=n+32/\¬ n+32=2:=by and_intros<;>omega
 refine P7 T_ok (by kernel_rfl) 17 [[],[0],[0,1],[0,1,2],[0,1,2,3],[0,1,2,3,4],[0,1,2,3,4,5],[],[0,1,2,3,4,5,6,7],[0,1,2,3,4,5,6,7,8],[],[10],[10,11],[10,11,12],[0,1,2,3,4,5,6,7,8,9,10,11,12,13],[0,1,2,3,4,5,6,7,8,9,10,11,12,13,14],[],[0,1,2,3,4,5,6,7,8,9,10,11,12,13,14,15,16]] [(0,16),(1,16),(2,16),(3,16),(4,16),(5,16),(6,16),(7,16),(8,16),(9,16),(10,16),(11,16),(12,16),(13,16),(14,16),(15,16)] (by decide) (by decide) (by decide) ⟨139,[(0,.ptr 2 0 0),(1,.ptr r 0 0),(2,iV (i:Nat)),(7,.ptr r 0 (i*26)),(8,.ptr (n+32) 0 0)],[(n+32,.rows 13 [B6 x]),(2,.rows 3 [.agg [.rp t.cs 0,.map 0,.map 1]]),(r,.rows 112 [.agg (mV q)])],n+32+1⟩ ?_ ?_
 .first|dsimp only [List.take,List.drop]|dsimp [List.take,List.drop]
  simp [go_sem,g73,hil,hx,hx',Tst.cs,hpI,g74,hpn,hg,hg',D0 hq,I7 hq hi,hp,B6,zHb,zBs,g72,g75]
  repeat refine ⟨by omega,?_⟩
  refine Weaker.fw 1 0 ?_ ?_<;>simp [go_sem,B6,Tst.cs,g72,g75]
 generalize hj:n+32=j
 have g76:r<j/\2<j/\¬ r=j/\¬ j=r/\¬ 2=j/\¬ j=2:=by and_intros<;>omega
 refine zC1 (fun k1:List Int=>⟨139,[(0,.ptr 2 0 0),(1,.ptr r 0 0),(2,iV (i:Nat)),(7,.ptr r 0 (i*26))],[(2,.rows 3 [.agg [.rp t.cs 0,.map 0,.map 1]]),(r,.rows 112 [.agg (mV k1)])],j+200⟩) (fun k1:List Int=>WV_ x i q=some k1) ?_ ?_
 .skip
  refine rG ?_ fun K h=>by simp [go_sem,B6,g72,g76];exact h
  apply A0
  refine rG ?_ fun K h=>by simp [go_sem,B6,g72,g76];exact h
  refine cK (fun h=>?_) fun h=>?_
  .have h1:x.op=9:=by simpa using h
   have hlc:=hok.loc (by simp [M2,rdB,wrB,h1])
   obtain ⟨y,hlo⟩:∃ y:Nat,x.loc=y:=⟨x.loc.toNat,by omega⟩
   have hlo8:y<8:=by omega
   have hloI:(y:Int)<8:=by omega
   refine dE 10 [[],[],[1],[],[],[],[5],[3,4,5,6],[0],[0,8],[0,1,2,3,4,5,6,7,8,9],[0,1,2,3,4,5,6,7,8,9,10]] fun K hK=>?_
   first|dsimp only [List.take,List.drop]|dsimp [List.take,List.drop]
   simp [go_sem,B6,g72,g76,D0 hq,I7 hq hi,D1 hq hi,hp,hd,hd8,g74,hw,hwI,g73,hi,hw64,hlo,hlo8,hloI,ZZ_ hq hlo8]
   refine F6 (zWf q hq i hi w hw (by omega) hlos y hlo8) 1 (by simp [go_sem,i9,g72,g76]) ?_
   simp [go_sem,d7 hq hi hd8,B6,g72,g76,D0 hq,I7 hq hi,D1 hq hi,hp,hd,hd8,g74,hw,hwI,g73,hi,hw64]
   repeat refine ⟨by omega,?_⟩
   have hop:WV_ x i q=some (q.set (i*26+2+d) (We_ q i (y:Nat) w)):=by unfold WV_;rw [if_pos h1,hd,hw,hlo,zJl];rfl
   apply hK
   refine ⟨_,hop,?_⟩
   refine Weaker.fy 1 0 ?_ ?_<;>simp [go_sem,g72,g76]
  have h1:¬ x.op=9:=by simpa using h
  refine rG ?_ fun K h=>by simp [go_sem,B6,g72,g76];exact h
  refine cK (fun h=>?_) fun h=>?_
  .have h2:x.op=10:=by simpa using h
   have hlc:=hok.loc (by simp [M2,rdB,wrB,h2])
   obtain ⟨y,hlo⟩:∃ y:Nat,x.loc=y:=⟨x.loc.toNat,by omega⟩
   have hlo8:y<8:=by omega
   have hloI:(y:Int)<8:=by omega
   have hws:w<8:=by omega
   have hw8:(w:Int)<8:=by omega
   have hlw:IntKind.i8.wrap (y:Nat)=(y:Nat):=U0 (by omega) (by omega)
   refine dK 15 [[],[],[1],[1,2],[1,2,3],[],[5],[5,6],[],[],[9],[8,9,10],[5,6,7,8,9,10,11],[0],[0,13],[0,1,2,3,4,5,6,7,8,9,10,11,12,13,14],[0,1,2,3,4,5,6,7,8,9,10,11,12,13,14,15]] fun K hK=>?_
   first|dsimp only [List.take,List.drop]|dsimp [List.take,List.drop]
   simp [go_sem,B6,g72,g76,D0 hq,I7 hq hi,D1 hq hi,hp,hd,hd8,g74,hw,hwI,g73,hi,hw64,hlo,hlo8,hloI,ZZ_ hq hlo8,hw8]
   repeat refine ⟨by omega,?_⟩
   refine F6 (U1 q hq i hi x.aR x.aN hok.a) 1 (by simp [go_sem,i9,g72,g76]) ?_
   simp [go_sem,hw8,hloI,hlo8,hlo,hlw,zCo hq hi hws,X1_,B6,g72,g76,D0 hq,I7 hq hi,D1 hq hi,hp,hd,hd8,g74,hw,hwI,g73,hi,hw64]
   repeat refine ⟨by omega,?_⟩
   generalize hq1e:(q.set (i*26+10+w*2) (y:Nat)).set (i*26+10+w*2+1) (Qc_ q i x.aR x.aN)=q1
   have hq1:q1.length=112:=by rw [<-hq1e];simp [hq]
   have hw1:gt q1 (i*26+1)=(w:Nat):=by rw [<-hq1e,H9 (by omega),H9 (by omega),hw]
   have hwi:IntKind.i8.wrap ((w:Int)+1)=(w:Int)+1:=U0 (by omega) (by omega)
   apply hK
   refine rE fun K hK=>?_
   simp [go_sem,D0 hq1,D1 hq1 hi,hw1,hwi,X1_ hq1 hi,g72,g76]
   repeat refine ⟨by omega,?_⟩
   have hop:WV_ x i q=some (q1.set (i*26+1) ((w:Int)+1)):=by
    unfold WV_
    rw [if_neg h1,if_pos h2,hw,Int.toNat_natCast,hlo,hq1e]
   apply hK
   refine ⟨_,hop,?_⟩
   refine Weaker.fy 1 0 ?_ ?_<;>simp [go_sem,g72,g76]
  have h2:¬ x.op=10:=by simpa using h
  refine A3 fun K2 hK2=>?_
  refine rG ?_ fun K h=>by simp [go_sem,B6,g72,g76];exact h
  refine cK (fun h=>?_) fun h=>?_
  .have h3:x.op=11:=by simpa using h
   apply A1
   apply hK2
   refine cJ (fun h=>?_) fun h=>?_
   .simp [h3] at h
   clear h
   have hlc:=hok.loc (by simp [M2,rdB,wrB,h3])
   obtain ⟨y,hlo⟩:∃ y:Nat,x.loc=y:=⟨x.loc.toNat,by omega⟩
   have hlo8:y<8:=by omega
   have hloI:(y:Int)<8:=by omega
   refine A3 fun K3 hK3=>?_
   refine rK fun K hK=>?_
   simp [go_sem,B6,g72,g76,D0 hq,I7 hq hi,D1 hq hi,hp,hd,hd8,g74,hw,hwI,g73,hi,hw64]
   repeat refine ⟨by omega,?_⟩
   apply hK
   refine cK (fun h=>?_) fun h=>?_
   .have hw0:0<w:=by simpa using h
    refine rG ?_
    refine Tr.weaken (Weaker.del j) ?_
    have hst:N0 l i q=none:=by unfold N0;rw [hp,Int.toNat_natCast,hg];simp [WV_,h3,hw,hw0]
    refine A4 ?_
    simp [go_sem,hst,Sl.del,g72,g76]
   have hw0:w=0:=by simpa using h
   apply A1
   apply hK3
   refine dK 11 [[],[],[1],[0],[0,3],[0,1,2,3,4],[0,1,2,3,4,5],[],[],[8],[7,8,9],[0,1,2,3,4,5,6,7,8,9,10],[0,1,2,3,4,5,6,7,8,9,10,11]] fun K hK=>?_
   first|dsimp only [List.take,List.drop]|dsimp [List.take,List.drop]
   simp [go_sem,B6,g72,g76,D0 hq,I7 hq hi,D1 hq hi,hp,hd,hd8,g74,hw,hwI,g73,hi,hw64,hlo,hlo8,hloI,ZZ_ hq hlo8]
   repeat refine ⟨by omega,?_⟩
   refine F6 (U1 q hq i hi x.aR x.aN hok.a) 1 (by simp [go_sem,i9,g72,g76]) ?_
   simp [go_sem,B6,g72,g76,D0 hq,I7 hq hi,D1 hq hi,hp,hd,hd8,g74,hw,hwI,g73,hi,hw64,hlo,hlo8,hloI,ZZ_ hq hlo8]
   repeat refine ⟨by omega,?_⟩
   apply hK
   refine A3 fun K4 hK4=>?_
   refine rG ?_ fun K h=>by simp [go_sem,B6,g72,g76];exact h
   refine cK (fun h=>?_) fun h=>?_
   .simp [h3] at h
   clear h
   apply A1
   apply hK4
   refine dK 6 [[],[],[1],[],[0],[0,4],[0,1,2,3,4,5],[0,1,2,3,4,5,6]] fun K hK=>?_
   first|dsimp only [List.take,List.drop]|dsimp [List.take,List.drop]
   simp [go_sem,B6,g72,g76,D0 hq,I7 hq hi,D1 hq hi,hp,hd,hd8,g74,hw,hwI,g73,hi,hw64,hlo,hlo8,hloI,ZZ_ hq hlo8,Y3_ hq hlo8]
   repeat refine ⟨by omega,?_⟩
   generalize hq4e:q.set (104+y) (Qc_ q i x.aR x.aN)=q4
   have hq4:q4.length=112:=by rw [<-hq4e,length_set,hq]
   apply hK
   refine dE 6 [[],[],[1],[],[0],[0,4],[0,1,2,3,4,5],[0,1,2,3,4,5,6]] fun K hK=>?_
   first|dsimp only [List.take,List.drop]|dsimp [List.take,List.drop]
   simp [go_sem,B6,g72,g76,hd,hd8,g74,D0 hq4,d7 hq4 hi hd8]
   repeat refine ⟨by omega,?_⟩
   have hop:WV_ x i q=some (q4.set (i*26+2+d) (gt q (104+y))):=by
    unfold WV_
    rw [if_neg h1,if_neg h2,if_pos (by omega),if_neg (by omega),if_neg (by omega),hd,hlo,Int.toNat_natCast,Int.toNat_natCast,hq4e]
   apply hK
   refine ⟨_,hop,?_⟩
   refine Weaker.fy 1 0 ?_ ?_<;>simp [go_sem,g72,g76]
  have h3:¬ x.op=11:=by simpa using h
  refine rF ?_ fun K h=>by simp [go_sem,B6,g72,g76];exact h
  apply hK2
  refine cJ (fun h=>?_) fun h=>?_
  .have h4:¬ x.op=12:=by simpa using h
   have hst:N0 l i q=none:=by unfold N0;rw [hp,Int.toNat_natCast,hg];simp [WV_,h1,h2,h3,h4]
   refine rG ?_
   refine Tr.weaken (Weaker.del j) ?_
   refine A4 ?_
   simp [go_sem,hst,Sl.del,g72,g76]
  have h4:x.op=12:=by simpa using h
  have hlc:=hok.loc (by simp [M2,rdB,wrB,h4])
  obtain ⟨y,hlo⟩:∃ y:Nat,x.loc=y:=⟨x.loc.toNat,by omega⟩
  have hlo8:y<8:=by omega
  have hloI:(y:Int)<8:=by omega
  refine A3 fun K5 hK5=>?_
  refine rK fun K hK=>?_
  simp [go_sem,B6,g72,g76,D0 hq,I7 hq hi,D1 hq hi,hp,hd,hd8,g74,hw,hwI,g73,hi,hw64]
  repeat refine ⟨by omega,?_⟩
  apply hK
  refine cK (fun h=>?_) fun h=>?_
  .have hw0:0<w:=by simpa using h
   refine rG ?_
   refine Tr.weaken (Weaker.del j) ?_
   have hst:N0 l i q=none:=by unfold N0;rw [hp,Int.toNat_natCast,hg];simp [WV_,h4,hw,hw0]
   refine A4 ?_
   simp [go_sem,hst,Sl.del,g72,g76]
  have hw0:w=0:=by simpa using h
  apply A1
  apply hK5
  refine dK 11 [[],[],[1],[0],[0,3],[0,1,2,3,4],[0,1,2,3,4,5],[],[],[8],[7,8,9],[0,1,2,3,4,5,6,7,8,9,10],[0,1,2,3,4,5,6,7,8,9,10,11]] fun K hK=>?_
  first|dsimp only [List.take,List.drop]|dsimp [List.take,List.drop]
  simp [go_sem,B6,g72,g76,D0 hq,I7 hq hi,D1 hq hi,hp,hd,hd8,g74,hw,hwI,g73,hi,hw64,hlo,hlo8,hloI,ZZ_ hq hlo8]
  repeat refine ⟨by omega,?_⟩
  refine F6 (U1 q hq i hi x.aR x.aN hok.a) 1 (by simp [go_sem,i9,g72,g76]) ?_
  simp [go_sem,B6,g72,g76,D0 hq,I7 hq hi,D1 hq hi,hp,hd,hd8,g74,hw,hwI,g73,hi,hw64,hlo,hlo8,hloI,ZZ_ hq hlo8]
  repeat refine ⟨by omega,?_⟩
  apply hK
  refine A3 fun K6 hK6=>?_
  refine rG ?_ fun K h=>by simp [go_sem,B6,g72,g76];exact h
  refine cJ (fun h=>?_) fun h=>?_
  .simp [h4] at h
  clear h
  refine rF ?_
  apply hK6
  refine dK 6 [[],[],[1],[],[0],[0,4],[0,1,2,3,4,5],[0,1,2,3,4,5,6]] fun K hK=>?_
  first|dsimp only [List.take,List.drop]|dsimp [List.take,List.drop]
  simp [go_sem,B6,g72,g76,D0 hq,I7 hq hi,D1 hq hi,hp,hd,hd8,g74,hw,hwI,g73,hi,hw64,hlo,hlo8,hloI,ZZ_ hq hlo8,Y3_ hq hlo8]
  repeat refine ⟨by omega,?_⟩
  generalize hq4e:q.set (104+y) (IntKind.u64.wrap (Qc_ q i x.aR x.aN+gt q (104+y)))=q4
  have hq4:q4.length=112:=by rw [<-hq4e,length_set,hq]
  apply hK
  refine dE 6 [[],[],[1],[],[0],[0,4],[0,1,2,3,4,5],[0,1,2,3,4,5,6]] fun K hK=>?_
  first|dsimp only [List.take,List.drop]|dsimp [List.take,List.drop]
  simp [go_sem,B6,g72,g76,hd,hd8,g74,D0 hq4,d7 hq4 hi hd8]
  repeat refine ⟨by omega,?_⟩
  have hop:WV_ x i q=some (q4.set (i*26+2+d) (gt q (104+y))):=by
   unfold WV_
   rw [if_neg h1,if_neg h2,if_pos (by omega),if_neg (by omega),if_pos h4,hd,hlo,Int.toNat_natCast,Int.toNat_natCast,hq4e]
  apply hK
  refine ⟨_,hop,?_⟩
  refine Weaker.fy 1 0 ?_ ?_<;>simp [go_sem,g72,g76]
 rintro k1 hop
 have hk1:k1.length=112:=(zCt hop).trans hq
 have hp1:gt k1 (i*26)=(p:Nat):=(zJ0 hi hok.rd0 (fun h=>(hok.loc h).2) hop).trans hp
 have hwp1:IntKind.i8.wrap ((p:Int)+1)=(p:Int)+1:=U0 (by omega) (by omega)
 have hinc:k1.set (i*26) ((p:Int)+1)=WT_ k1 i:=by unfold WT_;rw [hp1]
 have hk2:(WT_ k1 i).length=112:=(Zb_ k1 i).trans hk1
 have hp2:gt (WT_ k1 i) (i*26)=((p+1:Nat):Int):=by unfold WT_;rw [d8 (by omega),hp1];rfl
 have hst:N0 l i q=some (locT l i (l.length+1) (WT_ k1 i)):=by unfold N0;rw [hp,Int.toNat_natCast,hg];simp only [hop,Option.map_some]
 refine rK fun K hK=>?_
 simp [go_sem,D0 hk1,I7 hk1 hi,hp1,hwp1,V1_ hk1 hi,hinc,g72]
 repeat refine ⟨by omega,?_⟩
 apply hK
 refine rK fun K hK=>?_
 simp [go_sem]
 refine D5 (UG_ t i hi l hx hl (WT_ k1 i) hk2 (p+1) hp2 (by omega) r (j+200) hr (by omega) (by omega)) rfl (by simp [g72]) (by simp [go_sem,g72]) fun k9 hk9=>?_
 simp [go_sem,W1_,g72]
 apply hK
 refine rG ?_
 refine A4 ?_
 simp [go_sem,hst,g72]
theorem zJm (f:Nat->Int):List.drop 8 (I4 f)=[]:=rfl
theorem UH_ (f:Nat->Int) (S:List Nat) (H:A7) (d:Nat):(I4 f).map (frz S H d)=I4 f:=by cases d<;>rfl
theorem zJn (g:List (Nat->Int)) (S:List Nat) (H:A7) (d:Nat):(E1 g).map (P6 (frz S H d))=E1 g:=by
 simp only [E1,map_map]
 exact map_congr_left fun f _=>by simp only [Function.comp,P6,UH_]
theorem zWh (k:List Int) (n:Nat):List.take n (E1 (gA k n))=E1 (gA k n):=take_of_length_le (by simp [E1,gA])
theorem zdq (t:Tst) (ht:t.ths.length<=4) (hlt:∀ x∈t.ths,x.length<=1000) (hrd:∀ l∈t.ths,∀ x∈l,Xb_ x.op=true->0<=x.rd/\x.rd<8) (hlo:t.locs.length<=8) (k:List Int) (hk:k.length=112) (D:List (List Int)) (hD:∀ q∈D,q.length=41) (r n:Nat) (hr:2<r) (hrn:r<n):Sl.Fn Tryz.prog 131 [.ptr 2 0 0,.ptr r 0 0] [(2,.rows 3 [.agg [.rp t.cs 0,.map 0,.map 1]]),(1,.map (M4 D)),(r,.rows 112 [.agg (mV k)])] n fun v H _=>v=.tup []/\H=[(2,.rows 3 [.agg [.rp t.cs 0,.map 0,.map 1]]),(1,.map (M4 (zQo (zFr t k) D))),(r,.rows 112 [.agg (mV k)])]:=by
 refine Fn.view ?_
 have g77:¬ r=2/\¬ 2=r/\¬ r=1/\¬ 1=r/\¬ r=n/\¬ n=r/\¬ 2=n/\¬ n=2/\¬ 1=n/\¬ n=1:=by and_intros<;>omega
 have hke:(zFr t k).length=41:=ZY_ ht hlo _ _
 have hn0:(0:Int)<=(t.ths.length:Nat):=by omega
 refine B7 T_ok func131 rfl rfl ntmps131 rfl (by simp) ?_
 refine rK fun K hK=>?_
 simp [go_sem,g77,Tst.cs,hn0]
 repeat refine ⟨by omega,?_⟩
 apply hK
 refine A3 fun K1 hK1=>?_
 refine rG ?_
 apply A0
 refine A9 (α:=Nat) (fun a=>⟨45,[(0,.ptr 2 0 0),(1,.ptr r 0 0),(4,.sl n 0 t.ths.length),(16,iV (t.ths.length:Nat)),(17,iV (a:Nat))],[(n,.rows 8 (E1 (gI k t.ths.length a))),(2,.rows 3 [.agg [.rp t.cs 0,.map 0,.map 1]]),(1,.map (M4 D)),(r,.rows 112 [.agg (mV k)])],n+1⟩) (fun a=>a<=t.ths.length) (fun a=>t.ths.length-a) 0 ?_ ?_ ?_
 .exact Nat.zero_le _
 .refine Weaker.fw 1 0 ?_ ?_<;>simp [go_sem,g77,zJ1,Tst.cs,replicate_succ]
 rintro i hi
 skip
 refine rG ?_
 refine A3 fun K2 hK2=>?_
 refine cJ (fun h=>?_) fun h=>?_
 .simp at h
  obtain rfl:i=t.ths.length:=by omega
  clear h
  apply A6
  apply hK1
  have hmk:Pf Tryz.prog 141 [.rp t.cs 0,.ro 8 (E1 (gA k t.ths.length)),.agg (I4 (fM k))] (.agg (stK (zFr t k))):=zJc t ht hlt hrd hlo (gA k t.ths.length) (zQn _ _) (fM k)
  have he:E3 [EK.int,EK.int,EK.int,EK.int,EK.int,EK.int,EK.int,EK.int,EK.int,EK.int,EK.int,EK.int,EK.int,EK.int,EK.int,EK.int,EK.int,EK.int,EK.int,EK.int,EK.int,EK.int,EK.int,EK.int,EK.int,EK.int,EK.int,EK.int,EK.int,EK.int,EK.int,EK.int,EK.int,EK.int,EK.int,EK.int,EK.int,EK.int,EK.int,EK.int,EK.int] (stK (zFr t k)) (stK (zFr t k))=_:=QU_ hke hke
  have hi:Us_ [EK.int,EK.int,EK.int,EK.int,EK.int,EK.int,EK.int,EK.int,EK.int,EK.int,EK.int,EK.int,EK.int,EK.int,EK.int,EK.int,EK.int,EK.int,EK.int,EK.int,EK.int,EK.int,EK.int,EK.int,EK.int,EK.int,EK.int,EK.int,EK.int,EK.int,EK.int,EK.int,EK.int,EK.int,EK.int,EK.int,EK.int,EK.int,EK.int,EK.int,EK.int] (stK (zFr t k)) (bV true) (M4 D)=_:=Y2_ hke hD
  have ha:(if zFr t k∈D then D else D++[zFr t k])=zQo (zFr t k) D:=rfl
  rw [ha] at hi
  refine dE 14 [[],[0],[0,1],[0,1,2],[],[4],[4,5],[4,5,6],[],[],[9],[9,10],[9,10,11],[4,5,6,7,8,9,10,11,12],[0,1,2,3,4,5,6,7,8,9,10,11,12,13]] fun K hK=>?_
  first|dsimp only [List.take,List.drop]|dsimp [List.take,List.drop]
  simp [go_sem,g77,D0 hk,zVx hk]
  refine Xj_ hmk (r6 (S5 _)) 2 (by simp [go_sem,zda,zQn,zJn,zWh,UH_,g77]) ?_
  simp [go_sem,he,hi,g77]
  apply hK
  refine ⟨.inl rfl,?_⟩
  simp [go_sem]
  exact ⟨_,_,View.del n _,rfl,by simp [Sl.del,g77]⟩
 simp at h
 have hin:i<t.ths.length:=by omega
 clear h
 have g78:(i:Int)<(t.ths.length:Nat)/\(i:Int)<4/\(0:Int)<=(i:Nat):=by and_intros<;>omega
 have hi4:i<4:=by omega
 have hw:=wI i
 apply A1
 apply hK2
 refine A3 fun K3 hK3=>?_
 apply A0
 refine rG ?_
 refine rE fun K hK=>?_
 simp [go_sem,g77,hin,g78,hi4,D0 hk,zVw hk hi4,zQm,zJm,zdb hin]
 repeat refine ⟨by omega,?_⟩
 apply hK
 apply hK3
 refine rF ?_ fun K h=>by simp [go_sem,hw];exact h
 refine ⟨i+1,?_,?_,?_⟩
 .omega
 .omega
 refine Weaker.fw 1 0 ?_ ?_<;>simp [go_sem,g77,zJ1,Tst.cs,replicate_succ]
theorem zWi {t:Tst} (ht:TTOk t):∀ l∈t.ths,∀ x∈l,Xb_ x.op=true->0<=x.rd/\x.rd<8:=fun l hl x hx _=>by
 obtain ⟨i,hi⟩:=List.getElem?_of_mem hl
 obtain ⟨p,hp⟩:=List.getElem?_of_mem hx
 have:=(ht.thr i l hi).2 p x hp
 exact ⟨this.rd0,this.rd8⟩
theorem UI_ {t:Tst} (ht:TTOk t):∀ x∈t.ths,x.length<=1000:=fun l hl=>by
 obtain ⟨i,hi⟩:=List.getElem?_of_mem hl
 have:=(ht.thr i l hi).1
 omega
abbrev exH (t:Tst) (s:Ex):A7:=[(2,.rows 3 [.agg [.rp t.cs 0,.map 0,.map 1]]),(0,.map (Z7_ s.1)),(1,.map (M4 s.2))]
def zkw (t:Tst) (n:Nat):Prop:=∀ k,MOk t k->muT t k<n->∀ s,ExOk s->∀ j,2<j->Sl.Fn Tryz.prog 71 [.ptr 2 0 0,.agg (mV k)] (exH t s) j fun v H _=>v=.tup []/\H=exH t (G9 t n k s)
theorem zAj (t:Tst) (ht:TTOk t) (n:Nat) (ih:zkw t n) (k:List Int) (hM:MOk t k) (hmu:muT t k<n+1) (s:Ex) (hs:ExOk s) (j:Nat) (hj:2<j):Sl.Fn Tryz.prog 71 [.ptr 2 0 0,.agg (mV k)] (exH t s) j fun v H _=>v=.tup []/\H=exH t (G9 t (n+1) k s):=by
 refine Fn.view ?_
 have g79:¬ j=0/\¬ 0=j/\¬ j=1/\¬ 1=j/\¬ j=2/\¬ 2=j:=by and_intros<;>omega
 have hk:=hM.len
 have hkl:(mV k).length=112:=D0 hk
 have hko:=zIo k
 have hkt:List.take 112 (mV k)=mV k:=take_of_length_le (by omega)
 have hf:=VB_ hk hs.seen
 have hi2:=Qb_ hk hs.seen
 have he:E3 [EK.int,EK.int,EK.int,EK.int,EK.int,EK.int,EK.int,EK.int,EK.int,EK.int,EK.int,EK.int,EK.int,EK.int,EK.int,EK.int,EK.int,EK.int,EK.int,EK.int,EK.int,EK.int,EK.int,EK.int,EK.int,EK.int,EK.int,EK.int,EK.int,EK.int,EK.int,EK.int,EK.int,EK.int,EK.int,EK.int,EK.int,EK.int,EK.int,EK.int,EK.int,EK.int,EK.int,EK.int,EK.int,EK.int,EK.int,EK.int,EK.int,EK.int,EK.int,EK.int,EK.int,EK.int,EK.int,EK.int,EK.int,EK.int,EK.int,EK.int,EK.int,EK.int,EK.int,EK.int,EK.int,EK.int,EK.int,EK.int,EK.int,EK.int,EK.int,EK.int,EK.int,EK.int,EK.int,EK.int,EK.int,EK.int,EK.int,EK.int,EK.int,EK.int,EK.int,EK.int,EK.int,EK.int,EK.int,EK.int,EK.int,EK.int,EK.int,EK.int,EK.int,EK.int,EK.int,EK.int,EK.int,EK.int,EK.int,EK.int,EK.int,EK.int,EK.int,EK.int,EK.int,EK.int,EK.int,EK.int,EK.int,EK.int,EK.int,EK.int] (mV k) (mV k)=some (decide (k=k)):=zVp hk hk
 have hf1:Ye_ [EK.int,EK.int,EK.int,EK.int,EK.int,EK.int,EK.int,EK.int,EK.int,EK.int,EK.int,EK.int,EK.int,EK.int,EK.int,EK.int,EK.int,EK.int,EK.int,EK.int,EK.int,EK.int,EK.int,EK.int,EK.int,EK.int,EK.int,EK.int,EK.int,EK.int,EK.int,EK.int,EK.int,EK.int,EK.int,EK.int,EK.int,EK.int,EK.int,EK.int,EK.int,EK.int,EK.int,EK.int,EK.int,EK.int,EK.int,EK.int,EK.int,EK.int,EK.int,EK.int,EK.int,EK.int,EK.int,EK.int,EK.int,EK.int,EK.int,EK.int,EK.int,EK.int,EK.int,EK.int,EK.int,EK.int,EK.int,EK.int,EK.int,EK.int,EK.int,EK.int,EK.int,EK.int,EK.int,EK.int,EK.int,EK.int,EK.int,EK.int,EK.int,EK.int,EK.int,EK.int,EK.int,EK.int,EK.int,EK.int,EK.int,EK.int,EK.int,EK.int,EK.int,EK.int,EK.int,EK.int,EK.int,EK.int,EK.int,EK.int,EK.int,EK.int,EK.int,EK.int,EK.int,EK.int,EK.int,EK.int,EK.int,EK.int,EK.int,EK.int] (mV k) (Z7_ s.1)=some (if k∈s.1 then some (bV true) else none):=hf
 have hi1:Us_ [EK.int,EK.int,EK.int,EK.int,EK.int,EK.int,EK.int,EK.int,EK.int,EK.int,EK.int,EK.int,EK.int,EK.int,EK.int,EK.int,EK.int,EK.int,EK.int,EK.int,EK.int,EK.int,EK.int,EK.int,EK.int,EK.int,EK.int,EK.int,EK.int,EK.int,EK.int,EK.int,EK.int,EK.int,EK.int,EK.int,EK.int,EK.int,EK.int,EK.int,EK.int,EK.int,EK.int,EK.int,EK.int,EK.int,EK.int,EK.int,EK.int,EK.int,EK.int,EK.int,EK.int,EK.int,EK.int,EK.int,EK.int,EK.int,EK.int,EK.int,EK.int,EK.int,EK.int,EK.int,EK.int,EK.int,EK.int,EK.int,EK.int,EK.int,EK.int,EK.int,EK.int,EK.int,EK.int,EK.int,EK.int,EK.int,EK.int,EK.int,EK.int,EK.int,EK.int,EK.int,EK.int,EK.int,EK.int,EK.int,EK.int,EK.int,EK.int,EK.int,EK.int,EK.int,EK.int,EK.int,EK.int,EK.int,EK.int,EK.int,EK.int,EK.int,EK.int,EK.int,EK.int,EK.int,EK.int,EK.int,EK.int,EK.int,EK.int,EK.int] (mV k) (bV true) (Z7_ s.1)=some (Z7_ (if k∈s.1 then s.1 else s.1++[k])):=hi2
 clear hf hi2
 have hn0:(0:Int)<=(t.ths.length:Nat):=by omega
 have hall:=fun i (hi:i<=t.ths.length)=>zAb ht hM (fun q s hq hs=>Zg_ ht n q s hq hs) i hi (s:=(s.1++[k],s.2)) ⟨fun q hq=>by rcases List.mem_append.1 hq with hq|hq;exact hs.seen q hq;simp at hq;subst hq;exact hM.len,hs.ends⟩
 refine B7 T_ok func71 rfl rfl ntmps71 rfl (by simp) ?_
 refine rK fun K hK=>?_
 simp [go_sem,hkl,hko,hkt,g79]
 refine ⟨hko,?_⟩
 apply hK
 refine A3 fun K1 hK1=>?_
 refine dK 5 [[],[0],[0,1],[0,1,2],[],[0,1,2,3,4]] fun K hK=>?_
 first|dsimp only [List.take,List.drop]|dsimp [List.take,List.drop]
 simp [go_sem,hkl,hko,hkt,g79,he,hf1]
 by_cases hk1:k∈s.1
 .simp [go_sem,hk1]
  apply hK
  refine cJ (fun h=>?_) fun h=>?_
  .simp at h
  clear h
  refine A4 ?_
  have hex:G9 t (n+1) k s=s:=by rw [G9,if_pos hk1]
  rw [hex]
  simp [go_sem]
  exact ⟨_,_,View.del j _,rfl,by simp [Sl.del,g79]⟩
 simp [go_sem,hk1]
 apply hK
 refine cK (fun h=>?_) fun h=>?_
 .simp at h
 clear h
 apply A1
 apply hK1
 refine dK 5 [[],[0],[0,1],[0,1,2],[],[0,1,2,3,4]] fun K hK=>?_
 first|dsimp only [List.take,List.drop]|dsimp [List.take,List.drop]
 simp [go_sem,hkl,hko,hkt,g79,he,hi1,hk1]
 apply hK
 refine rG ?_
 refine A3 fun K2 hK2=>?_
 refine rG ?_ fun K h=>by simp [go_sem,g79,Tst.cs];exact h
 apply A0
 refine A9 (α:=Nat × Nat) (fun a=>⟨59,[(0,.ptr 2 0 0),(3,.ptr j 0 0),(26,iV (t.ths.length:Nat)),(27,iV (a.1:Nat)),(4,bV (UA_ t k a.1))],[(j,.rows 112 [.agg (mV k)]),(2,.rows 3 [.agg [.rp t.cs 0,.map 0,.map 1]]),(0,.map (Z7_ (Zx_ (G9 t n) t k a.1 (s.1++[k],s.2)).1)),(1,.map (M4 (Zx_ (G9 t n) t k a.1 (s.1++[k],s.2)).2))],a.2⟩) (fun a=>a.1<=t.ths.length/\j<a.2) (fun a=>t.ths.length-a.1) (0,j+1+5+5) ?_ ?_ ?_
 .exact ⟨Nat.zero_le _,by dsimp only;omega⟩
 .refine Weaker.fy 1 0 ?_ ?_
  .simp [go_sem,UA_,g79]
  simp [go_sem,Zx_,Tst.cs,g79]
 rintro ⟨i,jn⟩ ⟨hi,hjn⟩
 dsimp only at hi hjn ⊢
 have g80:¬ jn=0/\¬ 0=jn/\¬ jn=1/\¬ 1=jn/\¬ jn=2/\¬ 2=jn/\¬ j=jn/\¬ jn=j:=by and_intros<;>omega
 refine rG ?_
 refine A3 fun K3 hK3=>?_
 refine cJ (fun h=>?_) fun h=>?_
 .simp at h
  obtain rfl:i=t.ths.length:=by omega
  clear h
  apply A6
  apply hK2
  refine rG ?_
  refine cJ (fun h=>?_) fun h=>?_
  .have hov:¬ UA_ t k t.ths.length=true:=by simpa using h
   have hex:G9 t (n+1) k s=(Zx_ (G9 t n) t k t.ths.length (s.1++[k],s.2)):=by rw [G9,if_neg hk1];dsimp only;rw [if_neg hov]
   apply A1
   refine ⟨.inl rfl,?_⟩
   rw [hex]
   simp [go_sem]
   exact ⟨_,_,View.del j _,rfl,by simp [Sl.del,g79]⟩
  have hov:UA_ t k t.ths.length=true:=h
  have hex:G9 t (n+1) k s=((Zx_ (G9 t n) t k t.ths.length (s.1++[k],s.2)).1,zQo (zFr t k) (Zx_ (G9 t n) t k t.ths.length (s.1++[k],s.2)).2):=by rw [G9,if_neg hk1];dsimp only;rw [if_pos hov]
  have hSN:=hall t.ths.length (Nat.le_refl _)
  refine rE fun K hK=>?_
  simp [go_sem,g79]
  refine D5 (zdq t ht.ths (UI_ ht) (zWi ht) ht.locs k hk (Zx_ (G9 t n) t k t.ths.length (s.1++[k],s.2)).2 hSN.ends j jn (by omega) (by omega)) rfl (by simp [g79]) (by simp [go_sem,g79]) fun k14 hk14=>?_
  simp [go_sem,W1_,g79]
  apply hK
  refine ⟨.inl rfl,?_⟩
  rw [hex]
  simp [go_sem]
  exact ⟨_,_,View.del j _,rfl,by simp [Sl.del,g79]⟩
 simp at h
 have hin:i<t.ths.length:=by omega
 clear h
 have hi4:i<4:=by have:=ht.ths;omega
 have g81:(i:Int)<4/\(0:Int)<=(i:Nat):=by and_intros<;>omega
 have hw1:IntKind.i64.wrap ((i:Nat)+1)=(i:Nat)+1:=E4 (by omega) (by have:=ht.ths;omega)
 have hx:t.ths[i]?=some (lth t i):=by rw [lth,List.getD,List.getElem?_eq_getElem hin];rfl
 have hl:=ht.thr i _ hx
 obtain ⟨p,w,hp,hw,hwp,hpl⟩:=hM.th i hi4
 have hSI:=hall i hi
 apply A1
 apply hK3
 refine A3 fun K4 hK4=>?_
 apply A0
 refine rG ?_
 refine rK fun K hK=>?_
 simp [go_sem,hkl,hko,hkt,g79,g80]
 refine ⟨hko,?_⟩
 apply hK
 refine zC1 (fun ku:Nat=>⟨59,[(0,.ptr 2 0 0),(3,.ptr j 0 0),(26,iV (t.ths.length:Nat)),(27,iV (i:Nat)),(4,bV (UA_ t k i&&(N0 (lth t i) i k).isNone)),(5,iV (i:Nat))],[(j,.rows 112 [.agg (mV k)]),(2,.rows 3 [.agg [.rp t.cs 0,.map 0,.map 1]]),(0,.map (Z7_ (zA9 (G9 t n) t k i (Zx_ (G9 t n) t k i (s.1++[k],s.2))).1)),(1,.map (M4 (zA9 (G9 t n) t k i (Zx_ (G9 t n) t k i (s.1++[k],s.2))).2))],ku⟩) (fun ku:Nat=>j<ku) ?_ ?_
 .skip
  refine rK fun K hK=>?_
  simp [go_sem,g79,g80]
  refine D5 (zWg t i hi4 (lth t i) hx hl k hk p hp hpl w hw hwp (hM.loc i hi4) jn (jn+1) (by omega) (by omega) (by omega)) rfl (by simp [g80]) (by simp [go_sem,g79,g80]) fun k9 hk9=>?_
  simp [go_sem,W1_,g79,g80]
  apply hK
  refine cJ (fun h=>?_) fun h=>?_
  .have hq:N0 (lth t i) i k=none:=by simpa using h
   have hv1:zA9 (G9 t n) t k i (Zx_ (G9 t n) t k i (s.1++[k],s.2))=(Zx_ (G9 t n) t k i (s.1++[k],s.2)):=by unfold zA9;rw [hq]
   obtain ⟨ku,hku⟩:∃ ku,ku=k9:=⟨_,rfl⟩
   apply A1
   refine ⟨ku,by omega,?_⟩
   refine Weaker.fy 1 0 ?_ ?_<;>simp [go_sem,hq,hv1,g79,g80]
  obtain ⟨q,hq⟩:∃ q,N0 (lth t i) i k=some q:=Option.isSome_iff_exists.1 (by simpa using h)
  have hqm:=Ze_ ht hM hx hq
  have hql:(mV q).length=112:=D0 hqm.1.len
  have hqo:=zIo q
  have hqt:List.take 112 (mV q)=mV q:=take_of_length_le (by omega)
  have hv1:zA9 (G9 t n) t k i (Zx_ (G9 t n) t k i (s.1++[k],s.2))=G9 t n q (Zx_ (G9 t n) t k i (s.1++[k],s.2)):=by unfold zA9;rw [hq]
  refine rG ?_
  refine rE fun K hK=>?_
  simp [go_sem,g79,g80,hq,hql,hqt]
  refine D5 (ih q hqm.1 (by omega) (Zx_ (G9 t n) t k i (s.1++[k],s.2)) hSI k9 (by omega)) rfl (by simp) (by simp [go_sem,g79,g80]) fun k10 hk10=>?_
  simp [go_sem,W1_,g79,g80]
  obtain ⟨ku,hku⟩:∃ ku,ku=k10:=⟨_,rfl⟩
  apply hK
  refine ⟨ku,by omega,?_⟩
  refine Weaker.fy 1 0 ?_ ?_<;>simp [go_sem,hq,hv1,g79,g80]
 rintro ku hku
 have g82:¬ ku=0/\¬ 0=ku/\¬ ku=1/\¬ 1=ku/\¬ ku=2/\¬ 2=ku/\¬ j=ku/\¬ ku=j:=by and_intros<;>omega
 have hS1:=zAa ht hM hin (fun q s hq hs=>Zg_ ht n q s hq hs) hSI
 refine rK fun K hK=>?_
 simp [go_sem,g79,g80,D0 hk,D1 hk hi4,hw,hi4,g81]
 repeat refine ⟨by omega,?_⟩
 apply hK
 refine cJ (fun h=>?_) fun h=>?_
 .have hw0:w=0:=by simpa using h
  have hvs:zQq (G9 t n) t k i (Zx_ (G9 t n) t k i (s.1++[k],s.2))=(zA9 (G9 t n) t k i (Zx_ (G9 t n) t k i (s.1++[k],s.2))):=by unfold zQq;rw [if_neg (by omega)]
  have hov:decide (gt k (i*26+1)<=0)=true:=by simp;omega
  obtain ⟨kv,hkv⟩:∃ kv,kv=ku:=⟨_,rfl⟩
  apply A1
  apply hK4
  refine rF ?_ fun K h=>by simp [go_sem,hw1];exact h
  refine ⟨(i+1,kv),?_,?_,?_⟩
  .dsimp only;exact ⟨by omega,by omega⟩
  .dsimp only;omega
  refine Weaker.fy 1 0 ?_ ?_
  .simp [go_sem,VG_,hov,g79,g80,g82]
  simp [go_sem,Zx_,hvs,g79,g80,g82]
 have hw0:0<w:=by simpa using h
 obtain ⟨w',rfl⟩:∃ w',w=w'+1:=⟨w-1,by omega⟩
 have hl8:=hl.1
 have hds:=y2 (w:=w') hk hi4 (by omega) (hM.loc i hi4)
 have hdl:(O1 k i w').length=112:=VF_ hk hi4 w'
 have hdL:locT (lth t i) i ((lth t i).length+1) (O1 k i w')=j5 t k i:=by unfold j5;rw [hw];rfl
 have hdm:=Zf_ ht hM hx (by omega)
 have hgl:(mV (j5 t k i)).length=112:=D0 hdm.1.len
 have hgo:=zIo (j5 t k i)
 have hgt:List.take 112 (mV (j5 t k i))=mV (j5 t k i):=take_of_length_le (by omega)
 have hvs:zQq (G9 t n) t k i (Zx_ (G9 t n) t k i (s.1++[k],s.2))=G9 t n (j5 t k i) (zA9 (G9 t n) t k i (Zx_ (G9 t n) t k i (s.1++[k],s.2))):=by unfold zQq;rw [if_pos (by omega)]
 have hov:decide (gt k (i*26+1)<=0)=false:=by simp;omega
 refine rG ?_
 refine rK fun K hK=>?_
 simp [go_sem,hkl,hko,hkt,g79,g82]
 refine ⟨hko,?_⟩
 apply hK
 refine rK fun K hK=>?_
 simp [go_sem,g79,g82]
 refine D5 (zOr k hk i hi4 w' (by rw [hw];rfl) (by omega) (hM.loc i hi4 0 (by omega)) ku (ku+1)) rfl (by simp) (by simp [go_sem,g79,g82]) fun k11 hk11=>?_
 simp [go_sem,W1_,g79,g82]
 apply hK
 refine rK fun K hK=>?_
 simp [go_sem,g79,g82,hi4,g81]
 refine D5 (UG_ t i hi4 (lth t i) hx hl (O1 k i w') hdl p (hds.2.1.trans hp) hpl ku k11 (by omega) (by omega) (by omega)) rfl (by simp [g82]) (by simp [go_sem,g79,g82]) fun k12 hk12=>?_
 simp [go_sem,W1_,hdL,g79,g82]
 apply hK
 refine rE fun K hK=>?_
 simp [go_sem,g79,g82,hgl,hgt]
 refine D5 (ih (j5 t k i) hdm.1 (by omega) (zA9 (G9 t n) t k i (Zx_ (G9 t n) t k i (s.1++[k],s.2))) hS1 k12 (by omega)) rfl (by simp) (by simp [go_sem,g79,g82]) fun k13 hk13=>?_
 simp [go_sem,W1_,g79,g82]
 obtain ⟨kv,hkv⟩:∃ kv,kv=k13:=⟨_,rfl⟩
 apply hK
 apply hK4
 refine rF ?_ fun K h=>by simp [go_sem,hw1];exact h
 refine ⟨(i+1,kv),?_,?_,?_⟩
 .dsimp only;exact ⟨by omega,by omega⟩
 .dsimp only;omega
 refine Weaker.fy 1 0 ?_ ?_
 .simp [go_sem,VG_,hov,g79,g80,g82]
 simp [go_sem,Zx_,hvs,g79,g80,g82]
theorem VI_ {t:Tst} (ht:TTOk t):∀ n,zkw t n
 | 0=>fun k _ h=>absurd h (Nat.not_lt_zero _)
 | n+1=>fun k hM hmu s hs j hj=>zAj t ht n (VI_ ht n) k hM hmu s hs j hj
theorem zF7 {t:Tst} {i:Nat} {l:Ini} (h:t.locs[i]?=some l):X5_ t (i+1)=(X5_ t i).set (104+i) l.v:=by rw [X5_,List.getD,h];rfl
theorem zQv (t:Tst) (ht:TTOk t) (hnp:N7 t.ths=false) (hb:(P9 t).length<=400000000000):Pf Tryz.prog 21 [.rp t.cs 0] (.tup [.ro 41 (stR (J4 (P9 t))),bV true]):=by
 refine Pf.of_fn (.cons (u6 t) .nil) (.tup (.cons (X9_ _) (.cons (.val _) .nil))) ?_
 have hl8:=ht.locs
 have ht4:=ht.ths
 refine B7 T_ok func21 rfl rfl ntmps21 rfl (by simp) ?_
 refine rG ?_
 refine A3 fun K1 hK1=>?_
 refine rK fun K hK=>?_
 simp [go_sem]
 refine A2 (x6 t (by omega) (UI_ ht)) ?_
 simp [go_sem,hnp]
 apply hK
 refine cK (fun h=>?_) fun h=>?_
 .simp at h
 clear h
 apply A1
 apply hK1
 refine rG ?_
 refine rG ?_
 refine A3 fun K2 hK2=>?_
 refine rG ?_ fun K h=>by simp [go_sem,Tst.cs];exact h
 apply A0
 refine A9 (α:=Nat × Nat) (fun a=>⟨55,[(0,.rp t.cs 0),(4,.ptr 2 0 0),(5,.ptr 3 0 0),(19,.ro 2 (W7 t.locs)),(20,iV (t.locs.length:Nat)),(21,iV (a.1:Nat))],[(3,.rows 112 [.agg (mV (X5_ t a.1))]),(2,.rows 3 [.agg [.rp t.cs 0,.map 0,.map 1]]),(1,.map []),(0,.map [])],a.2⟩) (fun a=>a.1<=t.locs.length/\3<a.2) (fun a=>t.locs.length-a.1) (0,4) ?_ ?_ ?_
 .dsimp only;omega
 .refine Weaker.fy 1 0 ?_ ?_
  .simp [go_sem,Tst.cs]
  simp [go_sem,Tst.cs];rfl
 rintro ⟨i,jn⟩ ⟨hi,hjn⟩
 dsimp only at hi hjn ⊢
 have g83:¬ jn=0/\¬ 0=jn/\¬ jn=1/\¬ 1=jn/\¬ jn=2/\¬ 2=jn/\¬ jn=3/\¬ 3=jn:=by and_intros<;>omega
 refine rG ?_
 refine A3 fun K3 hK3=>?_
 refine cK (fun h=>?_) fun h=>?_
 .simp at h
  have hin:i<t.locs.length:=by omega
  clear h
  have hinI:(i:Int)<(t.locs.length:Nat):=by omega
  obtain ⟨l,hx,hx'⟩:=E0 hin
  have hi8:i<8:=by omega
  have g84:(i:Int)<8/\(0:Int)<=(i:Nat):=by and_intros<;>omega
  have hw:=wI i
  apply A1
  apply hK3
  refine A3 fun K4 hK4=>?_
  apply A0
  refine rG ?_ fun K h=>by simp [go_sem,hin,hinI,hx,hx',g84,Xa_,Ini.cs,g83];exact h
  refine rE fun K hK=>?_
  simp [go_sem,Xa_,Ini.cs,hi8,g84,D0 (Zh_ t i),Y3_ (Zh_ t i) hi8,g83]
  repeat refine ⟨by omega,?_⟩
  apply hK
  apply hK4
  refine rF ?_ fun K h=>by simp [go_sem,hw];exact h
  refine ⟨(i+1,jn+50),?_,?_,?_⟩
  .dsimp only;omega
  .dsimp only;omega
  refine Weaker.fy 1 0 ?_ ?_
  .simp [go_sem,g83]
  simp [go_sem,zF7 hx,g83]
 simp at h
 obtain rfl:i=t.locs.length:=by omega
 clear h
 apply A6
 apply hK2
 refine A3 fun K5 hK5=>?_
 refine rG ?_ fun K h=>by simp [go_sem,Tst.cs];exact h
 apply A0
 refine A9 (α:=Nat × Nat) (fun a=>⟨55,[(0,.rp t.cs 0),(4,.ptr 2 0 0),(5,.ptr 3 0 0),(36,iV (t.ths.length:Nat)),(37,iV (a.1:Nat))],[(3,.rows 112 [.agg (mV (Y6 t a.1))]),(2,.rows 3 [.agg [.rp t.cs 0,.map 0,.map 1]]),(1,.map []),(0,.map [])],a.2⟩) (fun a=>a.1<=t.ths.length/\3<a.2) (fun a=>t.ths.length-a.1) (0,jn) ?_ ?_ ?_
 .dsimp only;omega
 .refine Weaker.fy 1 0 ?_ ?_
  .simp [go_sem,Tst.cs]
  simp [go_sem,Y6,Tst.cs]
 rintro ⟨i,jn⟩ ⟨hi,hjn⟩
 dsimp only at hi hjn ⊢
 have g85:¬ jn=0/\¬ 0=jn/\¬ jn=1/\¬ 1=jn/\¬ jn=2/\¬ 2=jn/\¬ jn=3/\¬ 3=jn:=by and_intros<;>omega
 refine rG ?_
 refine A3 fun K6 hK6=>?_
 refine cJ (fun h=>?_) fun h=>?_
 .simp at h
  obtain rfl:i=t.ths.length:=by omega
  clear h
  apply A6
  apply hK5
  have hTM:=zAd ht
  have hl1:(mV (zAc t)).length=112:=D0 hTM.len
  have hl2:List.take 112 (mV (zAc t))=mV (zAc t):=take_of_length_le (by omega)
  have hsM:Y6 t t.ths.length=zAc t:=rfl
  refine rK fun K hK=>?_
  simp [go_sem,hsM,hl1,hl2,g85]
  refine D5 (VI_ ht (muT t (zAc t)+1) (zAc t) hTM (Nat.lt_succ_self _) ([],[]) ⟨fun _ h=>(by cases h),fun _ h=>(by cases h)⟩ jn (by omega)) rfl (by simp) (by simp [go_sem,Z7_,M4,g85]) fun k9 hk9=>?_
  simp [go_sem,W1_,g85]
  apply hK
  have hE:(G9 t (muT t (zAc t)+1) (zAc t) ([],[])).2=P9 t:=rfl
  have hE1:=(Zg_ ht (muT t (zAc t)+1) (zAc t) ([],[]) hTM ⟨fun _ h=>(by cases h),fun _ h=>(by cases h)⟩).ends
  have hE2:=y3 ht (muT t (zAc t)+1) (zAc t) ([],[]) hTM nodup_nil
  rw [hE] at hE1 hE2
  refine rK fun K hK=>?_
  simp [go_sem,g85,hE]
  refine Jg_ ((of_fn (P9 t) hE1 hE2 hb 1 k9 (by omega)).frame (G:=[_,_,_]) (perm_middle (l₁:=[_,_]) (l₂:=[_])) ?_)
  rintro v H' k' hk' ⟨rfl,rfl⟩
  simp [go_sem]
  apply hK
  refine A4 ?_
  simp [go_sem]
 simp at h
 have hin:i<t.ths.length:=by omega
 clear h
 have hi4:i<4:=by omega
 have g86:(i:Int)<4/\(0:Int)<=(i:Nat):=by and_intros<;>omega
 have hw:=wI i
 have hx:t.ths[i]?=some (lth t i):=by rw [lth,List.getD,List.getElem?_eq_getElem hin];rfl
 have hl:=ht.thr i _ hx
 have hM:=(X6_ ht i hi).1
 obtain ⟨p,w,hp,hw9,hwp,hpl⟩:=hM.th i hi4
 apply A1
 apply hK6
 refine A3 fun K7 hK7=>?_
 apply A0
 refine rG ?_
 refine rE fun K hK=>?_
 simp [go_sem,hi4,g86,g85]
 refine D5 (UG_ t i hi4 (lth t i) hx hl (Y6 t i) hM.len p hp hpl 3 jn (by omega) (by omega) (by omega)) rfl (by simp) (by simp [go_sem,g85]) fun k9 hk9=>?_
 simp [go_sem,W1_,g85]
 apply hK
 apply hK7
 refine rF ?_ fun K h=>by simp [go_sem,hw];exact h
 refine ⟨(i+1,k9),?_,?_,?_⟩
 .dsimp only;omega
 .dsimp only;omega
 refine Weaker.fy 1 0 ?_ ?_
 .simp [go_sem,g85]
 simp [go_sem,Y6,g85]
theorem YV_ (f:Bool):Pf Tryz.prog 65 [bV f] (.agg (Wd_ f).cs):=by
 refine Pf.of_fz 2 (.cons (.val _) .nil) (.agg (YQ_ _)) ?_
 refine B7 T_ok func65 rfl rfl ntmps65 rfl (by simp) ?_
 refine rG ?_
 refine rG ?_
 refine A3 fun K1 hK1=>?_
 refine rG ?_
 apply A0
 refine Tr.weaken (Weaker.ghostH (sz:=3) (es:=[.agg [.sl 1 0 2,.val (.slice none 0 0),.val (.slice none 0 0)]]) 2 3 [.agg [.sl 1 0 2,.val (.slice none 0 0),.sl 3 0 0]] (by simp [Sl.look]) (by simp) (by simp) (by simp [V.fits,V.cells,V.one]) (by simp only [flatMap_cons,flatMap_nil,V.cells,append_nil];exact .same (.same (.to .nil)))) ?_
 simp only [Sl.put,if_true,if_false,Nat.reduceEqDiff,reduceIte]
 refine Tr.weaken (Weaker.ghostH (sz:=3) (es:=[.agg [.sl 1 0 2,.val (.slice none 0 0),.sl 3 0 0]]) 2 1 [.agg [.sl 1 0 2,.sl 4 0 0,.sl 3 0 0]] (by simp [Sl.look]) (by simp) (by simp) (by simp [V.fits,V.cells,V.one]) (by simp only [flatMap_cons,flatMap_nil,V.cells,append_nil];exact .same (.to (.same .nil)))) ?_
 simp only [Sl.put,if_true,if_false,Nat.reduceEqDiff,reduceIte]
 refine A9 (α:=Nat × Nat × Nat) (fun a=>⟨35,[(0,bV f),(2,.ptr 0 0 0),(3,.ptr 2 0 0),(4,iV (a.1:Nat))],[(0,.rows 3 [.agg [.val (.slice none 0 0),.val (.slice none 0 0),.val (.slice none 0 0)]]),(1,.rows 2 (W7 zF0)),(2,.rows 3 [.agg [.sl 1 0 2,.sl a.2.2 0 a.1,.sl 3 0 0]]),(a.2.2,.rows 1 (N3 (zOd f a.1))),(3,.rows 3 [])],a.2.1⟩) (fun a=>a.1<=2/\3<a.2.2/\a.2.2<a.2.1) (fun a=>2-a.1) (0,5,4) ?_ ?_ ?_
 .dsimp only;omega
 .refine Weaker.fy 1 1 ?_ ?_
  .simp [go_sem]
  simp [go_sem,zF0,W7,Xa_,Ini.cs,nmX,nmY,zOd,N3]
 rintro ⟨i,j,m⟩ ⟨hi,hm1,hm2⟩
 dsimp only at hi hm1 hm2 ⊢
 have g87:¬ m=0/\¬ 0=m/\¬ m=1/\¬ 1=m/\¬ m=2/\¬ 2=m/\¬ m=3/\¬ 3=m/\¬ m=j/\¬ j=m/\¬ m=j+1/\¬ j+1=m/\¬ m=j+2/\¬ j+2=m/\¬ m=j+3/\¬ j+3=m/\¬ m=j+4/\¬ j+4=m/\¬ m=j+5/\¬ j+5=m/\¬ m=j+6/\¬ j+6=m/\¬ m=j+7/\¬ j+7=m/\¬ m=j+8/\¬ j+8=m/\¬ m=j+9/\¬ j+9=m/\¬ m=j+10/\¬ j+10=m/\¬ m=j+11/\¬ j+11=m/\¬ m=j+12/\¬ j+12=m/\¬ m=j+13/\¬ j+13=m/\¬ m=j+14/\¬ j+14=m/\¬ m=j+15/\¬ j+15=m/\¬ m=j+16/\¬ j+16=m/\¬ m=j+17/\¬ j+17=m/\¬ m=j+18/\¬ j+18=m/\¬ m=j+19/\¬ j+19=m/\¬ m=j+20/\¬ j+20=m/\¬ m=j+21/\¬ j+21=m/\¬ j=0/\¬ 0=j/\¬ j=1/\¬ 1=j/\¬ j=2/\¬ 2=j/\¬ j=3/\¬ 3=j:=by and_intros<;>omega
 refine A3 fun K2 hK2=>?_
 refine rG ?_
 refine cJ (fun h=>?_) fun h=>?_
 .obtain rfl:i=2:=by simp at h;omega
  apply A6
  apply hK1
  refine rG ?_
  refine A4 ?_
  simp [go_sem,zJ4,zOe,g87]
  exact ⟨rfl,rfl⟩
 have hi2:i<2:=by simp at h;omega
 have hw:=wI i
 have hmi:List.take i (N3 (zOd f i))=N3 (zOd f i):=take_of_length_le (by rw [zN5,UB_ hi];omega)
 have hw2:IntKind.i64.wrap (1-(i:Int))=1-(i:Nat):=E4 (by omega) (by omega)
 apply A1
 apply hK2
 refine A3 fun K3 hK3=>?_
 apply A0
 refine rG ?_
 refine A3 fun K4 hK4=>?_
 refine rG ?_
 refine cK (fun h=>?_) fun h=>?_
 .have hf:f=true:=h
  refine rF ?_
  apply hK4
  refine X4 T_ok (by kernel_rfl) 9 [[],[0],[],[],[3],[3,4],[3,4,5],[2,3,4,5,6],[2,3,4,5,6,7],[0,1,2,3,4,5,6,7,8],[0,1,2,3,4,5,6,7,8,9],[0,1,2,3,4,5,6,7,8,9,10]] [(0,6),(1,6),(2,6),(0,7),(1,7),(0,8),(1,8)] (by decide) (by decide) (by decide) fun K hK=>?_
  first|dsimp only [List.take,List.drop]|dsimp [List.take,List.drop]
  simp [go_sem,hw2,hmi,g87]
  refine ⟨by rw [UB_ hi];omega,by omega,?_⟩
  apply hK
  apply hK3
  refine rF ?_ fun K h=>by simp [go_sem,hw];exact h
  refine ⟨(i+1,j+100,j+12),?_,?_,?_⟩
  .dsimp only;omega
  .dsimp only;omega
  refine Weaker.fy 1 1 ?_ ?_
  .simp [go_sem,g87]
  simp [go_sem,Qg_ hi2,b9,Yx_,hf,zQr,Qe_,Qf_,zdd,W0,B6,Ins.cs,g87]
 have hf:f=false:=h
 apply A1
 apply hK4
 refine X4 T_ok (by kernel_rfl) 9 [[],[0],[],[],[3],[3,4],[3,4,5],[2,3,4,5,6],[2,3,4,5,6,7],[0,1,2,3,4,5,6,7,8],[0,1,2,3,4,5,6,7,8,9],[0,1,2,3,4,5,6,7,8,9,10]] [(0,6),(1,6),(2,6),(0,7),(1,7),(0,8),(1,8)] (by decide) (by decide) (by decide) fun K hK=>?_
 first|dsimp only [List.take,List.drop]|dsimp [List.take,List.drop]
 simp [go_sem,hw2,hmi,g87]
 refine ⟨by rw [UB_ hi];omega,by omega,?_⟩
 apply hK
 apply hK3
 refine rF ?_ fun K h=>by simp [go_sem,hw];exact h
 refine ⟨(i+1,j+100,j+10),?_,?_,?_⟩
 .dsimp only;omega
 .dsimp only;omega
 refine Weaker.fy 1 1 ?_ ?_
 .simp [go_sem,g87]
 simp [go_sem,Qg_ hi2,b9,Yx_,hf,zQr,Qe_,Qf_,zdd,W0,B6,Ins.cs,g87]
theorem Qs_ :Pf Tryz.prog 67 [.ro 1 [uV 0,uV 0,uV 1,uV 1]] (.agg (stK st4)):=by
 refine Pf.of_fn (.cons (.ro (fun v hv=>by simp at hv;rcases hv with rfl|rfl<;>exact .cons (.val _) .nil)) .nil) (.agg (W7_ _)) ?_
 refine B7 T_ok func67 rfl rfl ntmps67 rfl (by simp) ?_
 refine rG ?_
 refine rG ?_
 refine rK fun K hK=>?_
 simp [go_sem]
 trace_state
 apply hK
 refine rG ?_
 refine A4 ?_
 simp [go_sem]
 rfl
theorem zdr (f:Bool):∀ q∈J4 (P9 (Wd_ f)),q.length=41:=fun q hq=>by
 have:=mem_setOf.1 hq
 exact (Zg_ (YA_ f) _ _ _ (zAd (YA_ f)) ⟨fun _ h=>(by cases h),fun _ h=>(by cases h)⟩).ends q this
theorem zQw (f:Bool):(J4 (P9 (Wd_ f))).length=(P9 (Wd_ f)).length:=Zk_ (y3 (YA_ f) _ _ _ (zAd (YA_ f)) nodup_nil)
theorem s6:(J4 (P9 (Wd_ false))).length=4:=by rw [zQw,zVz];rfl
theorem s7:(J4 (P9 (Wd_ true))).length=3:=by rw [zQw,zW0];rfl
theorem UJ_:decide (st4∈J4 (P9 (Wd_ false)))=true:=by
 rw [decide_eq_true_eq,mem_setOf,zVz];exact .tail _ (.head _)
theorem zOs:decide (st4∈J4 (P9 (Wd_ true)))=false:=by
 rw [decide_eq_false_iff_not,mem_setOf,zW0];decide
theorem Qt_ (f:Bool):N7 (Wd_ f).ths=false:=by cases f<;>rfl
theorem zWj :Pf Tryz.prog 19 [] (bV true):=by
 refine Pf.of_fn .nil (.val _) ?_
 refine B7 T_ok func19 rfl rfl ntmps19 rfl (by simp) ?_
 refine rG ?_
 refine rK fun K hK=>?_
 simp [go_sem]
 refine A2 (YV_ false) ?_
 simp [go_sem]
 refine A2 (YV_ true) ?_
 simp [go_sem,zJ4]
 apply hK
 refine Tr.weaken (Weaker.fz (t':=[(1,.rp (Wd_ false).cs 0),(2,.rp (Wd_ true).cs 0)]) (H':=[]) 1 0 (by simp [go_sem,zJ4]) (by simp) (by simp)) ?_
 refine rK fun K hK=>?_
 simp [go_sem]
 refine A2 (zQv (Wd_ false) (YA_ _) (Qt_ _) (by rw [zVz];decide)) ?_
 simp [go_sem]
 apply hK
 refine rK fun K hK=>?_
 simp [go_sem]
 refine A2 (zQv (Wd_ true) (YA_ _) (Qt_ _) (by rw [zW0];decide)) ?_
 simp [go_sem]
 apply hK
 refine rK fun K hK=>?_
 simp [go_sem,s6,s7]
 trace_state
 refine r7 Qs_ (r6 (S5 _)) 2 (by simp [go_sem]) ?_
 simp [go_sem,s6,s7]
 refine A2 (Qp_ _ (zdr false) (H6 _) (by rw [s6];decide) st4 rfl) ?_
 simp [go_sem,s6,s7,UJ_]
 refine r7 Qs_ (r6 (S5 _)) 2 (by simp [go_sem]) ?_
 simp [go_sem,s6,s7,UJ_]
 refine A2 (Qp_ _ (zdr true) (H6 _) (by rw [s7];decide) st4 rfl) ?_
 simp [go_sem,s6,s7,UJ_,zOs]
 apply hK
 refine A4 ?_
 simp [go_sem]
def zno (p s:Int):Ins:={ op:=15,rd:=0,loc:=0,aR:=false,aN:=0,bR:=false,bN:=0,acq:=false,rel:=false,dep:=0,pred:=p,succ:=s,skip:=0 }
def zds (x:Ins):Ins:=if x.op=15/\(x.pred=1\/x.succ=2) then zno 1 1 else { x with acq:=false,rel:=false,dep:=0 }
section
variable {t:Tst} {j a:Nat} (hj:j<t.ths.length) (ha:a<=(lth t j).length)
include hj
include ha
variable (ht:TTOk t) (h7:(lth t j).length<=7)
include ht h7
end
theorem zD0 (t:Tst) (hn:∀ l∈t.locs,l.name.size<=1000000) (n:Int):Pf Tryz.prog 20 [.agg t.cs,iV n] (iV (o9 t n)):=by
 refine Pf.of_fn (.cons (.agg (YQ_ t)) (.cons (.val _) .nil)) (.val _) ?_
 refine B7 T_ok func20 rfl rfl ntmps20 rfl (by simp) ?_
 refine rG ?_ fun K h=>by simp [go_sem,Tst.cs];exact h
 refine A3 fun K1 hK1=>?_
 refine Tr.weaken (Weaker.fz (H':=[]) (t':=[(1,iV n),(2,.rp t.cs 0)]) 1 0 ?_ ?_ ?_) ?_
 .simp [go_sem,Tst.cs]
 .simp
 .simp
 refine rK fun K hK=>?_
 simp [go_sem]
 refine A2 zWj ?_
 simp [go_sem]
 refine A2 (zNn t hn) ?_
 by_cases hc:H5 t=0
 .have hcb:(H5 t==0)=true:=by simpa using hc
  simp [go_sem,hc]
  apply hK
  refine cK (fun h=>?_) fun h=>?_
  .simp at h
  clear h
  have hs:=M9 (P8.1 hc).1
  have hu:=zCv hs.2.2.2.2.1
  apply A1
  apply hK1
  refine rG ?_
  refine A3 fun K2 hK2=>?_
  refine rG ?_ fun K h=>by simp [go_sem,Tst.cs];exact h
  apply A0
  refine A9 (α:=Nat × Nat) (fun a=>⟨38,[(1,iV n),(2,.rp t.cs 0),(17,.ro 1 (N3 t.ths)),(18,iV (t.ths.length:Nat)),(19,iV (a.1:Nat)),(5,iV (y4 t.ths a.1:Nat))],[],a.2⟩) (fun a=>a.1<=t.ths.length) (fun a=>t.ths.length-a.1) (0,1) ?_ ?_ ?_
  .exact Nat.zero_le _
  .refine Weaker.fw 1 0 ?_ ?_
   .simp [go_sem,y4,Tst.cs]
   simp [go_sem,Tst.cs]
  rintro ⟨i,jn⟩ hi
  dsimp only at hi ⊢
  refine rG ?_
  refine A3 fun K3 hK3=>?_
  refine cJ (fun h=>?_) fun h=>?_
  .simp at h
   obtain rfl:i=t.ths.length:=by omega
   clear h
   apply A6
   apply hK2
   refine A3 fun K7 hK7=>?_
   refine rG ?_
   refine cK (fun h=>?_) fun h=>?_
   .have hgt:n<(Zi_ t:Int):=by simpa [Zi_] using h
    refine rG ?_
    refine A4 ?_
    simp [go_sem,o9,hc,hgt]
   have hgt:¬ n<(Zi_ t:Int):=by simpa [Zi_] using h
   apply A1
   apply hK7
   refine rG ?_
   refine A4 ?_
   simp [go_sem,o9,hc,hgt]
  simp at h
  have hin:i<t.ths.length:=by omega
  clear h
  have hinI:(i:Int)<(t.ths.length:Nat):=by omega
  obtain ⟨l,hx,hx'⟩:=E0 hin
  have hi0:(0:Int)<=(i:Nat):=by omega
  have hl8:=hs.2.2.2.2.1 l (List.mem_of_getElem? hx)
  have hui:=hu i hi
  have ht4:=hs.2.1
  have hgl:t.ths.getD i []=l:=by rw [List.getD,hx];rfl
  have hw:=wI i
  apply A1
  apply hK3
  refine A3 fun K4 hK4=>?_
  apply A0
  refine rG ?_ fun K h=>by simp [go_sem,hin,hinI,hx,hx',hi0];exact h
  refine rG ?_
  apply A0
  refine A9 (α:=Nat × Nat) (fun b=>⟨38,[(1,iV n),(2,.rp t.cs 0),(17,.ro 1 (N3 t.ths)),(18,iV (t.ths.length:Nat)),(19,iV (i:Nat)),(23,.ro 13 (W0 l)),(24,iV (l.length:Nat)),(25,iV (b.1:Nat)),(5,iV ((y4 t.ths i+Qh_ l b.1:Nat)))],[],b.2⟩) (fun b=>b.1<=l.length) (fun b=>l.length-b.1) (0,jn) ?_ ?_ ?_
  .exact Nat.zero_le _
  .refine Weaker.fw 1 0 ?_ ?_<;>simp [go_sem,Qh_]
  rintro ⟨b,j⟩ hib
  dsimp only at hib ⊢
  refine rG ?_
  refine A3 fun K5 hK5=>?_
  refine cJ (fun h=>?_) fun h=>?_
  .simp at h
   obtain rfl:b=l.length:=by omega
   clear h
   apply A6
   apply hK4
   refine rF ?_ fun K h=>by simp [go_sem,hw];exact h
   refine ⟨(i+1,j),?_,?_,?_⟩
   .dsimp only;omega
   .dsimp only;omega
   refine Weaker.fw 1 0 ?_ ?_
   .simp [go_sem,y4,hx]
   simp [go_sem,y4]
  simp at h
  have hbn:b<l.length:=by omega
  clear h
  have hbI:(b:Int)<(l.length:Nat):=by omega
  obtain ⟨x,hg,hg'⟩:=E0 hbn
  have hb0:(0:Int)<=(b:Nat):=by omega
  have hcl:=zJ5 l b
  have hw2:=wI b
  have hw3:IntKind.i64.wrap ((y4 t.ths i:Int)+(Qh_ l b:Int)+1)=(y4 t.ths i:Int)+((Qh_ l b:Int)+1):=by rw [E4 (by have:=ht4;omega) (by have:=ht4;omega)];omega
  apply A1
  apply hK5
  refine A3 fun K6 hK6=>?_
  apply A0
  refine rG ?_ fun K h=>by simp [go_sem,hbn,hbI,hg,hg',hb0,B6];exact h
  refine rK fun K hK=>?_
  simp [go_sem,B6]
  refine A2 (N5 x) ?_
  simp [go_sem]
  apply hK
  refine cK (fun h=>?_) fun h=>?_
  .have hm:M2 x.op=true:=h
   have hst:Qh_ l (b+1)=Qh_ l b+1:=by rw [Qi_ hg,hm];rfl
   refine rF ?_ fun K h=>by simp [go_sem,hw3];exact h
   apply hK6
   refine rF ?_ fun K h=>by simp [go_sem,hw2];exact h
   refine ⟨(b+1,j+1),?_,?_,?_⟩
   .dsimp only;omega
   .dsimp only;omega
   refine Weaker.fw 1 0 ?_ ?_
   .simp [go_sem,hst]
   simp [go_sem,Qh_]
  have hm:M2 x.op=false:=h
  have hst:Qh_ l (b+1)=Qh_ l b:=by rw [Qi_ hg,hm];rfl
  apply A1
  apply hK6
  refine rF ?_ fun K h=>by simp [go_sem,hw2];exact h
  refine ⟨(b+1,j+1),?_,?_,?_⟩
  .dsimp only;omega
  .dsimp only;omega
  refine Weaker.fw 1 0 ?_ ?_
  .simp [go_sem,hst]
  simp [go_sem,Qh_]
 simp [go_sem,hc]
 apply hK
 refine cJ (fun h=>?_) fun h=>?_
 .simp [hc] at h
 clear h
 refine rG ?_
 refine A4 ?_
 simp [go_sem,o9,hc]
theorem zWk {t:Tst}:∀ l∈(few t).locs,l.name.size<=1000000:=fun l hl=>by
 obtain ⟨l',_,rfl⟩:=List.mem_map.1 hl
 exact Nat.le_trans (zUd l'.name 20) (by decide)
def VJ_ (l:List Ins):Tst:={ locs:=zF0,ths:=[l.take 8],asks:=[] }
theorem zOt {l:List Ins}:∀ x∈(VJ_ l).locs,x.name.size<=1000000:=fun x h=>by
 simp only [VJ_,zF0,mem_cons,not_mem_nil,or_false] at h
 rcases h with rfl|rfl<;>decide
theorem zOu {l:List Ins} (h:∀ x∈l,J9_ x):Z4_ (VJ_ l):=fun m hm x hx=>by
 simp only [VJ_,mem_singleton] at hm
 subst hm
 exact h x (mem_of_mem_take hx)
def plU (l:List (List Ins)) (i:Nat):List (List Ins):=(l.take i).map fun x=>x.map zds
@[go_sem] theorem zgf (l:List (Nat × Nat)) (i:Nat) (h:i<(d0 l).length):(d0 l)[i]=.agg [iV ((l[i]'(by simpa [d0] using h)).1:Nat),iV ((l[i]'(by simpa [d0] using h)).2:Nat)]:=by simp [d0,opC]
abbrev fnV (f:FuncId):V:=.fn (.func f) [] []
theorem zQx (f:FuncId):NL (fnV f):=fun ι ι' O w cv h=>by
 cases h with
 | fn h1 h2=>cases h1;cases h2;exact .fn .nil .nil
theorem WB_ (x:Ins):B6 x=.agg x.cs:=rfl
theorem opF {c:Cs} (hc:CsOk c) {k:Nat} (hk:k<c.n):∃ l,(c.ops[k]?=some (c.op k)/\∀ h,c.ops[k]'h=c.op k)/\((c.op k).1<c.t.ths.length/\c.t.ths[(c.op k).1]?=some l/\∀ h,c.t.ths[(c.op k).1]'h=l)/\((c.op k).2<l.length/\l[(c.op k).2]?=some (c.x k)/\∀ h,l[(c.op k).2]'h=c.x k):=by
 obtain ⟨l,h1,h2,h3,_⟩:=Cs.opAt hk
 obtain ⟨a1,a2⟩:=List.getElem?_eq_some_iff.1 h1
 obtain ⟨b1,b2⟩:=List.getElem?_eq_some_iff.1 h2
 obtain ⟨c1,c2⟩:=List.getElem?_eq_some_iff.1 h3
 exact ⟨l,⟨h1,fun _=>a2⟩,⟨b1,h2,fun _=>b2⟩,⟨c1,h3,fun _=>c2⟩⟩
def zFs (c:Cs) (i k:Nat):Bool:=decide (k<i)&&c.run k
theorem zJo (c:Cs):D7 (zFs c 0)=0:=D3.2 fun i _=>by simp [zFs]
theorem zOv {c:Cs} (hc:CsOk c):zFs c c.n=c.run:=by
 funext k
 unfold zFs
 cases h:c.run k with
 | false=>simp
 | true=>simp [Cs.run_lt hc h]
theorem zOw {c:Cs} {i:Nat} (h:c.run i=true) (hi:i<16):D7 (zFs c i) ||| pw i=D7 (zFs c (i+1)):=by
 rw [XW_ hi,V8]
 refine L7 fun k _=>?_
 unfold zFs
 rw [Bool.eq_iff_iff]
 simp only [Bool.or_eq_true,Bool.and_eq_true,decide_eq_true_eq,beq_iff_eq]
 constructor
 .rintro (⟨h1,h2⟩|rfl)
  .exact ⟨by omega,h2⟩
  exact ⟨by omega,h⟩
 rintro ⟨h1,h2⟩
 by_cases e:k=i
 .exact .inr e
 exact .inl ⟨by omega,h2⟩
theorem zWl {c:Cs} {i:Nat} (h:c.run i=false):D7 (zFs c i)=D7 (zFs c (i+1)):=L7 fun k _=>by
 unfold zFs
 rw [Bool.eq_iff_iff]
 simp only [Bool.and_eq_true,decide_eq_true_eq]
 constructor
 .rintro ⟨h1,h2⟩;exact ⟨by omega,h2⟩
 rintro ⟨h1,h2⟩
 refine ⟨?_,h2⟩
 by_cases e:k=i
 .subst e;rw [h] at h2;cases h2
 omega
def zFt (c:Cs) (q:Ins->Bool) (i k:Nat):Bool:=c.run k&&(decide (i<=k)||q (c.x k))
theorem zJp (c:Cs) (q:Ins->Bool):zFt c q 0=c.run:=by funext k;simp [zFt]
theorem zOx {c:Cs} (hc:CsOk c) (q:Ins->Bool):zFt c q c.n=c.at_ q:=by
 funext k
 unfold zFt Cs.at_
 cases h:c.run k with
 | false=>rfl
 | true =>
  have:=Cs.run_lt hc h
  simp only [Bool.true_and]
  rw [decide_eq_false (by omega)];rfl
theorem zWm {c:Cs} {q:Ins->Bool} {i:Nat} (h:q (c.x i)=false) (hi:i<16):D7 (zFt c q i) ^^^ (D7 (zFt c q i) &&& pw i)=D7 (zFt c q (i+1)):=by
 rw [XW_ hi,q9,U5_]
 refine L7 fun k _=>?_
 unfold zFt
 rw [Bool.eq_iff_iff]
 simp only [Bool.or_eq_true,Bool.and_eq_true,decide_eq_true_eq,beq_iff_eq,Bool.not_eq_true',beq_eq_false_iff_ne]
 constructor
 .rintro ⟨⟨h1,h2⟩,h3⟩;exact ⟨h1,h2.imp (fun h=>by omega) id⟩
 rintro ⟨h1,h2⟩
 refine ⟨⟨h1,h2.imp (fun h=>by omega) id⟩,fun e=>?_⟩
 subst e;rcases h2 with h2|h2
 .omega
 rw [h] at h2;cases h2
theorem zOy {c:Cs} {q:Ins->Bool} {i:Nat} (h:q (c.x i)=true):D7 (zFt c q i)=D7 (zFt c q (i+1)):=L7 fun k _=>by
 unfold zFt
 rw [Bool.eq_iff_iff]
 simp only [Bool.or_eq_true,Bool.and_eq_true,decide_eq_true_eq]
 constructor
 .rintro ⟨h1,h2⟩
  by_cases e:k=i
  .subst e;exact ⟨h1,.inr h⟩
  exact ⟨h1,h2.imp (fun h=>by omega) id⟩
 rintro ⟨h1,h2⟩;exact ⟨h1,h2.imp (fun h=>by omega) id⟩
theorem UK_ (c:Cs) (hc:CsOk c) (k:Nat) (hk:k<c.n):Pf Tryz.prog 102 [.rp c.cs 0,iV k] (B6 (c.x k)):=by
 refine Pf.of_fn (.cons (Z9_ c) (.cons (.val _) .nil)) (m9 _) ?_
 obtain ⟨l,⟨o1,o2⟩,⟨a1,a2,a3⟩,⟨b1,b2,b3⟩⟩:=opF hc hk
 have g88:((c.op k).1:Int)<(c.t.ths.length:Nat)/\((c.op k).2:Int)<(l.length:Nat)/\(0:Int)<=((c.op k).1:Nat)/\(0:Int)<=((c.op k).2:Nat)/\(0:Int)<=(k:Nat):=by and_intros<;>omega
 have hcn:c.ops.length=c.n:=rfl
 have kI:(k:Int)<(c.n:Nat):=by omega
 have kN:k<c.n:=hk
 have o3:(d0 c.ops)[k]?=some (.agg [iV ((c.op k).1:Nat),iV ((c.op k).2:Nat)]):=by rw [O0,o1];rfl
 refine B7 T_ok func102 rfl rfl ntmps102 rfl (by simp) ?_
 refine rG ?_
 refine dK 25 [[],[0],[0,1],[0,1,2],[0,1,2,3],[0,1,2,3,4],[0,1,2,3,4,5],[],[7],[7,8],[7,8,9],[],[7,8,9,10,11],[7,8,9,10,11,12],[7,8,9,10,11,12,13],[0,1,2,3,4,5,6,7,8,9,10,11,12,13,14],[0,1,2,3,4,5,6,7,8,9,10,11,12,13,14,15],[],[17],[17,18],[17,18,19],[],[17,18,19,20,21],[17,18,19,20,21,22],[17,18,19,20,21,22,23],[0,1,2,3,4,5,6,7,8,9,10,11,12,13,14,15,16,17,18,19,20,21,22,23,24],[0,1,2,3,4,5,6,7,8,9,10,11,12,13,14,15,16,17,18,19,20,21,22,23,24,25],[0,1,2,3,4,5,6,7,8,9,10,11,12,13,14,15,16,17,18,19,20,21,22,23,24,25,26]] fun K hK=>?_
 first|dsimp only [List.take,List.drop]|dsimp [List.take,List.drop]
 simp [go_sem,Cs.cs,Tst.cs,B6,o1,o2,o3,a1,a2,a3,b1,b2,b3,g88,kI,kN,hcn]
 apply hK
 refine A4 ?_
 simp [go_sem]
 rfl
theorem WC_ (c:Cs) (hc:CsOk c):Pf Tryz.prog 47 [.rp c.cs 0] (.val (.int .u16 (D7 c.run))):=by
 refine Pf.of_fn (.cons (Z9_ c) .nil) (.val _) ?_
 have hn8:=hc.n8
 have hl:=hc.fl.l1
 refine B7 T_ok func47 rfl rfl ntmps47 rfl (by simp) ?_
 refine rG ?_
 refine rG ?_
 refine A3 fun K1 hK1=>?_
 refine rG ?_ fun K h=>by simp [go_sem,Cs.cs,Os'.cs];exact h
 apply A0
 refine A9 (α:=Nat) (fun i=>⟨27,[(0,.rp c.cs 0),(12,.ro 1 (iVs c.f.f.state)),(13,iV (c.n:Nat)),(14,iV (i:Nat)),(3,.val (.int .u16 (D7 (zFs c i))))],[],0⟩) (fun i=>i<=c.n) (fun i=>c.n-i) 0 ?_ ?_ ?_
 .exact Nat.zero_le _
 .refine Weaker.fw 1 0 ?_ ?_
  .simp [go_sem,Cs.cs,Os'.cs,hl,zJo]
  simp [go_sem]
 rintro i hi
 skip
 refine rG ?_
 refine A3 fun K2 hK2=>?_
 refine cJ (fun h=>?_) fun h=>?_
 .simp at h
  obtain rfl:i=c.n:=by omega
  apply A6
  apply hK1
  refine rG ?_
  refine A4 ?_
  simp [go_sem,zOv hc]
 simp at h
 have hin:i<c.n:=by omega
 clear h
 have hi16:i<16:=by omega
 have hi16I:(i:Int)<16:=by omega
 have hsN:i<c.f.f.state.length:=by omega
 obtain ⟨s,hs,hs'⟩:=E0 hsN
 have g89:(i:Int)<(c.f.f.state.length:Nat)/\(0:Int)<=(i:Nat):=by and_intros<;>omega
 have hw:=wI i
 have hre:c.run i=decide (s=1):=by unfold Cs.run;rw [List.getD,hs];rfl
 apply A1
 apply hK2
 refine A3 fun K3 hK3=>?_
 apply A0
 refine rG ?_ fun K h=>by simp [go_sem,hsN,hs,hs',g89];exact h
 refine rG ?_
 refine cJ (fun h=>?_) fun h=>?_
 .have hrun:c.run i=false:=by rw [hre];simpa using h
  apply A1
  apply hK3
  refine rF ?_ fun K h=>by simp [go_sem,hw];exact h
  refine ⟨i+1,?_,?_,?_⟩
  .omega
  .omega
  refine Weaker.fw 1 0 ?_ ?_
  .simp [go_sem,Cs.cs,zWl hrun]
  simp [go_sem]
 have hrun:c.run i=true:=by rw [hre];simpa using h
 have hmr:=T7 (zFs c i)
 have hmr2:=zGt hi16
 have g90:((pw i:Nat):Int)<65536/\(0:Int)<=((pw i:Nat):Int):=by and_intros<;>omega
 refine rF ?_ fun K h=>by simp [go_sem,g89,hi16,hi16I,g90,zOw hrun hi16];exact h
 apply hK3
 refine rF ?_ fun K h=>by simp [go_sem,hw];exact h
 refine ⟨i+1,?_,?_,?_⟩
 .omega
 .omega
 refine Weaker.fw 1 0 ?_ ?_
 .simp [go_sem,Cs.cs]
 simp [go_sem]
theorem zdt (x:Ins):Pf Tryz.prog 146 [B6 x] (bV (rdB x.op)):=by
 rw [WB_]
 refine Pf.of_fn (.cons (.agg (m8 x)) .nil) (.val _) ?_
 refine B7 T_ok func146 rfl rfl ntmps146 rfl (by simp) ?_
 refine rG ?_
 refine rK fun K hK=>?_
 simp [go_sem,Ins.cs]
 refine A2 (n6 x) ?_
 simp [go_sem]
 apply hK
 refine A4 ?_
 simp [go_sem]
theorem zdu (x:Ins):Pf Tryz.prog 101 [B6 x] (bV (wrB x.op)):=by
 rw [WB_]
 refine Pf.of_fn (.cons (.agg (m8 x)) .nil) (.val _) ?_
 refine B7 T_ok func101 rfl rfl ntmps101 rfl (by simp) ?_
 refine rG ?_
 refine rK fun K hK=>?_
 simp [go_sem,Ins.cs]
 refine A2 (n6 x) ?_
 simp [go_sem]
 apply hK
 refine A4 ?_
 simp [go_sem]
theorem zWn (x:Ins):Pf Tryz.prog 93 [B6 x] (bV (x.acq)):=by
 rw [WB_]
 refine Pf.of_fn (.cons (.agg (m8 x)) .nil) (.val _) ?_
 refine B7 T_ok func93 rfl rfl ntmps93 rfl (by simp) ?_
 refine rG ?_
 refine rG ?_ fun K h=>by simp [go_sem,Ins.cs];exact h
 refine A4 ?_
 simp [go_sem]
theorem zWo (x:Ins):Pf Tryz.prog 94 [B6 x] (bV (x.rel)):=by
 rw [WB_]
 refine Pf.of_fn (.cons (.agg (m8 x)) .nil) (.val _) ?_
 refine B7 T_ok func94 rfl rfl ntmps94 rfl (by simp) ?_
 refine rG ?_
 refine rG ?_ fun K h=>by simp [go_sem,Ins.cs];exact h
 refine A4 ?_
 simp [go_sem]
theorem zWp (x:Ins):Pf Tryz.prog 95 [B6 x] (bV (decide (x.op=11)||(decide (x.op=12)||decide (x.op=14)))):=by
 rw [WB_]
 refine Pf.of_fn (.cons (.agg (m8 x)) .nil) (.val _) ?_
 refine B7 T_ok func95 rfl rfl ntmps95 rfl (by simp) ?_
 refine rG ?_
 refine D8 T_ok (by decide) ⟨16,[(2,bV (decide (x.op=11)||(decide (x.op=12)||decide (x.op=14))))],[(0,.rows 13 [.agg x.cs])],1⟩ ?_ ?_
 .by_cases c1:x.op=11
  .simp [go_sem,c1,Ins.cs]
   refine Weaker.fw 1 0 ?_ ?_<;>simp [go_sem,c1]
  by_cases c2:x.op=12
  .simp [go_sem,c1,c2,Ins.cs]
   refine Weaker.fw 1 0 ?_ ?_<;>simp [go_sem,c1,c2]
  by_cases c3:x.op=14
  .simp [go_sem,c1,c2,c3,Ins.cs]
   refine Weaker.fw 1 0 ?_ ?_<;>simp [go_sem,c1,c2,c3]
  simp [go_sem,c1,c2,c3,Ins.cs]
  refine Weaker.fw 1 0 ?_ ?_<;>simp [go_sem,c1,c2,c3]
 skip
 refine A4 ?_
 simp [go_sem]
theorem Zl_ (c:Cs) (hc:CsOk c) (f:FuncId) (q:Ins->Bool) (hf:∀ x,Pf Tryz.prog f [B6 x] (bV (q x))):Pf Tryz.prog 92 [.rp c.cs 0,fnV f] (.val (.int .u16 (D7 (c.at_ q)))):=by
 refine Pf.of_fn (.cons (Z9_ c) (.cons (zQx f) .nil)) (.val _) ?_
 have hn8:=hc.n8
 refine B7 T_ok func92 rfl rfl ntmps92 rfl (by simp) ?_
 refine rG ?_
 refine rK fun K hK=>?_
 simp [go_sem]
 refine A2 (WC_ c hc) ?_
 simp [go_sem]
 apply hK
 refine A3 fun K1 hK1=>?_
 refine rG ?_ fun K h=>by simp [go_sem,Cs.cs];exact h
 apply A0
 refine A9 (α:=Nat) (fun i=>⟨29,[(0,.rp c.cs 0),(1,fnV f),(13,iV (c.n:Nat)),(14,iV (i:Nat)),(5,.val (.int .u16 (D7 (zFt c q i))))],[],0⟩) (fun i=>i<=c.n) (fun i=>c.n-i) 0 ?_ ?_ ?_
 .exact Nat.zero_le _
 .refine Weaker.fw 1 0 ?_ ?_
  .simp [go_sem,Cs.n,Cs.cs,zJp]
  simp [go_sem]
 rintro i hi
 skip
 refine rG ?_
 refine A3 fun K2 hK2=>?_
 refine cJ (fun h=>?_) fun h=>?_
 .simp at h
  obtain rfl:i=c.n:=by omega
  apply A6
  apply hK1
  refine rG ?_
  refine A4 ?_
  simp [go_sem,zOx hc]
 simp at h
 have hin:i<c.n:=by omega
 clear h
 have hi16:i<16:=by omega
 have g91:(i:Int)<16/\(0:Int)<=(i:Nat):=by and_intros<;>omega
 have hw:=wI i
 have hmr2:=zGt hi16
 have g92:((pw i:Nat):Int)<65536/\(0:Int)<=((pw i:Nat):Int):=by and_intros<;>omega
 apply A1
 apply hK2
 refine A3 fun K3 hK3=>?_
 apply A0
 refine rG ?_
 refine rK fun K hK=>?_
 simp [go_sem]
 refine A2 (UK_ c hc i hin) ?_
 simp [go_sem]
 refine A2 (hf _) ?_
 simp [go_sem]
 apply hK
 refine cK (fun h=>?_) fun h=>?_
 .have hq:q (c.x i)=false:=by simpa using h
  refine rF ?_ fun K h=>by simp [go_sem,g91,hi16,g92,zWm hq hi16];exact h
  apply hK3
  refine rF ?_ fun K h=>by simp [go_sem,hw];exact h
  refine ⟨i+1,?_,?_,?_⟩
  .omega
  .omega
  refine Weaker.fw 1 0 ?_ ?_<;>simp [go_sem]
 have hq:q (c.x i)=true:=by simpa using h
 apply A1
 apply hK3
 refine rF ?_ fun K h=>by simp [go_sem,hw];exact h
 refine ⟨i+1,?_,?_,?_⟩
 .omega
 .omega
 refine Weaker.fw 1 0 ?_ ?_
 .simp [go_sem,zOy hq]
 simp [go_sem]
theorem Y6_ (c:Cs) (hc:CsOk c):Pf Tryz.prog 91 [.rp c.cs 0] (.val (.int .u16 (D7 (c.at_ fun x=>rdB x.op)))):=by
 refine Pf.of_fn (.cons (Z9_ c) .nil) (.val _) ?_
 refine B7 T_ok func91 rfl rfl ntmps91 rfl (by simp) ?_
 refine rG ?_
 refine rK fun K hK=>?_
 simp [go_sem]
 refine A2 (Zl_ c hc 146 (fun x=>rdB x.op) (fun x=>zdt x)) ?_
 simp [go_sem]
 apply hK
 refine A4 ?_
 simp [go_sem]
theorem U2 (c:Cs) (hc:CsOk c):Pf Tryz.prog 40 [.rp c.cs 0] (.val (.int .u16 (D7 (c.at_ fun x=>wrB x.op)))):=by
 refine Pf.of_fn (.cons (Z9_ c) .nil) (.val _) ?_
 refine B7 T_ok func40 rfl rfl ntmps40 rfl (by simp) ?_
 refine rG ?_
 refine rK fun K hK=>?_
 simp [go_sem]
 refine A2 (Zl_ c hc 101 (fun x=>wrB x.op) (fun x=>zdu x)) ?_
 simp [go_sem]
 apply hK
 refine A4 ?_
 simp [go_sem]
theorem zJq {q:Nat->Nat->Bool} {s:Nat} (h:∀ y,y<s->q 0 y=false):B5 (fun _ _=>false)=B5 (upR q 0 s):=C3 fun x y=>by
 unfold upR
 by_cases hx:x=0
 .subst hx
  by_cases hy:y<s
  .simp [h y hy]
  simp [hy]
 simp [hx]
theorem UL_ {q:Nat->Nat->Bool} {a b:Nat} (h:∀ x y,a<=x->q x y=false) (x y:Nat):upR q a b x y=q x y:=by
 unfold upR
 by_cases e:x<a
 .simp [e]
 rw [h x y (by omega)];rfl
theorem zQy {c:Cs} {i b:Nat} (h:i<b) (hb:b<c.n):po0 c i b=decide (((c.op i).1:Int)=((c.op b).1:Nat)):=by
 unfold po0 Cs.th
 rw [decide_eq_true h,decide_eq_true hb]
 simp
 omega
theorem zAk {c:Cs} {i y:Nat} (h:y<=i):po0 c i y=false:=by unfold po0;simp [show ¬ i<y by omega]
theorem zD1 {c:Cs} {i y:Nat} (h:c.n<=y):po0 c i y=false:=by unfold po0;simp [show ¬ y<c.n by omega]
theorem zWq {c:Cs} (x y:Nat) (h:c.n<=x):po0 c x y=false:=by
 rcases Nat.lt_or_ge x y with h1|h1
 .exact zD1 (by omega)
 exact zAk h1
theorem zQz {c:Cs} {i b:Nat} (h:i<c.n) (hb:b<c.n):lcP c i b=decide ((c.x i).loc=(c.x b).loc):=by
 unfold lcP
 rw [decide_eq_true h,decide_eq_true hb];rfl
theorem zOz {c:Cs} {i y:Nat} (h:c.n<=y):lcP c i y=false:=by unfold lcP;simp [show ¬ y<c.n by omega]
theorem zWr {c:Cs} {i y:Nat} (h:c.n<=i):lcP c i y=false:=by unfold lcP;simp [show ¬ i<c.n by omega]
theorem zWs {c:Cs} {i m:Nat} (hi:i<c.n) (h:c.fr[i]?=some (m:Int)) (ht:((c.op m).1:Int)=((c.op i).1:Nat)) (x:Nat):zFp c x i=decide (x=m):=by
 unfold zFp Cs.th
 rw [decide_eq_true hi,List.getD,h]
 rw [Bool.eq_iff_iff]
 simp only [Option.getD_some,Bool.true_and,Bool.and_eq_true,decide_eq_true_eq]
 constructor
 .rintro ⟨h1,_⟩;omega
 rintro rfl;exact ⟨rfl,by omega⟩
theorem zdv {c:Cs} {i m:Nat} (h:c.fr[i]?=some (m:Int)) (ht:¬ ((c.op m).1:Int)=((c.op i).1:Nat)) (x:Nat):zFp c x i=false:=by
 unfold zFp Cs.th
 rw [List.getD,h,Bool.eq_false_iff]
 simp only [Option.getD_some,ne_eq,Bool.and_eq_true,decide_eq_true_eq,not_and]
 intro _ h1 h2
 obtain rfl:m=x:=by omega
 exact ht (by omega)
theorem zWt {c:Cs} {i:Nat} {a:Int} (h:c.fr[i]?=some a) (ha:¬ 0<=a) (x:Nat):zFp c x i=false:=by
 unfold zFp Cs.th
 rw [List.getD,h,Bool.eq_false_iff]
 simp only [Option.getD_some,ne_eq,Bool.and_eq_true,decide_eq_true_eq,not_and]
 intro _ h1 h2
 omega
theorem zP0 {c:Cs} (x y:Nat) (h:c.n<=y):zFp c x y=false:=by unfold zFp;simp [show ¬ y<c.n by omega]
theorem UM_ {q:Nat->Nat->Bool} {a b:Nat} (h:∀ x y,b<=y->q x y=false) (x y:Nat):upC q b a x y=q x y:=by
 unfold upC
 by_cases e:y<b
 .simp [e]
 rw [h x y (by omega)];rfl
theorem zR0 {l:List Int} {b:Nat} {m:Int} (h:l[b]?=some m) (a:Nat):JM_ l a b=R7 m a:=by
 unfold JM_
 rw [decide_eq_true (List.getElem?_eq_some_iff.1 h).1,List.getD,h];rfl
theorem zP1 {l:List Int} (x y:Nat) (h:l.length<=y):JM_ l x y=false:=by unfold JM_;simp [show ¬ y<l.length by omega]
theorem zD2 {m:Int} (h0:0<=m) (h1:m<18446744073709551616) {a:Nat} (ha:a<64):n64 (zNo m (a:Nat)) 1=((R7 m a).toNat:Nat):=by
 obtain ⟨x,rfl⟩:=Int.eq_ofNat_of_zero_le h0
 rw [zO5 ha]
 have h2:x >>> a<=x:=by rw [Nat.shiftRight_eq_div_pow];exact Nat.div_le_self _ _
 have e:=zVd (a:=x >>> a) (b:=1) (by omega) (by omega)
 rw [show ((1:Nat):Int)=1 from rfl] at e
 rw [e]
 unfold R7
 rw [Int.toNat_natCast,Nat.and_one_is_mod,Nat.testBit_eq_decide_div_mod_eq,Nat.shiftRight_eq_div_pow]
 rcases Nat.mod_two_eq_zero_or_one (x / 2 ^ a) with e2|e2<;>simp [e2]
theorem zWu {c:Cs} {i m:Nat} {p:Int} (h:c.f.f.pair[i]?=some p) (hp:p=(m:Int)+1) (hr:c.run i=true) (x:Nat):zLp c x i=decide (x=m):=by
 unfold zLp
 rw [hr,List.getD,h,Bool.eq_iff_iff]
 simp only [Option.getD_some,Bool.true_and,decide_eq_true_eq]
 omega
theorem zJr {c:Cs} {i:Nat} (hr:c.run i=false) (x:Nat):zLp c x i=false:=by unfold zLp;rw [hr];rfl
theorem zdw {c:Cs} {i:Nat} {p:Int} (h:c.f.f.pair[i]?=some p) (hp:¬ 0<p) (x:Nat):zLp c x i=false:=by
 unfold zLp
 rw [List.getD,h,Bool.eq_false_iff]
 simp only [Option.getD_some,ne_eq,Bool.and_eq_true,decide_eq_true_eq,not_and]
 omega
theorem zP2 {c:Cs} (hc:CsOk c) (x y:Nat) (h:c.n<=y):zLp c x y=false:=zJr (Cs.run_out hc h) x
theorem zWv (c:Cs) (hc:CsOk c):Pf Tryz.prog 89 [.rp c.cs 0] (.agg (B5 (poP c))):=by
 refine Pf.of_fn (.cons (Z9_ c) .nil) (.agg (D9 _)) ?_
 have hn8:=hc.n8
 have hcn:c.ops.length=c.n:=rfl
 refine B7 T_ok func89 rfl rfl ntmps89 rfl (by simp) ?_
 refine rG ?_
 refine rG ?_
 refine A3 fun K1 hK1=>?_
 refine rG ?_ fun K h=>by simp [go_sem,Cs.cs,hcn];exact h
 apply A0
 refine A9 (α:=Nat × Nat) (fun a=>⟨55,[(0,.rp c.cs 0),(2,.ptr 0 0 0),(3,.ptr 1 0 0),(11,iV (c.n:Nat)),(12,iV (a.1:Nat))],[(1,.rows 16 [.agg (B5 (upR (po0 c) a.1 (a.1+1)))]),(0,.rows 16 [.agg (B5 fun _ _=>false)])],a.2⟩) (fun a=>a.1<=c.n/\1<a.2) (fun a=>c.n-a.1) (0,2) ?_ ?_ ?_
 .exact ⟨Nat.zero_le _,by dsimp only;omega⟩
 .refine Weaker.fy 1 0 ?_ ?_
  .simp [go_sem,Cs.cs,Cs.n]
  simp [go_sem,<-zJq (q:=po0 c) (s:=1) fun y hy=>zAk (by omega)]
 rintro ⟨i,j⟩ ⟨hi,hj⟩
 dsimp only at hi hj ⊢
 refine rG ?_
 refine A3 fun K2 hK2=>?_
 refine cJ (fun h=>?_) fun h=>?_
 .simp at h
  obtain rfl:i=c.n:=by omega
  apply A6
  apply hK1
  refine rK fun K hK=>?_
  simp [go_sem]
  refine A2 (WC_ c hc) ?_
  simp [go_sem]
  apply hK
  refine dK 4 [[],[],[],[1,2],[0,1,2,3],[0,1,2,3,4]] fun K hK=>?_
  first|dsimp only [List.take,List.drop]|dsimp [List.take,List.drop]
  simp [go_sem]
  refine A5 (G8 _ _) ?_
  simp [go_sem]
  refine A2 (J7 _ _) ?_
  simp [go_sem]
  apply hK
  refine A4 ?_
  simp [go_sem]
  exact C3 fun x y=>by unfold poP;rw [UL_ zWq]
 simp at h
 have hin:i<c.n:=by omega
 clear h
 have hw:=wI i
 apply A1
 apply hK2
 refine A3 fun K3 hK3=>?_
 apply A0
 refine rG ?_
 refine rG ?_ fun K h=>by simp [go_sem,hw];exact h
 apply A0
 refine A9 (α:=Nat × Nat) (fun b=>⟨55,[(0,.rp c.cs 0),(2,.ptr 0 0 0),(3,.ptr 1 0 0),(11,iV (c.n:Nat)),(12,iV (i:Nat)),(4,iV (i:Nat)),(5,iV (b.1:Nat))],[(1,.rows 16 [.agg (B5 (upR (po0 c) i b.1))]),(0,.rows 16 [.agg (B5 fun _ _=>false)])],b.2⟩) (fun b=>i<b.1/\b.1<=c.n/\1<b.2) (fun b=>c.n-b.1) (i+1,j) ?_ ?_ ?_
 .exact ⟨by dsimp only;omega,by dsimp only;omega,hj⟩
 .refine Weaker.fy 1 0 ?_ ?_
  .simp [go_sem,Cs.cs]
  simp [go_sem]
 rintro ⟨b,jj⟩ ⟨hb1,hb,hjj⟩
 dsimp only at hb1 hb hjj ⊢
 refine A3 fun K4 hK4=>?_
 refine rG ?_ fun K h=>by simp [go_sem,Cs.cs,hcn];exact h
 refine cJ (fun h=>?_) fun h=>?_
 .simp at h
  obtain rfl:b=c.n:=by omega
  clear h
  apply A6
  apply hK3
  refine rF ?_ fun K h=>by simp [go_sem,hw];exact h
  refine ⟨(i+1,jj),?_,?_,?_⟩
  .exact ⟨by dsimp only;omega,by dsimp only;omega⟩
  .dsimp only;omega
  refine Weaker.fy 1 0 ?_ ?_
  .simp [go_sem,Cs.cs]
  simp [go_sem,V4_ (q:=po0 c) (a:=i) (b:=c.n) (s:=i+1+1) (fun y hy=>zD1 hy) (fun y hy=>zAk (by omega))]
 simp at h
 have hbn:b<c.n:=by omega
 clear h
 have hwb:=wI b
 obtain ⟨l,⟨o1,o2⟩,⟨a1,a2,a3⟩,⟨b1,b2,b3⟩⟩:=opF hc hin
 have g93:((c.op i).1:Int)<(c.t.ths.length:Nat)/\((c.op i).2:Int)<(l.length:Nat)/\(0:Int)<=((c.op i).1:Nat)/\(0:Int)<=((c.op i).2:Nat)/\(0:Int)<=(i:Nat):=by and_intros<;>omega
 have hcn:c.ops.length=c.n:=rfl
 have kI:(i:Int)<(c.n:Nat):=by omega
 have kN:i<c.n:=hin
 have o3:(d0 c.ops)[i]?=some (.agg [iV ((c.op i).1:Nat),iV ((c.op i).2:Nat)]):=by rw [O0,o1];rfl
 obtain ⟨lq,⟨o1q,o2q⟩,⟨a1q,a2q,a3q⟩,⟨b1q,b2q,b3q⟩⟩:=opF hc hbn
 have g94:((c.op b).1:Int)<(c.t.ths.length:Nat)/\((c.op b).2:Int)<(lq.length:Nat)/\(0:Int)<=((c.op b).1:Nat)/\(0:Int)<=((c.op b).2:Nat)/\(0:Int)<=(b:Nat):=by and_intros<;>omega
 have hcnq:c.ops.length=c.n:=rfl
 have kIq:(b:Int)<(c.n:Nat):=by omega
 have kNq:b<c.n:=hbn
 have o3q:(d0 c.ops)[b]?=some (.agg [iV ((c.op b).1:Nat),iV ((c.op b).2:Nat)]):=by rw [O0,o1q];rfl
 apply A1
 apply hK4
 refine A3 fun K5 hK5=>?_
 apply A0
 refine dK 16 [[],[0],[0,1],[0,1,2],[],[0,1,2,3,4],[0,1,2,3,4,5],[0,1,2,3,4,5,6],[],[8],[8,9],[8,9,10],[],[8,9,10,11,12],[8,9,10,11,12,13],[8,9,10,11,12,13,14],[0,1,2,3,4,5,6,7,8,9,10,11,12,13,14,15]] fun K hK=>?_
 first|dsimp only [List.take,List.drop]|dsimp [List.take,List.drop]
 simp [go_sem,Cs.cs,o1,o2,o3,a1,a2,a3,b1,b2,b3,g93,kI,kN,hcn,o1q,o2q,o3q,a1q,a2q,a3q,b1q,b2q,b3q,g94,kIq,kNq,hcnq]
 apply hK
 refine cJ (fun h=>?_) fun h=>?_
 .have hpo:po0 c i b=false:=by rw [zQy hb1 hbn];simpa using h
  apply A1
  apply hK5
  refine rF ?_ fun K h=>by simp [go_sem,hwb];exact h
  refine ⟨(b+1,jj+16),?_,?_,?_⟩
  .exact ⟨by dsimp only;omega,by dsimp only;omega,by dsimp only;omega⟩
  .dsimp only;omega
  refine Weaker.fy 1 0 ?_ ?_
  .simp [go_sem,Cs.cs]
  simp [go_sem,zCr hpo]
 have hpo:po0 c i b=true:=by rw [zQy hb1 hbn];simpa using h
 refine rE fun K hK=>?_
 simp [go_sem]
 refine A2 (c9 _ _ _) ?_
 simp [go_sem]
 apply hK
 apply hK5
 refine rF ?_ fun K h=>by simp [go_sem,hwb];exact h
 refine ⟨(b+1,jj+16),?_,?_,?_⟩
 .exact ⟨by dsimp only;omega,by dsimp only;omega,by dsimp only;omega⟩
 .dsimp only;omega
 refine Weaker.fy 1 0 ?_ ?_
 .simp [go_sem,Cs.cs]
 simp [go_sem,zA4 hpo]
theorem zD3 (c:Cs) (hc:CsOk c):Pf Tryz.prog 44 [.rp c.cs 0] (.agg (B5 (lcP c))):=by
 refine Pf.of_fn (.cons (Z9_ c) .nil) (.agg (D9 _)) ?_
 have hn8:=hc.n8
 have hcn:c.ops.length=c.n:=rfl
 refine B7 T_ok func44 rfl rfl ntmps44 rfl (by simp) ?_
 refine rG ?_
 refine rG ?_
 refine A3 fun K1 hK1=>?_
 refine rG ?_ fun K h=>by simp [go_sem,Cs.cs,hcn];exact h
 apply A0
 refine A9 (α:=Nat × Nat) (fun a=>⟨38,[(0,.rp c.cs 0),(2,.ptr 0 0 0),(3,.ptr 1 0 0),(10,iV (c.n:Nat)),(11,iV (a.1:Nat))],[(1,.rows 16 [.agg (B5 (upR (lcP c) a.1 0))]),(0,.rows 16 [.agg (B5 fun _ _=>false)])],a.2⟩) (fun a=>a.1<=c.n/\1<a.2) (fun a=>c.n-a.1) (0,2) ?_ ?_ ?_
 .exact ⟨Nat.zero_le _,by dsimp only;omega⟩
 .refine Weaker.fy 1 0 ?_ ?_
  .simp [go_sem,Cs.cs]
  simp [go_sem,zCq]
 rintro ⟨i,j⟩ ⟨hi,hj⟩
 dsimp only at hi hj ⊢
 refine rG ?_
 refine A3 fun K2 hK2=>?_
 refine cJ (fun h=>?_) fun h=>?_
 .simp at h
  obtain rfl:i=c.n:=by omega
  apply A6
  apply hK1
  refine rG ?_
  refine A4 ?_
  simp [go_sem]
  exact C3 fun x y=>UL_ (fun x y h=>zWr h) x y
 simp at h
 have hin:i<c.n:=by omega
 clear h
 have hw:=wI i
 apply A1
 apply hK2
 refine A3 fun K3 hK3=>?_
 apply A0
 refine rG ?_
 refine rG ?_ fun K h=>by simp [go_sem,Cs.cs,hcn];exact h
 apply A0
 refine A9 (α:=Nat × Nat) (fun b=>⟨38,[(0,.rp c.cs 0),(2,.ptr 0 0 0),(3,.ptr 1 0 0),(10,iV (c.n:Nat)),(11,iV (i:Nat)),(4,iV (i:Nat)),(18,iV (c.n:Nat)),(19,iV (b.1:Nat))],[(1,.rows 16 [.agg (B5 (upR (lcP c) i b.1))]),(0,.rows 16 [.agg (B5 fun _ _=>false)])],b.2⟩) (fun b=>b.1<=c.n/\1<b.2) (fun b=>c.n-b.1) (0,j) ?_ ?_ ?_
 .exact ⟨Nat.zero_le _,hj⟩
 .refine Weaker.fy 1 0 ?_ ?_
  .simp [go_sem,Cs.cs]
  simp [go_sem]
 rintro ⟨b,jj⟩ ⟨hb,hjj⟩
 dsimp only at hb hjj ⊢
 refine rG ?_
 refine A3 fun K4 hK4=>?_
 refine cJ (fun h=>?_) fun h=>?_
 .simp at h
  obtain rfl:b=c.n:=by omega
  clear h
  apply A6
  apply hK3
  refine rF ?_ fun K h=>by simp [go_sem,hw];exact h
  refine ⟨(i+1,jj),?_,?_,?_⟩
  .exact ⟨by dsimp only;omega,by dsimp only;omega⟩
  .dsimp only;omega
  refine Weaker.fy 1 0 ?_ ?_
  .simp [go_sem,Cs.cs]
  simp [go_sem,V4_ (q:=lcP c) (a:=i) (b:=c.n) (s:=0) (fun y hy=>zOz hy) (fun y hy=>absurd hy (Nat.not_lt_zero _))]
 simp at h
 have hbn:b<c.n:=by omega
 clear h
 have hwb:=wI b
 apply A1
 apply hK4
 refine A3 fun K5 hK5=>?_
 apply A0
 refine rG ?_
 refine rK fun K hK=>?_
 simp [go_sem]
 refine A2 (UK_ c hc i hin) ?_
 simp [go_sem,B6]
 refine A2 (UK_ c hc b hbn) ?_
 simp [go_sem,B6]
 apply hK
 refine cJ (fun h=>?_) fun h=>?_
 .have hpo:lcP c i b=false:=by rw [zQz hin hbn];simpa using h
  apply A1
  apply hK5
  refine rF ?_ fun K h=>by simp [go_sem,hwb];exact h
  refine ⟨(b+1,jj),?_,?_,?_⟩
  .exact ⟨by dsimp only;omega,by dsimp only;omega⟩
  .dsimp only;omega
  refine Weaker.fy 1 0 ?_ ?_
  .simp [go_sem,Cs.cs]
  simp [go_sem,zCr hpo]
 have hpo:lcP c i b=true:=by rw [zQz hin hbn];simpa using h
 refine rE fun K hK=>?_
 simp [go_sem]
 refine A2 (c9 _ _ _) ?_
 simp [go_sem]
 apply hK
 apply hK5
 refine rF ?_ fun K h=>by simp [go_sem,hwb];exact h
 refine ⟨(b+1,jj),?_,?_,?_⟩
 .exact ⟨by dsimp only;omega,by dsimp only;omega⟩
 .dsimp only;omega
 refine Weaker.fy 1 0 ?_ ?_
 .simp [go_sem,Cs.cs]
 simp [go_sem,zA4 hpo]
theorem zP3 (c:Cs) (hc:CsOk c):Pf Tryz.prog 90 [.rp c.cs 0] (.agg (B5 (zd9 c))):=by
 refine Pf.of_fn (.cons (Z9_ c) .nil) (.agg (D9 _)) ?_
 have hn8:=hc.n8
 have hcn:c.ops.length=c.n:=rfl
 have hfl:=hc.frl
 refine B7 T_ok func90 rfl rfl ntmps90 rfl (by simp) ?_
 refine rG ?_
 refine rG ?_
 refine A3 fun K1 hK1=>?_
 refine rG ?_ fun K h=>by simp [go_sem,Cs.cs,hcn];exact h
 apply A0
 refine A9 (α:=Nat × Nat) (fun a=>⟨50,[(0,.rp c.cs 0),(2,.ptr 0 0 0),(3,.ptr 1 0 0),(10,.ro 1 (iVs c.fr)),(11,iV (c.n:Nat)),(12,iV (a.1:Nat))],[(1,.rows 16 [.agg (B5 (upC (zFp c) a.1 0))]),(0,.rows 16 [.agg (B5 fun _ _=>false)])],a.2⟩) (fun a=>a.1<=c.n/\1<a.2) (fun a=>c.n-a.1) (0,2) ?_ ?_ ?_
 .exact ⟨Nat.zero_le _,by dsimp only;omega⟩
 .refine Weaker.fy 1 0 ?_ ?_
  .simp [go_sem,Cs.cs,hfl]
  simp [go_sem,V5_]
 rintro ⟨i,j⟩ ⟨hi,hj⟩
 dsimp only at hi hj ⊢
 refine rG ?_
 refine A3 fun K2 hK2=>?_
 refine cJ (fun h=>?_) fun h=>?_
 .simp at h
  obtain rfl:i=c.n:=by omega
  apply A6
  apply hK1
  refine rK fun K hK=>?_
  simp [go_sem]
  refine A2 (WC_ c hc) ?_
  simp [go_sem]
  apply hK
  refine dK 4 [[],[],[],[1,2],[0,1,2,3],[0,1,2,3,4]] fun K hK=>?_
  first|dsimp only [List.take,List.drop]|dsimp [List.take,List.drop]
  simp [go_sem]
  refine A5 (G8 _ _) ?_
  simp [go_sem]
  refine A2 (J7 _ _) ?_
  simp [go_sem]
  apply hK
  refine A4 ?_
  simp [go_sem]
  exact C3 fun x y=>by unfold zd9;rw [UM_ zP0]
 simp at h
 have hin:i<c.n:=by omega
 clear h
 have hw:=wI i
 have hiL:i<c.fr.length:=by omega
 have hiI:(i:Int)<(c.fr.length:Nat):=by omega
 obtain ⟨x,hx,hx'⟩:=E0 hiL
 have hxr:=hc.fr1 i x hx
 obtain ⟨l,⟨o1,o2⟩,⟨a1,a2,a3⟩,⟨b1,b2,b3⟩⟩:=opF hc hin
 have g95:((c.op i).1:Int)<(c.t.ths.length:Nat)/\((c.op i).2:Int)<(l.length:Nat)/\(0:Int)<=((c.op i).1:Nat)/\(0:Int)<=((c.op i).2:Nat)/\(0:Int)<=(i:Nat):=by and_intros<;>omega
 have hcn:c.ops.length=c.n:=rfl
 have kI:(i:Int)<(c.n:Nat):=by omega
 have kN:i<c.n:=hin
 have o3:(d0 c.ops)[i]?=some (.agg [iV ((c.op i).1:Nat),iV ((c.op i).2:Nat)]):=by rw [O0,o1];rfl
 apply A1
 apply hK2
 refine A3 fun K3 hK3=>?_
 apply A0
 refine rG ?_ fun K h=>by simp [go_sem,hiL,hiI,hx,hx',g95];exact h
 refine dK 19 [[],[0],[0,1],[0,1,2],[0,1,2,3],[0,1,2,3,4],[0,1,2,3,4,5],[0,1,2],[0,1,2,3,4,5,6,7],[0,1,2,3,4,5,6,7,8],[0,1,2,3,4,5,6,7,8,9],[0,1,2],[0,1,2,11],[0,1,2,11,12],[0,1,2,11,12,13],[0,1,2],[0,1,2,11,12,13,14,15],[0,1,2,11,12,13,14,15,16],[0,1,2,11,12,13,14,15,16,17],[0,1,2,3,4,5,6,7,8,9,10,11,12,13,14,15,16,17,18],[0,1,2,3,4,5,6,7,8,9,10,11,12,13,14,15,16,17,18,19]] fun K hK=>?_
 first|dsimp only [List.take,List.drop]|dsimp [List.take,List.drop]
 by_cases hx0:0<=x
 .obtain ⟨m,rfl⟩:=Int.eq_ofNat_of_zero_le hx0
  have hm:m<c.n:=by omega
  obtain ⟨lq,⟨o1q,o2q⟩,⟨a1q,a2q,a3q⟩,⟨b1q,b2q,b3q⟩⟩:=opF hc hm
  have g96:((c.op m).1:Int)<(c.t.ths.length:Nat)/\((c.op m).2:Int)<(lq.length:Nat)/\(0:Int)<=((c.op m).1:Nat)/\(0:Int)<=((c.op m).2:Nat)/\(0:Int)<=(m:Nat):=by and_intros<;>omega
  have hcnq:c.ops.length=c.n:=rfl
  have kIq:(m:Int)<(c.n:Nat):=by omega
  have kNq:m<c.n:=hm
  have o3q:(d0 c.ops)[m]?=some (.agg [iV ((c.op m).1:Nat),iV ((c.op m).2:Nat)]):=by rw [O0,o1q];rfl
  simp [go_sem,Cs.cs,o1,o2,o3,a1,a2,a3,b1,b2,b3,g95,kI,kN,hcn,o1q,o2q,o3q,a1q,a2q,a3q,b1q,b2q,b3q,g96,kIq,kNq,hcnq]
  apply hK
  refine cJ (fun h=>?_) fun h=>?_
  .have hcol:=zdv hx (by simpa using h)
   apply A1
   apply hK3
   refine rF ?_ fun K h=>by simp [go_sem,hw];exact h
   refine ⟨(i+1,j+19),?_,?_,?_⟩
   .exact ⟨by dsimp only;omega,by dsimp only;omega⟩
   .dsimp only;omega
   refine Weaker.fy 1 0 ?_ ?_
   .simp [go_sem,Cs.cs]
   simp [go_sem,Y5_ hcol]
  have hcol:=zWs hin hx (by simpa using h)
  refine rE fun K hK=>?_
  simp [go_sem]
  refine A2 (c9 _ _ _) ?_
  simp [go_sem]
  apply hK
  apply hK3
  refine rF ?_ fun K h=>by simp [go_sem,hw];exact h
  refine ⟨(i+1,j+19),?_,?_,?_⟩
  .exact ⟨by dsimp only;omega,by dsimp only;omega⟩
  .dsimp only;omega
  refine Weaker.fy 1 0 ?_ ?_
  .simp [go_sem,Cs.cs]
  simp [go_sem,zIv hcol]
 have hx1:x<0:=by omega
 simp [go_sem,Cs.cs,hx0,hx1]
 apply hK
 refine cK (fun h=>?_) fun h=>?_
 .simp at h
 have hcol:=zWt hx hx0
 apply A1
 apply hK3
 refine rF ?_ fun K h=>by simp [go_sem,hw];exact h
 refine ⟨(i+1,j+19),?_,?_,?_⟩
 .exact ⟨by dsimp only;omega,by dsimp only;omega⟩
 .dsimp only;omega
 refine Weaker.fy 1 0 ?_ ?_
 .simp [go_sem,Cs.cs]
 simp [go_sem,Y5_ hcol]
theorem UN_ (l:List Int) (hl:l.length<=1000) (hu:∀ (i:Nat) (x:Int),l[i]?=some x->0<=x/\x<18446744073709551616):Pf Tryz.prog 96 [.ro 1 (uVs l)] (.agg (B5 (JM_ l))):=by
 refine Pf.of_fn (.cons (Xn_ l) .nil) (.agg (D9 _)) ?_
 refine B7 T_ok func96 rfl rfl ntmps96 rfl (by simp) ?_
 refine rG ?_
 refine rG ?_
 refine A3 fun K1 hK1=>?_
 refine rG ?_
 apply A0
 refine A9 (α:=Nat × Nat) (fun a=>⟨29,[(2,.ptr 0 0 0),(3,.ptr 1 0 0),(7,.ro 1 (uVs l)),(8,iV (l.length:Nat)),(9,iV (a.1:Nat))],[(1,.rows 16 [.agg (B5 (upC (JM_ l) a.1 0))]),(0,.rows 16 [.agg (B5 fun _ _=>false)])],a.2⟩) (fun a=>a.1<=l.length/\1<a.2) (fun a=>l.length-a.1) (0,2) ?_ ?_ ?_
 .exact ⟨Nat.zero_le _,by dsimp only;omega⟩
 .refine Weaker.fy 1 0 ?_ ?_
  .simp [go_sem]
  simp [go_sem,V5_]
 rintro ⟨i,j⟩ ⟨hi,hj⟩
 dsimp only at hi hj ⊢
 refine rG ?_
 refine A3 fun K2 hK2=>?_
 refine cJ (fun h=>?_) fun h=>?_
 .simp at h
  obtain rfl:i=l.length:=by omega
  apply A6
  apply hK1
  refine rG ?_
  refine A4 ?_
  simp [go_sem]
  exact C3 fun x y=>UM_ (fun x y h=>zP1 x y h) x y
 simp at h
 have hin:i<l.length:=by omega
 have hiI:(i:Int)<(l.length:Nat):=by omega
 clear h
 have hw:=wI i
 obtain ⟨x,hx,hx'⟩:=E0 hin
 obtain ⟨hx0,hx1⟩:=hu i x hx
 have hi0:(0:Int)<=(i:Nat):=by omega
 apply A1
 apply hK2
 refine A3 fun K3 hK3=>?_
 apply A0
 refine rG ?_ fun K h=>by simp [go_sem,hin,hiI,hx,hx',hi0];exact h
 refine rG ?_
 apply A0
 refine A9 (α:=Nat × Nat) (fun b=>⟨29,[(2,.ptr 0 0 0),(3,.ptr 1 0 0),(7,.ro 1 (uVs l)),(8,iV (l.length:Nat)),(9,iV (i:Nat)),(4,iV (i:Nat)),(5,uV x),(14,iV (b.1:Nat))],[(1,.rows 16 [.agg (B5 (upC (JM_ l) i b.1))]),(0,.rows 16 [.agg (B5 fun _ _=>false)])],b.2⟩) (fun b=>b.1<=16/\1<b.2) (fun b=>16-b.1) (0,j) ?_ ?_ ?_
 .exact ⟨Nat.zero_le _,hj⟩
 .refine Weaker.fy 1 0 ?_ ?_<;>simp [go_sem]
 rintro ⟨b,jj⟩ ⟨hb,hjj⟩
 dsimp only at hb hjj ⊢
 refine rG ?_
 refine A3 fun K4 hK4=>?_
 refine cJ (fun h=>?_) fun h=>?_
 .simp at h
  obtain rfl:b=16:=by omega
  clear h
  apply A6
  apply hK3
  refine rF ?_ fun K h=>by simp [go_sem,hw];exact h
  refine ⟨(i+1,jj),?_,?_,?_⟩
  .exact ⟨by dsimp only;omega,by dsimp only;omega⟩
  .dsimp only;omega
  refine Weaker.fy 1 0 ?_ ?_
  .simp [go_sem]
  simp [go_sem,zVu (q:=JM_ l) (b:=i) (a:=16) (fun x h1 h2=>absurd h1 (by omega))]
 simp at h
 have hbn:b<16:=by omega
 clear h
 have hwb:=wI b
 have hbt:=zD2 hx0 hx1 (show b<64 by omega)
 have hb0:(0:Int)<=(b:Nat):=by omega
 apply A1
 apply hK4
 refine A3 fun K5 hK5=>?_
 apply A0
 refine rG ?_
 refine rG ?_ fun K h=>by simp [go_sem,hbt,hb0];exact h
 refine cJ (fun h=>?_) fun h=>?_
 .have hpo:JM_ l b i=false:=by rw [zR0 hx];cases hB:R7 x b with|true=>(rw [hB] at h;simp at h)|false=>rfl
  apply A1
  apply hK5
  refine rF ?_ fun K h=>by simp [go_sem,hwb];exact h
  refine ⟨(b+1,jj),?_,?_,?_⟩
  .exact ⟨by dsimp only;omega,by dsimp only;omega⟩
  .dsimp only;omega
  refine Weaker.fy 1 0 ?_ ?_
  .simp [go_sem]
  simp [go_sem,zd8 hpo]
 have hpo:JM_ l b i=true:=by rw [zR0 hx];cases hB:R7 x b with|false=>(rw [hB] at h;simp at h)|true=>rfl
 refine rE fun K hK=>?_
 simp [go_sem]
 refine A2 (c9 _ _ _) ?_
 simp [go_sem]
 apply hK
 apply hK5
 refine rF ?_ fun K h=>by simp [go_sem,hwb];exact h
 refine ⟨(b+1,jj),?_,?_,?_⟩
 .exact ⟨by dsimp only;omega,by dsimp only;omega⟩
 .dsimp only;omega
 refine Weaker.fy 1 0 ?_ ?_
 .simp [go_sem]
 simp [go_sem,zVt hpo]
theorem zP4 (c:Cs) (hc:CsOk c):Pf Tryz.prog 98 [.rp c.cs 0] (.agg (B5 (zLp c))):=by
 refine Pf.of_fn (.cons (Z9_ c) .nil) (.agg (D9 _)) ?_
 have hn8:=hc.n8
 have hpl:=hc.fl.l3
 have hsl:=hc.fl.l1
 refine B7 T_ok func98 rfl rfl ntmps98 rfl (by simp) ?_
 refine rG ?_
 refine rG ?_
 refine A3 fun K1 hK1=>?_
 refine rG ?_ fun K h=>by simp [go_sem,Cs.cs,Os'.cs];exact h
 apply A0
 refine A9 (α:=Nat × Nat) (fun a=>⟨41,[(0,.rp c.cs 0),(2,.ptr 0 0 0),(3,.ptr 1 0 0),(12,.ro 1 (iVs c.f.f.pair)),(13,iV (c.n:Nat)),(14,iV (a.1:Nat))],[(1,.rows 16 [.agg (B5 (upC (zLp c) a.1 0))]),(0,.rows 16 [.agg (B5 fun _ _=>false)])],a.2⟩) (fun a=>a.1<=c.n/\1<a.2) (fun a=>c.n-a.1) (0,2) ?_ ?_ ?_
 .exact ⟨Nat.zero_le _,by dsimp only;omega⟩
 .refine Weaker.fy 1 0 ?_ ?_
  .simp [go_sem,Cs.cs,Os'.cs,hpl]
  simp [go_sem,V5_]
 rintro ⟨i,j⟩ ⟨hi,hj⟩
 dsimp only at hi hj ⊢
 refine rG ?_
 refine A3 fun K2 hK2=>?_
 refine cJ (fun h=>?_) fun h=>?_
 .simp at h
  obtain rfl:i=c.n:=by omega
  apply A6
  apply hK1
  refine rG ?_
  refine A4 ?_
  simp [go_sem]
  exact C3 fun x y=>UM_ (fun x y h=>zP2 hc x y h) x y
 simp at h
 have hin:i<c.n:=by omega
 clear h
 have hw:=wI i
 have hpL:i<c.f.f.pair.length:=by omega
 have hpI:(i:Int)<(c.f.f.pair.length:Nat):=by omega
 obtain ⟨p,hp,hp'⟩:=E0 hpL
 have hpr:=hc.pr1 i p hp
 have hsL:i<c.f.f.state.length:=by omega
 have hsI:(i:Int)<(c.f.f.state.length:Nat):=by omega
 obtain ⟨s,hs,hs'⟩:=E0 hsL
 have hi0:(0:Int)<=(i:Nat):=by omega
 have hre:c.run i=decide (s=1):=by unfold Cs.run;rw [List.getD,hs];rfl
 apply A1
 apply hK2
 refine A3 fun K3 hK3=>?_
 apply A0
 refine rG ?_ fun K h=>by simp [go_sem,hpL,hpI,hp,hp',hi0];exact h
 refine rK fun K hK=>?_
 by_cases hp0:0<p
 .simp [go_sem,Cs.cs,Os'.cs,hp0,hsL,hsI,hs,hs',hi0]
  apply hK
  refine cJ (fun h=>?_) fun h=>?_
  .have hcol:=zJr (c:=c) (i:=i) (by rw [hre];simpa using h)
   apply A1
   apply hK3
   refine rF ?_ fun K h=>by simp [go_sem,hw];exact h
   refine ⟨(i+1,j),?_,?_,?_⟩
   .exact ⟨by dsimp only;omega,by dsimp only;omega⟩
   .dsimp only;omega
   refine Weaker.fy 1 0 ?_ ?_
   .simp [go_sem,Cs.cs,Os'.cs]
   simp [go_sem,Y5_ hcol]
  obtain ⟨m,hm⟩:∃ m:Nat,p=(m:Int)+1:=⟨(p-1).toNat,by omega⟩
  have hcol:=zWu hp hm (by rw [hre];simpa using h)
  have hwp:IntKind.i64.wrap (p-1)=(m:Nat):=by rw [E4 (by omega) (by omega)];omega
  refine rE fun K hK=>?_
  simp [go_sem,hwp]
  refine A2 (c9 _ _ _) ?_
  simp [go_sem]
  apply hK
  apply hK3
  refine rF ?_ fun K h=>by simp [go_sem,hw];exact h
  refine ⟨(i+1,j),?_,?_,?_⟩
  .exact ⟨by dsimp only;omega,by dsimp only;omega⟩
  .dsimp only;omega
  refine Weaker.fy 1 0 ?_ ?_
  .simp [go_sem,Cs.cs,Os'.cs]
  simp [go_sem,zIv hcol]
 simp [go_sem,Cs.cs,Os'.cs,hp0]
 apply hK
 refine cK (fun h=>?_) fun h=>?_
 .simp at h
 have hcol:=zdw hp hp0
 apply A1
 apply hK3
 refine rF ?_ fun K h=>by simp [go_sem,hw];exact h
 refine ⟨(i+1,j),?_,?_,?_⟩
 .exact ⟨by dsimp only;omega,by dsimp only;omega⟩
 .dsimp only;omega
 refine Weaker.fy 1 0 ?_ ?_
 .simp [go_sem,Cs.cs,Os'.cs]
 simp [go_sem,Y5_ hcol]
end Go.Proofs.YtmpbalepefpllaaGreat
