/- Texts put together, in order: W44, W45, W50, W51, W52, W53, Gouts, Goutc, Goutb, W20, W21, W22, W62, W63, W64, W65, W66, Goutd, Goute, Goutf, W41, W46, W47, W54, Gtsoa, Gtsob, Gtsoc, Gtsod, Gtsoe, Gtsof, Gtsog, Gtsoh, Gtsoi, Gtsoj, Gtsok, Gtsol, Gtsom, Gtson. -/
import Derived.Shelf.SlSortCmp.WholeK
import Derived.KernelRfl
import Derived.Test.YtmpbalepefpllaaGreatD5
open List
set_option maxRecDepth 100000
set_option maxHeartbeats 16000000
set_option linter.unusedVariables false
set_option linter.unusedSimpArgs false
namespace Go.Proofs.YtmpbalepefpllaaGreat
open Go Go.Sl
def slA (k:List Int) (i s:Nat):Nat × Int:=((gt k (i*26+10+s*2)).toNat,gt k (i*26+10+s*2+1))
def rgA (k:List Int) (i:Nat):Nat->Int:=fun r=>if r<8 then gt k (i*26+2+r) else 0
def bfA (k:List Int) (i w:Nat):List (Nat × Int):=(List.range w).map (slA k i)
def thA (k:List Int) (i:Nat):Thr:=⟨(gt k (i*26)).toNat,rgA k i,bfA k i (gt k (i*26+1)).toNat⟩
def T7 (k:List Int):Sys:=⟨fun j=>if j<4 then thA k j else zc3,fM k⟩
theorem V6 {k:List Int} {i:Nat} (hi:i<4):(T7 k).th i=thA k i:=if_pos hi
theorem Zu_ {k k':List Int} {j:Nat} (h:∀ r,r<8->gt k' (j*26+2+r)=gt k (j*26+2+r)):rgA k' j=rgA k j:=by
 funext r;unfold rgA;split
 .rename_i hr;exact h r hr
 rfl
theorem Zv_ {k k':List Int} {j w:Nat} (h:∀ s,s<w->gt k' (j*26+10+s*2)=gt k (j*26+10+s*2)/\gt k' (j*26+10+s*2+1)=gt k (j*26+10+s*2+1)):bfA k' j w=bfA k j w:=by
 apply map_congr_left
 intro s hs
 obtain ⟨a,b⟩:=h s (List.mem_range.1 hs)
 unfold slA;rw [a,b]
theorem JD_ {k k':List Int} {j:Nat} (hw:gt k (j*26+1)<=8) (h:∀ c,c<26->gt k' (j*26+c)=gt k (j*26+c)):thA k' j=thA k j:=by
 have h0:=h 0 (by omega)
 have h1:=h 1 (by omega)
 rw [Nat.add_zero] at h0
 unfold thA
 rw [h0,h1,Zu_ (k:=k) (k':=k') fun r hr=>by have:=h (2+r) (by omega);rw [<-Nat.add_assoc] at this;exact this]
 rw [Zv_ (k:=k) (k':=k') fun s hs=>by
  have a:=h (10+s*2) (by omega)
  have b:=h (10+s*2+1) (by omega)
  rw [<-Nat.add_assoc] at a;rw [<-Nat.add_assoc,<-Nat.add_assoc] at b
  exact ⟨a,b⟩]
theorem Ue_ {k k' : List Int} {i : Nat} (hi : i < 4) (hw : ∀ j, j < 4 → gt k (j * 26 + 1) ≤ 8) (h : ∀ j, j < 4 → j ≠ i → ∀ c, c < 26 → gt k' (j * 26 + c) = gt k (j * 26 + c)) :
    T7 k'=⟨upd (T7 k).th i (thA k' i),fM k'⟩:=by
  unfold T7
  congr 1
  funext j
  by_cases e:j=i
  . subst e;rw [B4,if_pos hi]
  rw [E2 e]
  show (if j<4 then thA k' j else zc3)=(if j<4 then thA k j else zc3)
  split
  . rename_i hj;exact JD_ (hw j hj) (h j hj e)
  rfl
section
variable {k:List Int} {i:Nat}
theorem zT6 (hl:i*26<k.length) (n:Int):thA (k.set (i*26) n) i={ thA k i with pc:=n.toNat }:=by
 unfold thA
 rw [L6 hl,D1 (by omega),Zu_ (k:=k) (k':=k.set (i*26) n) fun r _=>D1 (by omega),Zv_ (k:=k) (k':=k.set (i*26) n) fun s _=>⟨D1 (by omega),D1 (by omega)⟩]
theorem zE4 (hl:k.length=112) (hi:i<4) {d:Nat} (hd:d<8) (n:Int):thA (k.set (i*26+2+d) n) i={ thA k i with rg:=upd (thA k i).rg d n }:=by
 unfold thA
 rw [D1 (by omega),D1 (by omega),Zv_ (k:=k) (k':=k.set (i*26+2+d) n) fun s _=>⟨D1 (by omega),D1 (by omega)⟩]
 congr 1
 show rgA (k.set (i*26+2+d) n) i=upd (rgA k i) d n
 funext r
 show (if r<8 then gt (k.set (i*26+2+d) n) (i*26+2+r) else 0)=_
 by_cases e:r=d
 .subst e;rw [B4,if_pos hd,L6 (by omega)]
 rw [E2 e]
 show _=(if r<8 then gt k (i*26+2+r) else 0)
 split
 .exact D1 (by omega)
 rfl
theorem zYn {q:Nat} (hi:i<4) (hq:104<=q) (hw:gt k (i*26+1)<=8) (n:Int):thA (k.set q n) i=thA k i:=JD_ hw fun c hc=>D1 (by omega)
theorem Ve_ {q:Nat} (hq:q<104) (n:Int):fM (k.set q n)=fM k:=by funext x;unfold fM;exact D1 (by omega)
theorem zT7 (hl:k.length=112) {x:Nat} (hx:x<8) (n:Int):fM (k.set (104+x) n)=upd (fM k) x n:=by
 funext y;unfold fM
 by_cases e:y=x
 .subst e;rw [B4,L6 (by omega)]
 rw [E2 e,D1 (by omega)]
end
theorem WM_ {k:List Int} {i:Nat} {r:Bool} {n:Int} (h:r=true->0<=n/\n<8):Yz_ (thA k i) r n=UT_ k i r n:=by
 unfold Yz_ UT_
 cases r
 .rfl
 have:=h rfl
 show rgA k i n.toNat=_
 unfold rgA;rw [if_pos (by omega)];rfl
theorem zgk {k:List Int} {i len p:Nat} {x:Ins} (h:TOk len p x):brA (thA k i) x=brT k i x:=by
 unfold brA brT;rw [WM_ h.a,WM_ h.b]
theorem zE5 (k:List Int) (i:Nat):(thA k i).bf.isEmpty=!decide (0<gt k (i*26+1)):=by
 show ((List.range (gt k (i*26+1)).toNat).map (slA k i)).isEmpty=_
 rw [Bool.eq_iff_iff]
 simp only [isEmpty_iff,map_eq_nil_iff,range_eq_nil,Bool.not_eq_true',decide_eq_false_iff_not]
 omega
theorem JE_ {k:List Int} {i:Nat}:(thA k i).bf=[]↔gt k (i*26+1)<=0:=by
 rw [<-isEmpty_iff,zE5];simp
theorem zE6 (k:List Int) (i:Nat) (x:Ins):ZK_ x (thA k i)=Zp_ x i k:=by
 unfold ZK_ Zp_;rw [zE5,Bool.not_not]
theorem ZL_ {k:List Int} {i:Nat} (hl:i*26<k.length) {p:Nat} (hp:gt k (i*26)=(p:Nat)):thA (W6 k i) i={ thA k i with pc:=p+1 }:=by
 unfold W6
 rw [zT6 hl,hp]
 rfl
theorem k6 {k:List Int} {i p:Nat} (hp:gt k (i*26)=(p:Nat)):(thA k i).pc=p:=by show (gt k (i*26)).toNat=p;rw [hp];rfl
theorem zYo {k:List Int} {i:Nat} (hk:k.length=112) (hi:i<4) {len p:Nat} {x:Ins} (hp:gt k (i*26)=(p:Nat)) (h:TOk len p x):thA (W6 (Y3 x i k) i) i=m5 x (thA k i):=by
 have h0:=h.rd0
 have h8:=h.rd8
 have hs0:=h.skip0
 have hpc:=k6 hp
 unfold m5 Y3
 rw [zgk h,WM_ h.a,WM_ h.b,hpc]
 by_cases h1:x.op=1
 .rw [if_pos h1,if_pos h1,ZL_ (by rw [length_set];omega) (p:=p) (by rw [D1 (by omega),hp]),zE4 hk hi (by omega)]
 rw [if_neg h1,if_neg h1]
 by_cases h2:x.op<9
 .rw [if_pos h2,if_pos h2,ZL_ (by rw [length_set];omega) (p:=p) (by rw [D1 (by omega),hp]),zE4 hk hi (by omega)]
 rw [if_neg h2,if_neg h2]
 by_cases h3:brT k i x=true
 .rw [if_pos h3,if_pos h3,ZL_ (by rw [length_set];omega) (p:=p+x.skip.toNat) (by rw [L6 (by omega),hp];omega),zT6 (by omega)]
 rw [if_neg h3,if_neg h3,ZL_ (by omega) hp]
theorem Vf_ {k:List Int} {i:Nat} (hlo:∀ s,s<8->0<=gt k (i*26+10+s*2)) {loc:Int} (h0:0<=loc):∀ n,n<=8->Yy_ (bfA k i n) (fM k) loc.toNat=zB3 k i loc n
 | 0,_=>rfl
 | n+1,hn=>by
  have ih:=Vf_ hlo h0 n (by omega)
  have hs:=hlo n (by omega)
  unfold bfA at ih ⊢
  rw [range_succ,map_append,map_cons,map_nil,Vd_,zB3]
  by_cases e:gt k (i*26+10+n*2)=loc
  .have:loc.toNat=(slA k i n).1:=by unfold slA;rw [e]
   rw [if_pos e,this,B4];rfl
  rw [if_neg e,E2 (by unfold slA;dsimp only;omega),ih]
theorem zQc (k:List Int) (i w:Nat):bfA k i (w+1)=bfA k i w++[slA k i w]:=by unfold bfA;rw [range_succ,map_append];rfl
theorem zgl {k : List Int} {i : Nat} (hk : k.length = 112) (hi : i < 4) {len p w : Nat} {x : Ins} (hp : gt k (i * 26) = (p : Nat)) (hw : gt k (i * 26 + 1) = (w : Nat)) (hw8 : w < 8) (hlo : ∀ s, s < 8 → 0 ≤ gt k (i * 26 + 10 + s * 2)) (h : TOk len p x) (hm : G4 x.op = true) :
    opA x (thA k i) (fM k)=(ZN_ x i k).map fun q=>(thA (W6 q i) i,fM (W6 q i)):=by
  have h0:=h.rd0
  have h8:=h.rd8
  obtain ⟨l0,l8⟩:=h.loc hm
  have hpc:=k6 hp
  have hwn:(gt k (i*26+1)).toNat=w:=by rw [hw];rfl
  have hinc:∀ q:List Int,fM (W6 q i)=fM q:=fun q=>Ve_ (by omega) _
  have hbf:(thA k i).bf=bfA k i w:=by show bfA k i _=_;rw [hwn]
  unfold opA ZN_
  rw [WM_ h.a,hpc]
  by_cases h1:x.op=9
  . rw [if_pos h1,if_pos h1,hwn,hbf,Vf_ hlo l0 w (by omega)]
    simp only [Option.map_some]
    rw [hinc,ZL_ (by rw [length_set];omega) (p:=p) (by rw [D1 (by omega),hp]),zE4 hk hi (by omega),Ve_ (by omega)]
    exact congrArg (fun b=>some (({ pc:=p+1,rg:=upd (thA k i).rg x.rd.toNat (zB3 k i x.loc w),bf:=b }:Thr),fM k)) hbf.symm
  rw [if_neg h1,if_neg h1]
  by_cases h2:x.op=10
  . rw [if_pos h2,if_pos h2,hwn,hw]
    simp only [Option.map_some]
    rw [hinc,Ve_ (by omega),Ve_ (by omega),Ve_ (by omega),ZL_ (by simp;omega) (p:=p) (by rw [D1 (by omega),D1 (by omega),D1 (by omega),hp])]
    congr 2
    unfold thA
    rw [L6 (by simp;omega),show ((w:Int)+1).toNat=w+1 by omega,hwn]
    congr 1
    . exact (Zu_ fun r hr=>by rw [D1 (by omega),D1 (by omega),D1 (by omega)]).symm
    rw [zQc]
    congr 1
    . exact (Zv_ fun s hs=>⟨by rw [D1 (by omega),D1 (by omega),D1 (by omega)],by rw [D1 (by omega),D1 (by omega),D1 (by omega)]⟩).symm
    unfold slA
    rw [D1 (by omega),D1 (by omega),L6 (by omega),D1 (by omega),L6 (by simp;omega)]
  rw [if_neg h2,if_neg h2]
  by_cases h3:x.op=11\/x.op=12
  . rw [if_pos h3,if_pos h3]
    by_cases h4:0<gt k (i*26+1)
    . rw [if_pos h4,if_neg (fun e=>by have:=JE_.1 e;omega)];rfl
    rw [if_neg h4,if_pos (JE_.2 (by omega))]
    simp only [Option.map_some]
    rw [hinc,Ve_ (by omega),zT7 hk (by omega),ZL_ (by simp;omega) (p:=p) (by rw [D1 (by omega),D1 (by omega),hp]),zE4 (by rw [length_set,hk]) hi (by omega),zYn hi (by omega) (by omega)]
    rfl
  rw [if_neg h3,if_neg h3];rfl
theorem zgm {k : List Int} {i : Nat} (hk : k.length = 112) (hi : i < 4) {w : Nat} (hw : gt k (i * 26 + 1) = ((w + 1 : Nat) : Int)) (hw8 : w < 8) (hlo : ∀ s, s < 8 → 0 ≤ gt k (i * 26 + 10 + s * 2) ∧ gt k (i * 26 + 10 + s * 2) < 8) :
    ∃ p r,(thA k i).bf=p::r/\thA (I4 k i w) i={ thA k i with bf:=r }/\fM (I4 k i w)=upd (fM k) p.1 p.2:=by
  refine ⟨slA k i 0,(List.range w).map fun s=>slA k i (s+1),?_,?_,?_⟩
  . show bfA k i (gt k (i*26+1)).toNat=_
    rw [hw,Int.toNat_natCast]
    unfold bfA
    rw [range_succ_eq_map,map_cons,map_map]
    rfl
  . have h1:(I8 k i).length=112:=by unfold I8;rw [length_set,hk]
    have hl2:(Z8 (I8 k i) i).length=112:=v7 h1 hi
    have hd:∀ q,q<104->gt (I8 k i) q=gt k q:=fun q hq=>by unfold I8;exact D1 (by omega)
    have hg:∀ q,q<104->q≠i*26+1->q≠i*26+10+w*2->q≠i*26+10+w*2+1->gt (I4 k i w) q=if i*26+10<=q/\q<i*26+24 then gt k (q+2) else gt k q:=fun q h1' h2 h3 h4=>by
      unfold I4 U9
      rw [D1 (by omega),D1 (by omega),D1 (by omega),v8 h1 hi]
      split
      . exact hd _ (by omega)
      exact hd _ (by omega)
    obtain ⟨_,a2,a3,_⟩:=V3 (w:=w) hk hi hw8 hlo
    unfold thA
    rw [a2,a3,Int.toNat_natCast]
    congr 1
    . exact Zu_ fun r hr=>by rw [hg _ (by omega) (by omega) (by omega) (by omega),if_neg (by omega)]
    apply map_congr_left
    intro s hs
    have hs':=List.mem_range.1 hs
    unfold slA
    rw [hg _ (by omega) (by omega) (by omega) (by omega),hg _ (by omega) (by omega) (by omega) (by omega),if_pos (by omega),if_pos (by omega)]
    rw [show i*26+10+s*2+2=i*26+10+(s+1)*2 by omega,show i*26+10+s*2+1+2=i*26+10+(s+1)*2+1 by omega]
  have h1:(I8 k i).length=112:=by unfold I8;rw [length_set,hk]
  have h0:=hlo 0 (by omega)
  rw [Nat.zero_mul,Nat.add_zero] at h0
  have e:fM (I4 k i w)=fM (I8 k i):=by
    funext x;unfold fM I4 U9
    rw [D1 (by omega),D1 (by omega),D1 (by omega),v8 h1 hi,if_neg (by omega)]
  rw [e]
  unfold I8
  rw [zT7 hk (by omega)]
  rfl
theorem YJ_ {t:Tst} (ht:TTOk t) (i:Nat):(lth t i).length<=8:=by
 by_cases h:i<t.ths.length
 .exact (ht.thr i _ (V5 h)).1
 unfold lth;rw [List.getD,List.getElem?_eq_none (by omega)];simp
theorem zYp {t:Tst} (ht:TTOk t) {k:List Int} (hM:MOk t k):∀ j,j<4->gt k (j*26+1)<=8:=fun j hj=>by
 obtain ⟨p,w,h1,h2,h3,h4⟩:=hM.th j hj
 have:=YJ_ ht j
 omega
def ClosedA (t:Tst) (i:Nat) (a:Sys):Prop:=∀ x,(lth t i)[(a.th i).pc]?=some x->ZK_ x (a.th i)=true
theorem ClosedA.of {t:Tst} {i:Nat} {a b:Sys} (h:b.th i=a.th i) (hc:ClosedA t i a):ClosedA t i b:=by unfold ClosedA;rw [h];exact hc
theorem LRun.other {t:Tst} {i:Nat} {a b:Sys} (h:LRun t i a b):(∀ j,j≠i->b.th j=a.th j)/\b.mm=a.mm:=by
 induction h with
 | nil=>exact ⟨fun _ _=>rfl,rfl⟩
 | cons s _ ih =>
  cases s with
  | mk hi hx hs=>exact ⟨fun j hj=>(ih.1 j hj).trans (E2 hj),ih.2⟩
theorem X3 {t : Tst} (ht : TTOk t) {i : Nat} (hi : i < t.ths.length) : ∀ (n : Nat) {k : List Int} {p : Nat}, MOk t k → gt k (i * 26) = (p : Nat) → p ≤ (lth t i).length →
    LRun t i (T7 k) (T7 (locT (lth t i) i n k))/\((lth t i).length<p+n->ClosedA t i (T7 (locT (lth t i) i n k)))
  | 0,k,p,_,_,hp=>⟨.nil _,fun h=>absurd h (by omega)⟩
  | n+1,k,p,hM,hp,hpl=>by
    have hi4:i<4:=by have:=ht.ths;omega
    have hth:(T7 k).th i=thA k i:=V6 hi4
    have hl:=ht.thr i _ (V5 hi)
    have hML:=MOk.locT hM hi4 (V5 hi) hl 1
    unfold Go.Proofs.YtmpbalepefpllaaGreat.locT at hML ⊢
    rw [hp,Int.toNat_natCast] at hML ⊢
    cases hx:(lth t i)[p]? with
    | none =>
      refine ⟨.nil _,fun _ x h=>?_⟩
      rw [hth,k6 hp,hx] at h;cases h
    | some x =>
      rw [hx] at hML
      dsimp only at hML ⊢
      have hok:=hl.2 p x hx
      by_cases hs:Zp_ x i k=true
      . rw [if_pos hs]
        refine ⟨.nil _,fun _ y h=>?_⟩
        rw [hth,k6 hp,hx] at h;cases h
        rw [hth,zE6,hs]
      rw [if_neg hs] at hML ⊢
      have hML':MOk t (W6 (Y3 x i k) i):=hML
      obtain ⟨p',e1,e2,e3,e4⟩:=zAy hM.len hi4 hp hok
      obtain ⟨h1,h2⟩:=X3 ht hi n hML' e4 e3
      have hst:LStep t i (T7 k) (T7 (W6 (Y3 x i k) i)):=by
        have h:=LStep.mk (t:=t) (i:=i) (a:=T7 k) (x:=x) hi (by rw [hth,k6 hp];exact hx) (by rw [hth,zE6];simpa using hs)
        rw [hth,<-zYo hM.len hi4 hp hok] at h
        have e:T7 (W6 (Y3 x i k) i)=⟨upd (T7 k).th i (thA (W6 (Y3 x i k) i) i),(T7 k).mm⟩:=by
          rw [Ue_ hi4 (zYp ht hM) fun j hj hji c hc=>by rw [I9 (by omega),YE_ hok.rd0 hok.rd8 (XG_ hji hc)]]
          congr 1
          funext y;unfold fM
          rw [I9 (by omega),YE_ hok.rd0 hok.rd8 (by unfold zGw;omega)];rfl
        rw [e];exact h
      exact ⟨.cons hst h1,fun h=>h2 (by omega)⟩
theorem zKk {t : Tst} (ht : TTOk t) {k q1 : List Int} (h : MOk t k) {i : Nat} (hi : i < t.ths.length) {p : Nat} (hp : gt k (i * 26) = (p : Nat)) {x : Ins} (hg : (lth t i)[p]? = some x) (ho : ZN_ x i k = some q1) :
    MOk t (W6 q1 i)/\gt (W6 q1 i) (i*26)=((p+1:Nat):Int)/\p+1<=(lth t i).length/\T7 (W6 q1 i)=⟨upd (T7 k).th i (thA (W6 q1 i) i),fM (W6 q1 i)⟩:=by
  have hi4:i<4:=by have:=ht.ths;omega
  have hl:=ht.thr i _ (V5 hi)
  obtain ⟨p0,w,h1,h2,h3,h4⟩:=h.th i hi4
  have hpp:p0=p:=by omega
  subst hpp
  have hok:=hl.2 p0 x hg
  have hpl:=(List.getElem?_eq_some_iff.1 hg).1
  have hm:=XH_ ho
  have hlo:=hok.loc hm
  have hl8:=hl.1
  obtain ⟨a1,⟨w',a2,a3⟩,a4⟩:=Q8_ h.len hi4 hok.rd0 hok.rd8 hlo h2 (by omega) ho
  have hq1:q1.length=112:=(Ub_ ho).trans h.len
  have hp1:gt q1 (i*26)=(p0:Nat):=(zB4 hi4 hok.rd0 (fun hh=>(hok.loc hh).2) ho).trans h1
  have hip:gt (W6 q1 i) (i*26)=((p0+1:Nat):Int):=by unfold W6;rw [L6 (by omega),hp1];rfl
  have h2k:(W6 q1 i).length=112:=(w3 q1 i).trans hq1
  have ho:∀ j,j<4->j≠i->∀ c,c<26->gt (W6 q1 i) (j*26+c)=gt k (j*26+c):=fun j hj hji c hc=>by
    rw [I9 (by omega)];exact a1 j hj hji c hc
  refine ⟨?_,hip,by omega,Ue_ hi4 (zYp ht h) ho⟩
  refine h.of i h2k ho ⟨p0+1,w',hip,?_,by omega,by omega⟩ fun s hs=>?_
  . rw [I9 (by omega)];exact a2
  rw [I9 (by omega)]
  rcases a4 s hs with e|e
  . rw [e];exact h.loc i hi4 s hs
  rw [e];exact hlo
theorem XI_ {t : Tst} (ht : TTOk t) {k : List Int} (h : MOk t k) {i : Nat} (hi : i < t.ths.length) {p : Nat} (hp : gt k (i * 26) = (p : Nat)) {x : Ins} (hg : (lth t i)[p]? = some x) (hm : G4 x.op = true) :
    opA x ((T7 k).th i) (T7 k).mm=(ZN_ x i k).map fun q=>(thA (W6 q i) i,fM (W6 q i)):=by
  have hi4:i<4:=by have:=ht.ths;omega
  have hl:=ht.thr i _ (V5 hi)
  have hl8:=hl.1
  obtain ⟨p0,w,h1,h2,h3,h4⟩:=h.th i hi4
  have hpl:=(List.getElem?_eq_some_iff.1 hg).1
  rw [V6 hi4]
  exact zgl h.len hi4 hp h2 (by omega) (fun s hs=>(h.loc i hi4 s hs).1) (hl.2 p x hg) hm
theorem zB8 {t : Tst} (ht : TTOk t) {k : List Int} (h : MOk t k) {i : Nat} (hi : i < t.ths.length) (hw : 0 < gt k (i * 26 + 1)) :
    ∃ p r,((T7 k).th i).bf=p::r/\T7 (I4 k i ((gt k (i*26+1)).toNat-1))=⟨upd (T7 k).th i { (T7 k).th i with bf:=r },upd (T7 k).mm p.1 p.2⟩:=by
  have hi4:i<4:=by have:=ht.ths;omega
  obtain ⟨p0,w,h1,h2,h3,h4⟩:=h.th i hi4
  have:=YJ_ ht i
  obtain ⟨w,rfl⟩:∃ w',w=w'+1:=⟨w-1,by omega⟩
  rw [h2,Int.toNat_natCast,Nat.add_sub_cancel,V6 hi4]
  obtain ⟨p,r,e1,e2,e3⟩:=zgm h.len hi4 h2 (by omega) (h.loc i hi4)
  refine ⟨p,r,e1,?_⟩
  rw [Ue_ hi4 (zYp ht h) (V3 (w:=w) h.len hi4 (by omega) (h.loc i hi4)).1,e2,e3];rfl
theorem StepT.run {t:Tst} (ht:TTOk t) {k q:List Int} (hM:MOk t k) (h:StepT t k q):∃ n,ARun t n (T7 k) (T7 q):=by
 rcases h with ⟨i,hi,hq⟩|⟨i,hi,hw,rfl⟩
 .have hi4:i<4:=by have:=ht.ths;omega
  obtain ⟨p,w,h1,h2,h3,h4⟩:=hM.th i hi4
  unfold H9 at hq
  rw [h1,Int.toNat_natCast] at hq
  cases hg:(lth t i)[p]? with
  | none=>rw [hg] at hq;cases hq
  | some x =>
   rw [hg] at hq
   dsimp only at hq
   cases ho:ZN_ x i k with
   | none=>rw [ho] at hq;cases hq
   | some q1 =>
    rw [ho] at hq
    cases hq
    have hm:=XH_ ho
    obtain ⟨b1,b2,b3,b4⟩:=zKk ht hM hi h1 hg ho
    have hop:=XI_ ht hM hi h1 hg hm
    rw [ho] at hop
    obtain ⟨n,hn⟩:=(X3 ht hi ((lth t i).length+1) b1 b2 b3).1.run
    refine ⟨n+1,.cons (b:=T7 (W6 q1 i)) ?_ hn⟩
    rw [b4]
    exact .ins hi (x:=x) (by rw [V6 hi4,k6 h1];exact hg) (by unfold zH0;rw [if_pos hm];exact hop)
 have hi4:i<4:=by have:=ht.ths;omega
 obtain ⟨p,r,e1,e2⟩:=zB8 ht hM hi hw
 have hD:=Zr_ hM hi4 hw (YJ_ ht i)
 obtain ⟨p1,w1,d1,d2,d3,d4⟩:=hD.th i hi4
 obtain ⟨n,hn⟩:=(X3 ht hi ((lth t i).length+1) hD d1 d4).1.run
 refine ⟨n+1,.cons (b:=T7 (I4 k i ((gt k (i*26+1)).toNat-1))) ?_ hn⟩
 rw [e2]
 exact .dr hi e1
theorem ReachT.run {t:Tst} (ht:TTOk t) {k q:List Int} (h:ReachT t k q) (hM:MOk t k):∃ n,ARun t n (T7 k) (T7 q):=by
 induction h with
 | refl=>exact ⟨0,.nil _⟩
 | step h1 _ ih =>
  obtain ⟨n,hn⟩:=h1.run ht hM
  obtain ⟨m,hm⟩:=ih (h1.ok ht hM).1
  exact ⟨_,hn.append hm⟩
theorem JF_ {t:Tst} {k:List Int}:∀ n,WI_ t k n=true↔∀ i,i<n->H9 (lth t i) i k=none/\gt k (i*26+1)<=0
 | 0=>⟨fun _ i hi=>absurd hi (Nat.not_lt_zero _),fun _=>rfl⟩
 | n+1=>by
  rw [YH_,Bool.and_eq_true,JF_ n]
  constructor
  .rintro ⟨h1,h2⟩ i hi
   by_cases e:i=n
   .subst e;simpa using h2
   exact h1 i (by omega)
  intro h
  refine ⟨fun i hi=>h i (by omega),?_⟩
  have:=h n (by omega)
  simpa using this
theorem Vg_ {t:Tst} (ht:TTOk t) {k:List Int} (hM:MOk t k) (hc:∀ i,i<t.ths.length->ClosedA t i (T7 k)):Yx_ t k↔WL_ t (T7 k):=by
 rw [Yx_,JF_]
 constructor
 .intro h i hi
  have hi4:i<4:=by have:=ht.ths;omega
  obtain ⟨h1,h2⟩:=h i hi
  have hb:((T7 k).th i).bf=[]:=by rw [V6 hi4];exact JE_.2 h2
  refine ⟨hb,fun x hx=>?_⟩
  obtain ⟨p,w,e1,e2,e3,e4⟩:=hM.th i hi4
  have hs:=hc i hi x hx
  have hm:G4 x.op=true:=by unfold ZK_ at hs;rw [hb] at hs;simpa using hs
  rw [V6 hi4,k6 e1] at hx
  unfold zH0
  rw [if_pos hm,XI_ ht hM hi e1 hx hm]
  unfold H9 at h1
  rw [e1,Int.toNat_natCast,hx] at h1
  dsimp only at h1
  rw [Option.map_eq_none_iff] at h1 ⊢
  exact h1
 intro h i hi
 have hi4:i<4:=by have:=ht.ths;omega
 obtain ⟨h1,h2⟩:=h i hi
 rw [V6 hi4] at h1
 refine ⟨?_,JE_.1 h1⟩
 obtain ⟨p,w,e1,e2,e3,e4⟩:=hM.th i hi4
 unfold H9
 rw [e1,Int.toNat_natCast]
 cases hg:(lth t i)[p]? with
 | none=>rfl
 | some x =>
  dsimp only
  have hx:=h2 x (by rw [V6 hi4,k6 e1];exact hg)
  cases ho:ZN_ x i k with
  | none=>rfl
  | some q1 =>
   have hm:=XH_ ho
   have hop:=XI_ ht hM hi e1 hg hm
   unfold zH0 at hx
   rw [if_pos hm,hop,ho] at hx
   cases hx
theorem znf {t : Tst} (ht : TTOk t) (n : Nat) : ∀ (k : List Int) (b : Sys), MOk t k → (∀ i, i < t.ths.length → ClosedA t i (T7 k)) → ARun t n (T7 k) b → WL_ t b →
    ∃ q,ReachT t k q/\Yx_ t q/\T7 q=b:=by
  induction n using Nat.strongRecOn with
  | _ n ih =>
    intro k b hM hc hr hf
    cases hr with
    | nil=>exact ⟨k,.refl k,(Vg_ ht hM hc).2 hf,rfl⟩
    | @cons n _ c _ s hr =>
      cases s with
      | @ins i x h' m' hi hx ho =>
        have hi4:i<4:=by have:=ht.ths;omega
        obtain ⟨p,w,e1,e2,e3,e4⟩:=hM.th i hi4
        have hs:=hc i hi x hx
        have hm:G4 x.op=true:=by
          cases hm:G4 x.op
          . unfold zH0 at ho;rw [if_neg (by rw [hm];simp),if_pos hs] at ho;cases ho
          rfl
        rw [V6 hi4,k6 e1] at hx
        unfold zH0 at ho
        rw [if_pos hm,XI_ ht hM hi e1 hx hm] at ho
        cases hmo:ZN_ x i k with
        | none=>rw [hmo] at ho;cases ho
        | some q1 =>
          rw [hmo] at ho
          cases ho
          obtain ⟨b1,b2,b3,b4⟩:=zKk ht hM hi e1 hx hmo
          rw [<-b4] at hr
          obtain ⟨l1,l2⟩:=X3 ht hi ((lth t i).length+1) b1 b2 b3
          have l3:=MOk.locT b1 hi4 (V5 hi) (ht.thr i _ (V5 hi)) ((lth t i).length+1)
          obtain ⟨m,hm1,hm2⟩:=s0 l1 hr hf
          have hcl:∀ j,j<t.ths.length->ClosedA t j (T7 (locT (lth t i) i ((lth t i).length+1) (W6 q1 i))):=fun j hj=>by
            by_cases e:j=i
            . subst e;exact l2 (by omega)
            exact (hc j hj).of ((l1.other.1 j e).trans (by rw [b4];exact E2 e))
          obtain ⟨q,r1,r2,r3⟩:=ih m (by omega) _ _ l3 hcl hm2 hf
          exact ⟨q,.step (.inl ⟨i,hi,by unfold H9;rw [e1,Int.toNat_natCast,hx];dsimp only;rw [hmo];rfl⟩) r1,r2,r3⟩
      | @dr i p r hi hb =>
        have hi4:i<4:=by have:=ht.ths;omega
        have hw:0<gt k (i*26+1):=by
          rcases Int.lt_or_le 0 (gt k (i*26+1)) with h|h
          . exact h
          rw [V6 hi4,JE_.2 h] at hb;cases hb
        obtain ⟨p',r',f1,f2⟩:=zB8 ht hM hi hw
        rw [hb] at f1
        cases f1
        have hD:=Zr_ hM hi4 hw (YJ_ ht i)
        obtain ⟨p1,w1,d1,d2,d3,d4⟩:=hD.th i hi4
        rw [<-f2] at hr
        obtain ⟨l1,l2⟩:=X3 ht hi ((lth t i).length+1) hD d1 d4
        have l3:=MOk.locT hD hi4 (V5 hi) (ht.thr i _ (V5 hi)) ((lth t i).length+1)
        obtain ⟨m,hm1,hm2⟩:=s0 l1 hr hf
        have hcl:∀ j,j<t.ths.length->ClosedA t j (T7 (locT (lth t i) i ((lth t i).length+1) (I4 k i ((gt k (i*26+1)).toNat-1)))):=fun j hj=>by
          by_cases e:j=i
          . subst e;exact l2 (by omega)
          exact (hc j hj).of ((l1.other.1 j e).trans (by rw [f2];exact E2 e))
        obtain ⟨q,r1,r2,r3⟩:=ih m (by omega) _ _ l3 hcl hm2 hf
        exact ⟨q,.step (.inr ⟨i,hi,hw,rfl⟩) r1,r2,r3⟩
theorem JG_ {t:Tst} (ht:TTOk t):∀ i,i<=t.ths.length->(∃ n,ARun t n (T7 (N5 t 0)) (T7 (N5 t i)))/\(∀ n b,ARun t n (T7 (N5 t 0)) b->WL_ t b->∃ m,ARun t m (T7 (N5 t i)) b)/\∀ j,j<i->ClosedA t j (T7 (N5 t i))
 | 0,_=>⟨⟨0,.nil _⟩,fun n b h _=>⟨n,h⟩,fun j h=>absurd h (Nat.not_lt_zero _)⟩
 | i+1,hi=>by
  obtain ⟨⟨n,hn⟩,h2,h3⟩:=JG_ ht i (by omega)
  obtain ⟨hM,_,_⟩:=r8 ht i (by omega)
  have hi4:i<4:=by have:=ht.ths;omega
  obtain ⟨p,w,e1,e2,e3,e4⟩:=hM.th i hi4
  obtain ⟨l1,l2⟩:=X3 ht (i:=i) (by omega) ((lth t i).length+1) hM e1 e4
  obtain ⟨m,hm⟩:=l1.run
  refine ⟨⟨_,hn.append hm⟩,fun n b h hf=>?_,fun j hj=>?_⟩
  .obtain ⟨m',hm'⟩:=h2 n b h hf
   obtain ⟨m2,_,hm2⟩:=s0 l1 hm' hf
   exact ⟨m2,hm2⟩
  rw [N5]
  by_cases e:j=i
  .subst e;exact l2 (by omega)
  exact (h3 j (by omega)).of (l1.other.1 j e)
def W4_ (t:Tst):Sys:=⟨fun _=>zc3,fun x=>if x<t.locs.length then (t.locs.getD x ⟨.empty,0⟩).v else 0⟩
theorem zE7 {t:Tst} (h8:t.locs.length<=8):∀ (n x:Nat),n<=t.locs.length->gt (Zs_ t n) (104+x)=if x<n then (t.locs.getD x ⟨.empty,0⟩).v else 0
 | 0,x,_=>by
  unfold Zs_ zYi gt
  rw [List.getD,List.getElem?_replicate]
  split<;>simp
 | n+1,x,h=>by
  rw [Zs_]
  by_cases e:x=n
  .subst e;rw [L6 (by rw [r7];omega),if_pos (by omega)]
  rw [D1 (by omega),zE7 h8 n x (by omega)]
  by_cases h2:x<n
  .rw [if_pos h2,if_pos (by omega)]
  rw [if_neg h2,if_neg (by omega)]
theorem zQd {t:Tst} (h8:t.locs.length<=8):T7 (N5 t 0)=W4_ t:=by
 unfold T7 W4_ N5
 congr 1
 .funext j
  split
  .unfold thA zc3
   rw [P5 _ _ _ (by omega),P5 _ _ _ (by omega)]
   congr 1
   funext r;unfold rgA;split
   .exact P5 _ _ _ (by omega)
   rfl
  rfl
 funext x;exact zE7 h8 _ x (Nat.le_refl _)
theorem zKl:∀ (n:Nat) (l:List (List Ins)),∀ p∈slT n l,∃ i r:Nat,p=((i:Int),(r:Int))/\r<8/\n<=i/\i<n+l.length
 | _,[],p,h=>by cases h
 | n,x::l,p,h=>by
  rw [slT] at h
  rcases List.mem_append.1 h with h|h
  .obtain ⟨r,hr,rfl⟩:=List.mem_map.1 h
   have:=List.mem_range.1 (List.mem_filter.1 hr).1
   exact ⟨n,r,rfl,this,Nat.le_refl _,by simp⟩
  obtain ⟨i,r,e,h1,h2,h3⟩:=zKl (n+1) l p h
  exact ⟨i,r,e,h1,by omega,by simp;omega⟩
theorem zG4 {t:Tst} {p:Slo} (h:p∈Q1 t):(∃ i r:Nat,p=((i:Int),(r:Int))/\r<8/\i<t.ths.length)\/∃ x:Nat,p=(-1,(x:Int))/\x<t.locs.length:=by
 unfold Q1 at h
 rcases List.mem_append.1 h with h|h
 .obtain ⟨i,r,e,h1,h2,h3⟩:=zKl 0 _ p h
  exact .inl ⟨i,r,e,h1,by omega⟩
 unfold slL at h
 obtain ⟨x,hx,rfl⟩:=List.mem_map.1 h
 exact .inr ⟨x,rfl,List.mem_range.1 hx⟩
theorem WN_ {t : Tst} {g g' : Nat → Nat → Int} {f f' : Nat → Int} (hg : ∀ i r, i < t.ths.length → r < 8 → g i r = g' i r) (hf : ∀ x, x < t.locs.length → f x = f' x) :
    T4 t ((List.range t.ths.length).map g) f=T4 t ((List.range t.ths.length).map g') f':=by
  have:YB_ t ((List.range t.ths.length).map g) f=YB_ t ((List.range t.ths.length).map g') f':=by
    apply map_congr_left
    intro p hp
    rcases zG4 hp with ⟨i,r,rfl,hr,hi⟩|⟨x,rfl,hx⟩
    . unfold Q1_
      rw [if_neg (by dsimp only;omega),if_neg (by dsimp only;omega)]
      simp only [List.getD,List.getElem?_map,Int.toNat_natCast,List.getElem?_range hi,Option.map_some,Option.getD_some]
      exact hg i r hi hr
    unfold Q1_
    rw [if_pos (by dsimp only;omega),if_pos (by dsimp only;omega)]
    exact hf x hx
  unfold T4;rw [this]
theorem zT8 {t:Tst} (ht:TTOk t) (k:List Int):WH_ t k=zoj t (T7 k):=by
 refine WN_ (fun i r hi hr=>?_) fun _ _=>rfl
 have hi4:i<4:=by have:=ht.ths;omega
 rw [V6 hi4]
 show gt k _=rgA k i r
 unfold rgA;rw [if_pos hr]
theorem zQe {t:Tst} (ht:TTOk t) {e:List Int}:e∈I3 t↔∃ n b,ARun t n (W4_ t) b/\WL_ t b/\e=zoj t b:=by
 rw [zB7 ht,<-zQd ht.locs]
 obtain ⟨⟨n0,hn0⟩,h2,h3⟩:=JG_ ht _ (Nat.le_refl _)
 have hM:=r9 ht
 have hcl:∀ {k q:List Int},ReachT t k q->MOk t k->(∀ j,j<t.ths.length->ClosedA t j (T7 k))->∀ j,j<t.ths.length->ClosedA t j (T7 q):=by
  intro k q h
  induction h with
  | refl=>exact fun _ h=>h
  | @step k q r h1 _ ih =>
   intro hM hc
   refine ih (h1.ok ht hM).1 fun j hj=>?_
   rcases h1 with ⟨i,hi,hq⟩|⟨i,hi,hw,rfl⟩
   .have hi4:i<4:=by have:=ht.ths;omega
    obtain ⟨p,w,e1,e2,e3,e4⟩:=hM.th i hi4
    unfold H9 at hq
    rw [e1,Int.toNat_natCast] at hq
    cases hg:(lth t i)[p]? with
    | none=>rw [hg] at hq;cases hq
    | some x =>
     rw [hg] at hq
     dsimp only at hq
     cases ho:ZN_ x i k with
     | none=>rw [ho] at hq;cases hq
     | some q1 =>
      rw [ho] at hq
      cases hq
      obtain ⟨b1,b2,b3,b4⟩:=zKk ht hM hi e1 hg ho
      obtain ⟨l1,l2⟩:=X3 ht hi ((lth t i).length+1) b1 b2 b3
      by_cases e:j=i
      .subst e;exact l2 (by omega)
      exact (hc j hj).of ((l1.other.1 j e).trans (by rw [b4];exact E2 e))
   have hi4:i<4:=by have:=ht.ths;omega
   obtain ⟨p',r',f1,f2⟩:=zB8 ht hM hi hw
   have hD:=Zr_ hM hi4 hw (YJ_ ht i)
   obtain ⟨p1,w1,d1,d2,d3,d4⟩:=hD.th i hi4
   obtain ⟨l1,l2⟩:=X3 ht hi ((lth t i).length+1) hD d1 d4
   by_cases e:j=i
   .subst e;exact l2 (by omega)
   exact (hc j hj).of ((l1.other.1 j e).trans (by rw [f2];exact E2 e))
 constructor
 .rintro ⟨q,hr,ho,rfl⟩
  obtain ⟨n,hn⟩:=hr.run ht hM
  exact ⟨_,T7 q,hn0.append hn,(Vg_ ht (hr.ok ht hM) (hcl hr hM h3)).1 ho,zT8 ht q⟩
 rintro ⟨n,b,hr,hf,rfl⟩
 obtain ⟨m,hm⟩:=h2 n b hr hf
 obtain ⟨q,r1,r2,rfl⟩:=znf ht m (Yw_ t) b hM h3 hm hf
 exact ⟨q,r1,r2,(zT8 ht q).symm⟩
section
variable {k:List Int} (hk:k.length=52) {i r x:Nat} (hi:i<4) (hr:r<8)
include hk
include hi
include hr
omit hr hi
variable (hx:x<8)
include hx
end
def zT9 (k:List Int) (i:Nat) (r:Bool) (n:Int):Int:=if r then gt k (i*11+3+n.toNat) else n
def zQf (k:List Int) (i:Nat) (loc:Int):Nat->List Int
 | 0=>k
 | j+1=>if j≠i/\gt (zQf k i loc j) (j*11+1)=loc+1 then (zQf k i loc j).set (j*11+2) 1 else zQf k i loc j
def zjt (k:List Int) (i:Nat) (loc v:Int):List Int:=zQf (k.set (44+loc.toNat) v) i loc 4
def brS (k:List Int) (i:Nat) (x:Ins):Bool:=decide (15<x.op)&&(decide (zT9 k i x.aR x.aN=zT9 k i x.bR x.bN)==decide (x.op=16))
def zgn (x:Ins) (i:Nat) (k:List Int):List Int :=
 if x.op=1 then k.set (i*11+3+x.rd.toNat) x.aN
 else if x.op<9 then k.set (i*11+3+x.rd.toNat) (QA_ x.op (zT9 k i x.aR x.aN) (zT9 k i x.bR x.bN))
 else if brS k i x=true then k.set (i*11) (gt k (i*11)+x.skip)
 else k
def zrc (k:List Int) (i:Nat):List Int:=k.set (i*11) (gt k (i*11)+1)
def zc4 (k:List Int) (i:Nat) (x:Ins) (v:Int):List Int:=k.set (i*11+3+x.rd.toNat) v
def zYq (k:List Int) (i:Nat) (x:Ins):List Int:=zc4 ((k.set (i*11+1) 0).set (i*11+2) 0) i x 1
def zgo (k:List Int) (i:Nat) (x:Ins):Bool:=decide (gt k (i*11+1)=x.loc+1)&&decide (gt k (i*11+2)=0)
def doS (x:Ins) (i:Nat) (k:List Int):List (List Int) :=
 if x.op=9 then [zc4 k i x (gt k (44+x.loc.toNat))]
 else if x.op=13 then [((zc4 k i x (gt k (44+x.loc.toNat))).set (i*11+1) (x.loc+1)).set (i*11+2) 0]
 else if x.op=10 then [zjt k i x.loc (zT9 k i x.aR x.aN)]
 else if x.op=11 then [zc4 (zjt k i x.loc (zT9 k i x.aR x.aN)) i x (gt k (44+x.loc.toNat))]
 else if x.op=12 then [zc4 (zjt k i x.loc (IntKind.u64.wrap (zT9 k i x.aR x.aN+gt k (44+x.loc.toNat)))) i x (gt k (44+x.loc.toNat))]
 else if x.op=14 then (if zgo k i x=true then [zYq k i x,zc4 (zjt (zYq k i x) i x.loc (zT9 k i x.aR x.aN)) i x 0] else [zYq k i x])
 else [zgn x i k]
abbrev Ws:=List (List Int) × List (List Int) × List (List Int)
def zgp (l:List Ins) (i:Nat) (k:List Int):List (List Int):=match l[(gt k (i*11)).toNat]? with|none=>[]|some x=>doS x i (zrc k i)
def zng (t:Tst) (k:List Int) (n:Nat):Bool:=(List.range n).all fun i=>decide (((lth t i).length:Int)<=gt k (i*11))
def gS (k:List Int) (i:Nat):Nat->Int:=fun r=>gt k (i*11+3+r)
def fS (k:List Int):Nat->Int:=fun x=>gt k (44+x)
def zok (t:Tst) (k:List Int):List Int:=T4 t ((List.range t.ths.length).map (gS k)) (fS k)
def znh:List Int:=List.replicate 52 0
def zgq (t:Tst):Nat->List Int
 | 0=>znh
 | i+1=>(zgq t i).set (44+i) ((t.locs.getD i ⟨.empty,0⟩).v)
def zKm (t:Tst):List Int:=zgq t t.locs.length
inductive ReachS (t:Tst):List Int->List Int->Prop
 | refl (k:List Int):ReachS t k k
 | step {k q r:List Int} {i:Nat}:i<t.ths.length->q∈zgp (lth t i) i k->ReachS t q r->ReachS t k r
abbrev zgr (t:Tst) (k:List Int):Prop:=zng t k t.ths.length=true
structure Inv (t:Tst) (s:Ws):Prop where
 todo:∀ q∈s.1,q∈s.2.1
 reach:∀ q∈s.2.1,ReachS t (zKm t) q
 ends:∀ e∈s.2.2,∃ w,ReachS t (zKm t) w/\zgr t w/\e=zok t w
 start:zKm t∈s.2.1
 done:∀ q∈s.2.1,q∈s.1\/((∀ i,i<t.ths.length->zgp (lth t i) i q ⊆ s.2.1)/\(zgr t q->zok t q∈s.2.2))
open Go.Proofs.Tryz
def WO_:Go.Shelf.Ren:=⟨fun|14=>148|20=>179|21=>180|22=>181|23=>182|24=>183|25=>184|26=>185|27=>186|46=>206|47=>207|48=>208|49=>209|50=>210|15=>149|57=>224|28=>187|29=>188|n=>n,fun|24=>73|22=>30|3=>3|25=>194|4=>4|0=>0|46=>262|45=>261|50=>209|66=>284|39=>232|55=>54|70=>288|76=>303|77=>304|53=>268|5=>5|9=>9|n=>n,fun|n=>n⟩
theorem sortLay:Go.Proofs.SlLaysF0.n14 Tryz.prog WO_ where
 mixed:=by kernel_rfl
 f14:=⟨ "slices.pdqsortCmpFunc[ordeal/outcome.State]",by decide,Tryz.func148.trans (congrArg some (by kernel_rfl))⟩
 f15:=Tryz.func149.trans (congrArg some (by kernel_rfl))
 f20:=⟨ "slices.insertionSortCmpFunc[ordeal/outcome.State]",by decide,Tryz.func179.trans (congrArg some (by kernel_rfl))⟩
 f21:=⟨ "slices.heapSortCmpFunc[ordeal/outcome.State]",by decide,Tryz.func180.trans (congrArg some (by kernel_rfl))⟩
 f22:=⟨ "slices.breakPatternsCmpFunc[ordeal/outcome.State]",by decide,Tryz.func181.trans (congrArg some (by kernel_rfl))⟩
 f23:=⟨ "slices.choosePivotCmpFunc[ordeal/outcome.State]",by decide,Tryz.func182.trans (congrArg some (by kernel_rfl))⟩
 f24:=⟨ "slices.reverseRangeCmpFunc[ordeal/outcome.State]",by decide,Tryz.func183.trans (congrArg some (by kernel_rfl))⟩
 f25:=⟨ "slices.partialInsertionSortCmpFunc[ordeal/outcome.State]",by decide,Tryz.func184.trans (congrArg some (by kernel_rfl))⟩
 f26:=⟨ "slices.partitionEqualCmpFunc[ordeal/outcome.State]",by decide,Tryz.func185.trans (congrArg some (by kernel_rfl))⟩
 f27:=⟨ "slices.partitionCmpFunc[ordeal/outcome.State]",by decide,Tryz.func186.trans (congrArg some (by kernel_rfl))⟩
 f28:=Tryz.func187.trans (congrArg some (by kernel_rfl))
 f29:=Tryz.func188.trans (congrArg some (by kernel_rfl))
 f46:=⟨ "slices.siftDownCmpFunc[ordeal/outcome.State]",by decide,Tryz.func206.trans (congrArg some (by kernel_rfl))⟩
 f47:=Tryz.func207.trans (congrArg some (by kernel_rfl))
 f48:=Tryz.func208.trans (congrArg some (by kernel_rfl))
 f49:=⟨ "slices.medianAdjacentCmpFunc[ordeal/outcome.State]",by decide,Tryz.func209.trans (congrArg some (by kernel_rfl))⟩
 f50:=⟨ "slices.medianCmpFunc[ordeal/outcome.State]",by decide,Tryz.func210.trans (congrArg some (by kernel_rfl))⟩
 f57:=⟨ "slices.order2CmpFunc[ordeal/outcome.State]",by decide,Tryz.func224.trans (congrArg some (by kernel_rfl))⟩
 t0:=Tryz.underlying0
 a0:=Tryz.isAgg0
 z0:=Tryz.sizeOf0
 v0:=Tryz.zeroValue0
 t3:=Tryz.underlying3
 a3:=Tryz.isAgg3
 z3:=Tryz.sizeOf3
 v3:=Tryz.zeroValue3
 t4:=Tryz.underlying4
 a4:=Tryz.isAgg4
 z4:=Tryz.sizeOf4
 v4:=Tryz.zeroValue4
 t5:=Tryz.underlying5
 a5:=Tryz.isAgg5
 z5:=Tryz.sizeOf5
 v5:=Tryz.zeroValue5
 t9:=Tryz.underlying9
 a9:=Tryz.isAgg9
 z9:=Tryz.sizeOf9
 v9:=Tryz.zeroValue9
 t22:=Tryz.underlying30
 a22:=Tryz.isAgg30
 z22:=Tryz.sizeOf30
 v22:=Tryz.zeroValue30
 t25:=Tryz.underlying194
 a25:=Tryz.isAgg194
 z25:=Tryz.sizeOf194
 v25:=Tryz.zeroValue194
 t39:=Tryz.underlying232
 a39:=Tryz.isAgg232
 z39:=Tryz.sizeOf232
 v39:=Tryz.zeroValue232
 t45:=Tryz.underlying261
 a45:=Tryz.isAgg261
 z45:=Tryz.sizeOf261
 v45:=Tryz.zeroValue261
 t46:=Tryz.underlying262
 a46:=Tryz.isAgg262
 z46:=Tryz.sizeOf262
 v46:=Tryz.zeroValue262
 t50:=Tryz.underlying209
 a50:=Tryz.isAgg209
 z50:=Tryz.sizeOf209
 v50:=Tryz.zeroValue209
 t53:=Tryz.underlying268
 a53:=Tryz.isAgg268
 z53:=Tryz.sizeOf268
 v53:=Tryz.zeroValue268
 t55:=Tryz.underlying54
 a55:=Tryz.isAgg54
 z55:=Tryz.sizeOf54
 v55:=Tryz.zeroValue54
 t66:=Tryz.underlying284
 a66:=Tryz.isAgg284
 z66:=Tryz.sizeOf284
 v66:=Tryz.zeroValue284
 t70:=Tryz.underlying288
 a70:=Tryz.isAgg288
 z70:=Tryz.sizeOf288
 v70:=Tryz.zeroValue288
 t76:=Tryz.underlying303
 a76:=Tryz.isAgg303
 z76:=Tryz.sizeOf303
 v76:=Tryz.zeroValue303
 t77:=Tryz.underlying304
 a77:=Tryz.isAgg304
 z77:=Tryz.sizeOf304
 v77:=Tryz.zeroValue304
abbrev zKn:={l:List Int // l.length=41}
instance:Inhabited zKn:=⟨⟨List.replicate 41 0,rfl⟩⟩
def zgs:List Int->List Value
 | []=>[]
 | n::r=>.int .i64 n::r.map fun m=>.int .u64 m
theorem zgt (k:List Int):(zgs k).map V.val=stK k:=by
 cases k with
 | nil=>rfl
 | cons n r=>simp only [zgs,map_cons,map_map,stK];rfl
theorem zQg (k:List Int):(zgs k).length=k.length:=by cases k<;>simp [zgs]
def zc5 (k:zKn):List Value:=zgs k.1
theorem zju (k:zKn):q6 zc5 k=.agg (stK k.1):=by simp only [q6,zc5,zgt]
def stR (l:List (List Int)):List V:=l.map fun k=>.agg (stK k)
theorem Uf_ (l:List (List Int)):(stR l).length=l.length:=length_map ..
theorem zG5 (l:List (List Int)) (h:∀ q∈l,q.length=41):(l.attach.map fun q=>(⟨q.1,h q.1 q.2⟩:zKn)).map (q6 zc5)=stR l:=by
 rw [map_map]
 have:(q6 zc5 ∘ fun q:{x // x∈l}=>(⟨q.1,h q.1 q.2⟩:zKn))=fun q=>V.agg (stK q.1):=funext fun q=>zju _
 rw [this]
 exact attach_map_val (f:=fun k=>V.agg (stK k)) ..
theorem zgu:Go.Sort.SWO (Go.Proofs.ltOf fun a b:zKn=>v6 a.1 b.1) where
 irrefl x:=X8_ x.1
 trans x y z:=Z7
 ntrans x y z h h':=by
  show ltL x.1 z.1=false
  cases hxz:ltL x.1 z.1 with
  | false=>rfl
  | true =>
   have h1:ltL x.1 y.1=false:=h
   have h2:ltL y.1 z.1=false:=h'
   cases hyx:ltL y.1 x.1 with
   | true=>rw [Z7 hyx hxz] at h2;cases h2
   | false =>
    have:=X9_ h1 hyx
    rw [this,h2] at hxz;cases hxz
theorem zG6 {l:List (List Int)} (hn:l.Nodup) {l':List zKn} (hp:(l'.map (·.1)).Perm l) (hs:l'.Pairwise fun a b=>Go.Proofs.ltOf (fun a b:zKn=>v6 a.1 b.1) b a=false):l'.map (q6 zc5)=stR (L5 l):=by
 have e:l'.map (·.1)=L5 l:=by
  refine zDj ?_ fun x=>hp.mem_iff
  have hnd:(l'.map (·.1)).Nodup:=hp.nodup_iff.2 hn
  rw [S9,pairwise_map]
  rw [List.Nodup,pairwise_map] at hnd
  refine (hs.and hnd).imp fun {a b} ⟨h1,h2⟩=>?_
  have h1':ltL b.1 a.1=false:=h1
  cases h:ltL a.1 b.1 with
  | true=>rfl
  | false=>exact absurd (X9_ h h1') h2
 rw [<-e,stR,map_map]
 exact map_congr_left fun q _=>zju q
theorem zG7 (n:Nat) (h:n<4611686018427387904):Pf Tryz.prog 149 [.val (.int .u64 (n:Nat))] (iV (Go.Lib.bitLen n:Nat)):=by
 refine ⟨⟨_,sortLay.f15,by kernel_rfl,rfl⟩,fun ι O w cargs _ hv=>?_⟩
 rcases hv with _|⟨v0,_|_⟩
 cases v0
 have h':=Go.Proofs.Any.bits_Len (Go.Proofs.SlLaysF0.n15.bits (P:=Tryz.prog) (ρ:=WO_) { sortLay with }) (n:Int) w (by omega) (by omega)
 rw [Int.toNat_natCast] at h'
 refine (show Calls Tryz.prog 149 _ w _ from h').mono ?_
 rintro e w' ⟨he,rfl⟩
 exact ⟨_,he,.val _ rfl,rfl,Tp.refl _,rfl,Nat.le_refl _,fun _ _=>rfl⟩
theorem zKo (r k:Nat):Sl.Fn Tryz.prog 179 [.sl r 0 0,iV 0,iV 0,.fn (.func 108) [] []] [(r,.rows 41 [])] k fun v H' _=>v=.tup []/\H'=[(r,.rows 41 [])]:=by
 refine B7 T_ok func179 rfl rfl ntmps179 rfl (by simp) ?_
 refine rG ?_
 apply A0
 refine A9 (α:=Unit) (fun u=>⟨53,[(8,iV 1),(2,iV 0)],[(r,.rows 41 [])],k⟩) (fun u=>True) (fun u=>0) () ?_ ?_ ?_
 .trivial
 .refine Weaker.fw 1 0 ?_ ?_<;>simp [go_sem]
 rintro _ _
 try dsimp only
 refine A3 fun K1 hK1=>?_
 refine rG ?_
 refine cK (fun h=>?_) fun h=>?_
 .simp at h
 clear h
 apply A6
 refine ⟨.inl rfl,?_⟩
 simp [go_sem]
theorem zKp (r k:Nat):Sl.Fn Tryz.prog 148 [.sl r 0 0,iV 0,iV (0:Nat),iV (Go.Lib.bitLen 0:Nat),.fn (.func 108) [] []] [(r,.rows 41 [])] k fun v H' _=>v=.tup []/\H'=[(r,.rows 41 [])]:=by
 refine B7 T_ok func148 rfl rfl ntmps148 rfl (by simp) ?_
 refine rG ?_
 refine rG ?_
 apply A0
 refine A9 (α:=Unit) (fun u=>⟨148,[(0,.sl r 0 0),(1,iV 0),(2,iV 0),(4,.fn (.func 108) [] [])],[(r,.rows 41 [])],k⟩) (fun u=>True) (fun u=>0) () ?_ ?_ ?_
 .trivial
 .refine Weaker.fw 1 0 ?_ ?_<;>simp [go_sem]
 rintro _ _
 try dsimp only
 apply A0
 refine rG ?_
 refine A3 fun K1 hK1=>?_
 refine rG ?_
 refine cJ (fun h=>?_) fun h=>?_
 .simp at h
 clear h
 refine rK fun K hK=>?_
 simp [go_sem]
 refine D7 (zKo r k) rfl (by simp) (by simp [go_sem]) fun k' hk'=>?_
 simp [go_sem,VN_]
 apply hK
 refine A4 ?_
 simp [go_sem]
theorem zQh (l : List (List Int)) (h41 : ∀ q ∈ l, q.length = 41) (hn : l.Nodup) (hl : l.length < 4611686018427387904) (r k : Nat) :
    Sl.Fn Tryz.prog 148 [.sl r 0 l.length,iV 0,iV (l.length:Nat),iV (Go.Lib.bitLen l.length:Nat),.fn (.func 108) [] []] [(r,.rows 41 (stR l))] k fun v H' _=>v=.tup []/\H'=[(r,.rows 41 (stR (L5 l)))]:=by
  by_cases he:l=[]
  . subst he
    exact zKp r k
  have hb:Go.Lib.bitLen l.length<4611686018427387904:=Nat.lt_of_le_of_lt (Go.Lib.bitLen_le l.length 62 (by omega) (by omega)) (by omega)
  have := zfm (enc := zc5) (K := 41) sortLay Tryz.isAgg73 Tryz.sizeOf73 (fun x => (zQg x.1).trans x.2) (fun x v hv => by
      obtain ⟨q,hq⟩:=x
      cases q with
      | nil=>cases hv
      | cons n q =>
        cases hv with
        | head=>rfl
        | tail _ hv=>obtain ⟨m,_,rfl⟩:=List.mem_map.1 hv;rfl) (fun a b=>v6 a.1 b.1) zgu 108 (fun x y=>by rw [zju,zju];exact YA_ x.1 y.1 x.2 y.2) r k
      (l.attach.map fun q=>(⟨q.1,h41 q.1 q.2⟩:zKn)) (by simpa using he) (by simpa using hl) _ hb
  rw [zG5,length_map,length_attach] at this
  refine (show Sl.Fn Tryz.prog 148 _ _ k _ from this).mono ?_
  rintro v H' k' ⟨rfl,l',hp,hs,rfl⟩
  refine ⟨rfl,?_⟩
  rw [zG6 hn ?_ hs]
  have:=hp.map (·.1)
  rwa [map_map,show ((fun x:zKn=>x.1) ∘ fun q:{x // x∈l}=>(⟨q.1,h41 q.1 q.2⟩:zKn))=fun q=>q.1 from rfl,attach_map_subtype_val] at this
theorem zB9 (l:List (List Int)) (h41:∀ q∈l,q.length=41) (hn:l.Nodup) (hl:l.length<4611686018427387904) (r k:Nat):Sl.Fn Tryz.prog 107 [.sl r 0 l.length,.fn (.func 108) [] []] [(r,.rows 41 (stR l))] k fun v H' _=>v=.tup []/\H'=[(r,.rows 41 (stR (L5 l)))]:=by
 have hw:IntKind.u64.wrap (l.length:Int)=(l.length:Nat):=by simp [IntKind.wrap,IntKind.bits,IntKind.signed];omega
 refine B7 T_ok func107 rfl rfl ntmps107 rfl (by simp) ?_
 refine rG ?_
 refine rE fun K hK=>?_
 simp [go_sem,hw]
 refine A2 (zG7 l.length hl) ?_
 simp [go_sem,hw]
 refine D7 (zQh l h41 hn hl r k) rfl (by simp) (by simp [go_sem]) fun k' hk'=>?_
 simp [go_sem,VN_]
 apply hK
 refine ⟨.inl rfl,?_⟩
 simp [go_sem]
theorem Zw_:∀ (n:Nat) {d:List Nat},d.Nodup->(∀ i∈d,i<n)->d.length<=n
 | 0,d,_,h=>by cases d with|nil=>simp|cons x d=>exact absurd (h x (.head _)) (by omega)
 | n+1,d,hd,h=>by
  have h1:=Zw_ n (hd.erase n) fun i hi=>by
   have h2:=h i (mem_of_mem_erase hi)
   have h3:i≠n:=fun e=>by subst e;exact (hd.not_mem_erase) hi
   omega
  have h4:d.length<=(d.erase n).length+1:=by
   by_cases hm:n∈d
   .rw [length_erase_of_mem hm];omega
   rw [erase_of_not_mem hm];omega
  omega
def pk (l:List (List Int)) (d:List Nat):List (List Int):=d.map fun i=>l.getD i []
@[simp] theorem zKq (l:List (List Int)) (d:List Nat):(pk l d).length=d.length:=length_map ..
theorem zKr (l:List (List Int)) (d:List Nat) (i:Nat):pk l (d++[i])=pk l d++[l.getD i []]:=by simp [pk]
theorem zG8 (a b:List (List Int)):stR (a++b)=stR a++stR b:=map_append ..
theorem zYr (a:List Int):stR [a]=[.agg (stK a)]:=rfl
theorem zE8 {x:List Int}:∀ {l:List (List Int)},x∉l->(zGv x l).length=l.length+1
 | [],_=>rfl
 | y::l,h=>by
  unfold zGv
  split
  .rfl
  split
  .rename_i e;exact absurd (e▸.head _) h
  rw [length_cons,zE8 fun hm=>h (.tail _ hm),length_cons]
theorem s5:∀ {l:List (List Int)},l.Nodup->(L5 l).length=l.length
 | [],_=>rfl
 | x::l,h=>by
  have h':=List.nodup_cons.1 h
  rw [show L5 (x::l)=zGv x (L5 l) from rfl,zE8 fun hm=>h'.1 (mem_setOf.1 hm),s5 h'.2,length_cons]
theorem YK_ (q:List Int):∀ x∈stK q,x.one=true:=by
 intro x hx
 cases q with
 | nil=>cases hx
 | cons n r =>
  rw [stK] at hx
  cases hx with
  | head=>rfl
  | tail _ h=>obtain ⟨m,_,rfl⟩:=List.mem_map.1 h;rfl
theorem zG9 (l:List (List Int)):stR (pk l [])=[]:=rfl
theorem zTa {l:List (List Int)} {d:List Nat} (hd:∀ i∈d,i<l.length) {q:List Int} (h:q∈pk l d):q∈l:=by
 obtain ⟨i,hi,rfl⟩:=List.mem_map.1 h
 have:=hd i hi
 simp [List.getD,this]
theorem zgv {l:List (List Int)} {d:List Nat} (h:∀ i,i<l.length->i∈d) {q:List Int} (hq:q∈l):q∈pk l d:=by
 obtain ⟨i,hi,rfl⟩:=List.mem_iff_getElem.1 hq
 exact List.mem_map.2 ⟨i,h i hi,by simp [List.getD,hi]⟩
theorem Ug_ {l:List (List Int)} (hl:l.Nodup):∀ {d:List Nat},(∀ i∈d,i<l.length)->d.Nodup->(pk l d).Nodup
 | [],_,_=>nodup_nil
 | i::d,hd,hn=>by
  have hn':=List.nodup_cons.1 hn
  rw [pk,map_cons,nodup_cons]
  refine ⟨fun h=>?_,Ug_ hl (fun j hj=>hd j (.tail _ hj)) hn'.2⟩
  obtain ⟨j,hj,e⟩:=List.mem_map.1 h
  have h1:=hd i (.head _)
  have h2:=hd j (.tail _ hj)
  simp only [List.getD,List.getElem?_eq_getElem h1,List.getElem?_eq_getElem h2,Option.getD_some] at e
  rw [getElem_inj hl] at e
  exact hn'.1 (e▸hj)
theorem zKs {l:List (List Int)} {i:Nat} {p:V × V} (h:(S0 l)[i]?=some p):∃ q,l[i]?=some q/\p=(.agg (stK q),bV true):=by
 rw [S0,List.getElem?_map] at h
 cases hq:l[i]? with
 | none=>rw [hq] at h;cases h
 | some q=>rw [hq] at h;exact ⟨q,rfl,(Option.some.inj h).symm⟩
theorem of_fn (l:List (List Int)) (h41:∀ q∈l,q.length=41) (hn:l.Nodup) (hl:l.length<=400000000000) (n k:Nat) (hnk:n<k):Sl.Fn Tryz.prog 49 [.map n] [(n,.map (S0 l))] k fun v H _=>v=.ro 41 (stR (L5 l))/\H=[]:=by
 refine Fn.view ?_
 have g52:¬ n=k/\¬ k=n/\¬ n=k+1/\¬ k+1=n:=by and_intros<;>omega
 refine B7 T_ok func49 rfl rfl ntmps49 rfl (by simp) ?_
 refine rG ?_
 refine rG ?_
 refine A3 fun K1 hK1=>?_
 refine rG ?_ fun K h=>by simp [go_sem,g52];exact h
 apply A0
 refine Tr.weaken (Weaker.ghost 3 41 rfl) ?_
 refine A9 (α:=List Nat × Nat) (fun a=>⟨18,[(0,.map n),(6,.ptr k 0 0),(3,.sl a.2 0 a.1.length)],[(n,.map (S0 l)),(k,.iter n a.1 l.length),(a.2,.rows 41 (stR (pk l a.1)))],a.2+1⟩) (fun a=>a.1.Nodup/\(∀ i∈a.1,i<l.length)/\k<a.2) (fun a=>l.length-a.1.length) ([],k+1) ?_ ?_ ?_
 .exact ⟨nodup_nil,by simp,Nat.lt_succ_self k⟩
 .refine Weaker.fw 1 0 ?_ ?_<;>simp [go_sem,g52,Z5,zG9]
 rintro ⟨d,j⟩ ⟨hd,hdl,hkj⟩
 dsimp only at hd hdl hkj ⊢
 have g53:¬ n=k/\¬ k=n/\¬ n=j/\¬ j=n/\¬ k=j/\¬ j=k/\¬ n=j+1/\¬ j+1=n/\¬ n=j+2/\¬ j+2=n/\¬ n=j+3/\¬ j+3=n/\¬ n=j+4/\¬ j+4=n/\¬ k=j+1/\¬ j+1=k/\¬ k=j+2/\¬ j+2=k/\¬ k=j+3/\¬ j+3=k/\¬ k=j+4/\¬ j+4=k:=by and_intros<;>omega
 refine Qn_ ?_
 refine zPl rfl rfl rfl (by decide) k n l.length d (S0 l) (by simp [go_sem,Z5,g53]) (by simp [go_sem,Z5,g53]) (by simp [go_sem,Z5,g53]) (by simp [go_sem,Z5,g53]) ?_ ?_
 .intro hall
  refine zAm T_ok (by decide) fun K hK=>?_
  simp [go_sem]
  apply hK
  refine A3 fun K2 hK2=>?_
  refine cK (fun h=>?_) fun h=>?_
  .simp at h
  simp at h
  apply A6
  apply hK1
  refine rK fun K hK=>?_
  have hdn:=Zw_ _ hd hdl
  simp [go_sem,g53]
  have hs:=zB9 (pk l d) (fun q hq=>h41 q (zTa hdl hq)) (Ug_ hn hdl hd) (by simp;omega) j (j+1)
  rw [zKq] at hs
  have hso:L5 (pk l d)=L5 l:=zAu fun x=>⟨zTa hdl,zgv hall⟩
  rw [hso] at hs
  refine D7 hs rfl (by simp) (by simp [go_sem,g53]) fun k' hk'=>?_
  simp [go_sem,VN_,g53]
  apply hK
  refine rG ?_
  refine A4 ?_
  simp [go_sem]
  exact ⟨_,_,(View.freezeAll (sz:=41) (es:=stR (L5 l)) (by simp [go_sem,g53]) (by rw [Uf_,<-hso,s5 (Ug_ hn hdl hd),zKq])).trans (View.nil _),rfl,rfl⟩
 intro i p hp hi
 obtain ⟨q,hq,rfl⟩:=zKs hp
 have hil:i<l.length:=(List.getElem?_eq_some_iff.1 hq).1
 have hd2:(d++[i]).Nodup:=List.nodup_append.2 ⟨hd,by simp,by intro a ha b hb;simp at hb;subst hb;exact fun e=>hi (e▸ha)⟩
 have hdl2:∀ x∈d++[i],x<l.length:=by intro x hx;rcases List.mem_append.1 hx with h|h;exact hdl x h;simp at h;omega
 have hdn:=Zw_ _ hd hdl
 have hql:(stK q).length=41:=(Y2 q).trans (h41 q (List.mem_of_getElem? hq))
 have hqo:∀ x∈stK q,x.one=true:=YK_ q
 have hqt:List.take 41 (stK q)=stK q:=take_of_length_le (by omega)
 have hst:List.take d.length (stR (pk l d))=stR (pk l d):=take_of_length_le (by simp [Uf_])
 refine zAm T_ok (by decide) fun K hK=>?_
 simp [go_sem]
 apply hK
 refine A3 fun K3 hK3=>?_
 refine cJ (fun h=>?_) fun h=>?_
 .simp at h
 simp at h
 apply A1
 apply hK3
 apply A0
 refine rK fun K hK=>?_
 simp [go_sem,hp,hq,Z5,hql,hqo,g53]
 refine ⟨hqo,?_⟩
 apply hK
 refine rE fun K hK=>?_
 simp [go_sem,g53,hql,hqo,hqt,hst,Uf_,zKq]
 refine ⟨hqo,by omega,?_⟩
 apply hK
 refine ⟨(d++[i],j+3),?_,?_,?_⟩
 .exact ⟨hd2,hdl2,by omega⟩
 .have:=Zw_ _ hd2 hdl2;simp at this;simp;omega
 refine Weaker.fw 1 0 ?_ ?_
 .simp [go_sem,g53]
 simp [go_sem,zKr,zG8,zYr,hq,g53]
theorem zQi (t:Tst) (ht:t.ths.length<=1000) (hl:∀ x∈t.ths,x.length<=1000) (hr:∀ l∈t.ths,∀ x∈l,Xq_ x.op=true->0<=x.rd/\x.rd<8) (hlo:t.locs.length<=1000):Pf Tryz.prog 52 [.rp t.cs 0] (.ro 2 (UP_ (Q1 t))):=by
 refine Pf.of_fz 1 (.cons (x5 t) .nil) (zg9 _) ?_
 refine B7 T_ok func52 rfl rfl ntmps52 rfl (by simp) ?_
 refine rG ?_
 refine rG ?_
 refine A3 fun K1 hK1=>?_
 refine rG ?_ fun K h=>by simp [go_sem,Tst.cs];exact h
 apply A0
 refine Tr.weaken (Weaker.ghost 3 2 rfl) ?_
 refine A9 (α:=Nat × Nat × Nat) (fun a=>⟨47,[(0,.rp t.cs 0),(11,.ro 1 (O3 t.ths)),(12,iV (t.ths.length:Nat)),(13,iV (a.1:Nat)),(3,.sl a.2.1 0 (slO t.ths a.1).length)],[(a.2.1,.rows 2 (UP_ (slO t.ths a.1)))],a.2.1+a.2.2+1⟩) (fun a=>a.1<=t.ths.length) (fun a=>t.ths.length-a.1) (0,0,0) ?_ ?_ ?_
 .dsimp only;omega
 .refine Weaker.fw 1 0 ?_ ?_
  .simp [go_sem,zDm,Tst.cs]
  simp [go_sem,zDm,zQ2]
 rintro ⟨i,r,c⟩ hi
 dsimp only at hi ⊢
 refine rG ?_
 refine A3 fun K2 hK2=>?_
 refine cJ (fun h=>?_) fun h=>?_
 .simp at h
  obtain rfl:i=t.ths.length:=by omega
  apply A6
  apply hK1
  refine A3 fun K6 hK6=>?_
  refine rG ?_ fun K h=>by simp [go_sem,Tst.cs];exact h
  apply A0
  refine A9 (α:=Nat × Nat × Nat) (fun a=>⟨47,[(0,.rp t.cs 0),(36,iV (t.locs.length:Nat)),(37,iV (a.1:Nat)),(3,.sl a.2.1 0 (slQ t a.1).length)],[(a.2.1,.rows 2 (UP_ (slQ t a.1)))],a.2.1+a.2.2+1⟩) (fun a=>a.1<=t.locs.length) (fun a=>t.locs.length-a.1) (0,r,c) ?_ ?_ ?_
  .dsimp only;omega
  .refine Weaker.fw 1 0 ?_ ?_
   .simp [go_sem,zJq,Tst.cs]
   simp [go_sem,zJq]
  rintro ⟨b,r,c⟩ hib
  dsimp only at hib ⊢
  refine rG ?_
  refine A3 fun K7 hK7=>?_
  refine cJ (fun h=>?_) fun h=>?_
  .simp at h
   obtain rfl:b=t.locs.length:=by omega
   apply A6
   apply hK6
   refine rG ?_
   refine A4 ?_
   simp [go_sem,zXy,take_of_length_le]
  simp at h
  have hql:=zY2 t b
  have hw3:=wI b
  apply A1
  apply hK7
  refine A3 fun K8 hK8=>?_
  apply A0
  refine rG ?_
  refine rE fun K hK=>?_
  simp [go_sem]
  refine ⟨by omega,?_⟩
  apply hK
  apply hK8
  refine rF ?_ fun K h=>by simp [go_sem,hw3];exact h
  refine ⟨(b+1,r+c+2,0),?_,?_,?_⟩
  .dsimp only;omega
  .dsimp only;omega
  refine Weaker.fw 1 0 ?_ ?_
  .simp [go_sem,zDo]
  simp [go_sem,zDo,WB_]
 simp at h
 have hI:=h
 clear h
 have h':i<(t.ths).length:=by omega
 obtain ⟨l,hx,hx'⟩:=E0 h'
 have hi0:(0:Int)<=(i:Nat):=by omega
 have hlm:=List.mem_of_getElem? hx
 have hw:=wI i
 apply A1
 apply hK2
 refine A3 fun K3 hK3=>?_
 apply A0
 refine rG ?_
 refine rK fun K hK=>?_
 simp [go_sem]
 refine A2 (zX2 t i l hx (hl l hlm) (hr l hlm)) ?_
 simp [go_sem]
 apply hK
 apply A0
 refine A9 (α:=Nat × Nat × Nat) (fun b=>⟨47,[(0,.rp t.cs 0),(11,.ro 1 (O3 t.ths)),(12,iV (t.ths.length:Nat)),(13,iV (i:Nat)),(4,iV (i:Nat)),(18,.ro 1 (R5 (Xt_ (Wq_ l) 8))),(19,iV ((Xt_ (Wq_ l) 8).length:Nat)),(20,iV (b.1:Nat)),(3,.sl b.2.1 0 (slP t.ths i l b.1).length)],[(b.2.1,.rows 2 (UP_ (slP t.ths i l b.1)))],b.2.1+b.2.2+1⟩) (fun b=>b.1<=(Xt_ (Wq_ l) 8).length) (fun b=>(Xt_ (Wq_ l) 8).length-b.1) (0,r,c) ?_ ?_ ?_
 .dsimp only;omega
 .refine Weaker.fw 1 0 ?_ ?_<;>simp [go_sem,zQ1]
 rintro ⟨b,r,c⟩ hib
 dsimp only at hib ⊢
 refine rG ?_
 refine A3 fun K4 hK4=>?_
 refine cJ (fun h=>?_) fun h=>?_
 .simp at h
  obtain rfl:b=(Xt_ (Wq_ l) 8).length:=by omega
  apply A6
  apply hK3
  refine rF ?_ fun K h=>by simp [go_sem,hw];exact h
  refine ⟨(i+1,r,c),?_,?_,?_⟩
  .dsimp only;omega
  .dsimp only;omega
  refine Weaker.fw 1 0 ?_ ?_<;>simp [go_sem,zXx hx]
 have hul:=Y7_ (Wq_ l) 8
 simp at h
 have hI2:=h
 clear h
 have h'2:b<((Xt_ (Wq_ l) 8)).length:=by omega
 obtain ⟨m,hx2,hx'2⟩:=E0 h'2
 have hi02:(0:Int)<=(b:Nat):=by omega
 have hw2:=wI b
 have hpl:=zY1 t.ths i l b
 apply A1
 apply hK4
 refine A3 fun K5 hK5=>?_
 apply A0
 refine rG ?_ fun K h=>by simp [go_sem,hI2,hx2,hx'2,hi02,h'2];exact h
 refine rE fun K hK=>?_
 simp [go_sem]
 refine ⟨by omega,?_⟩
 apply hK
 apply hK5
 refine rF ?_ fun K h=>by simp [go_sem,hw2];exact h
 refine ⟨(b+1,r+c+2,0),?_,?_,?_⟩
 .dsimp only;omega
 .dsimp only;omega
 refine Weaker.fw 1 0 ?_ ?_
 .simp [go_sem,zDn hx2]
 simp [go_sem,zDn hx2,WB_]
theorem zKt (t:Tst) (ht:t.ths.length<=4) (hl:∀ x∈t.ths,x.length<=1000) (hr:∀ l∈t.ths,∀ x∈l,Xq_ x.op=true->0<=x.rd/\x.rd<8) (hlo:t.locs.length<=8) (g:List (Nat->Int)) (hg:g.length=t.ths.length) (f:Nat->Int):Pf Tryz.prog 141 [.rp t.cs 0,.ro 8 (E1 g),.agg (J0 f)] (.agg (stK (T4 t g f))):=by
 refine Pf.of_fz 1 (.cons (x5 t) (.cons (zJy g) (.cons (.agg (zJx f)) .nil))) (.agg (VT_ _)) ?_
 have hs40:=VV_ ht hlo
 have hml:=Q2_ t g f
 have hslots:=zQi t (by omega) hl hr (by omega)
 refine B7 T_ok func141 rfl rfl ntmps141 rfl (by simp) ?_
 refine rG ?_ fun K h=>by simp [go_sem,WC_];exact h
 refine rG ?_ fun K h=>by simp [go_sem,WC_];exact h
 refine A3 fun K1 hK1=>?_
 refine rK fun K hK=>?_
 simp [go_sem]
 refine A2 hslots ?_
 simp [go_sem]
 apply hK
 apply A0
 refine A9 (α:=Nat × Nat) (fun a=>⟨46,[(1,.ro 8 (E1 g)),(5,.ptr 0 0 0),(6,.ptr 1 0 0),(7,.ptr 2 0 0),(11,.ro 2 (UP_ (Q1 t))),(12,iV ((Q1 t).length:Nat)),(13,iV (a.1:Nat))],[(2,.rows 41 [.agg (iV (a.1:Nat)::uVs (zJt ((YB_ t g f).take a.1)))]),(0,.rows 8 [.agg (J0 f)]),(1,.rows 41 [.agg (iV 0::uVs (List.replicate 40 0))])],a.2⟩) (fun a=>a.1<=(Q1 t).length/\2<a.2) (fun a=>(Q1 t).length-a.1) (0,3) ?_ ?_ ?_
 .dsimp only;omega
 .refine Weaker.fy 1 0 ?_ ?_
  .simp [go_sem]
  simp [go_sem,zJt,uVs]
 rintro ⟨i,j⟩ ⟨hi,hj⟩
 dsimp only at hi hj ⊢
 refine rG ?_
 refine A3 fun K2 hK2=>?_
 refine cJ (fun h=>?_) fun h=>?_
 .simp at h
  obtain rfl:i=(Q1 t).length:=by omega
  have hpe:(zJt (YB_ t g f)).length=40:=UR_ (by omega)
  have htk:(YB_ t g f).take (Q1 t).length=YB_ t g f:=take_of_length_le (by omega)
  apply A6
  apply hK1
  refine rG ?_ fun K h=>by simp [go_sem,htk,hpe,zY4,take_of_length_le];exact h
  refine A4 ?_
  simp [go_sem,T4,UO_,hml,htk,hpe,zJg,take_of_length_le]
 simp at h
 have hI:=h
 clear h
 have h':i<(Q1 t).length:=by omega
 obtain ⟨p,hx,hx'⟩:=E0 h'
 have hi0:(0:Int)<=(i:Nat):=by omega
 obtain ⟨a,b⟩:=p
 have hmem:=zJs (List.mem_of_getElem? hx)
 have hm:(YB_ t g f)[i]?=some (Q1_ g f (a,b)):=by unfold YB_;rw [List.getElem?_map,hx];rfl
 have hpl:(zJt ((YB_ t g f).take i)).length=40:=UR_ (by rw [length_take];omega)
 have g54:i<40/\(i:Int)<40:=by and_intros<;>omega
 have hst:=zJu hm (by omega)
 have hw:=wI i
 have g55:¬ j=0/\¬ 0=j/\¬ j=1/\¬ 1=j/\¬ j=2/\¬ 2=j:=by and_intros<;>omega
 apply A1
 apply hK2
 refine A3 fun K3 hK3=>?_
 apply A0
 refine rG ?_ fun K h=>by simp [go_sem,hI,hx,hx',hi0,h',g55];exact h
 refine Z0 ⟨46,[(1,.ro 8 (E1 g)),(5,.ptr 0 0 0),(6,.ptr 1 0 0),(7,.ptr 2 0 0),(11,.ro 2 (UP_ (Q1 t))),(12,iV ((Q1 t).length:Nat)),(13,iV (i:Nat))],[(2,.rows 41 [.agg (iV (i:Nat)::uVs (zJt ((YB_ t g f).take (i+1))))]),(0,.rows 8 [.agg (J0 f)]),(1,.rows 41 [.agg (iV 0::uVs (List.replicate 40 0))])],j+40⟩ ?_ ?_
 .skip
  refine rG ?_ fun K h=>by simp [go_sem,g55];exact h
  refine cK (fun h=>?_) fun h=>?_
  .have ha:a<0:=by simpa using h
   obtain ⟨n,hn,hn8⟩:∃ n:Nat,b=n/\n<8:=by
    rcases hmem with ⟨n,hn,h2⟩|⟨q,r,hn,h2,h3⟩
    .cases hn;exact ⟨n,rfl,by omega⟩
    cases hn;omega
   subst hn
   have g56:(n:Int)<8/\(0:Int)<=(n:Nat):=by and_intros<;>omega
   have hmv:Q1_ g f (a,(n:Int))=f n:=by simp [Q1_,ha]
   rw [hmv] at hst
   refine dE 7 [[],[0],[],[2],[2,3],[2,3,4],[],[0,1,2,3,4,5,6],[0,1,2,3,4,5,6,7]] fun K hK=>?_
   first|dsimp only [List.take,List.drop]|dsimp [List.take,List.drop]
   simp [go_sem,g56,hn8,VW_ f hn8,g54,hi0,hpl,zJz,hst,g55]
   refine ⟨by omega,by omega,?_⟩
   apply hK
   refine Weaker.fy 1 0 ?_ ?_<;>simp [go_sem,g55]
  have ha:¬ a<0:=by simpa using h
  obtain ⟨q,r,hq,hr2,hq2,hr8⟩:∃ q r:Nat,a=q/\b=r/\q<g.length/\r<8:=by
   rcases hmem with ⟨n,hn,h2⟩|⟨q,r,hn,h2,h3⟩
   .cases hn;omega
   cases hn;exact ⟨q,r,rfl,rfl,by omega,h3⟩
  subst hq hr2
  obtain ⟨gf,hgf,hgf'⟩:=E0 hq2
  have g57:(r:Int)<8/\(0:Int)<=(r:Nat)/\(q:Int)<(g.length:Nat)/\(0:Int)<=(q:Nat):=by and_intros<;>omega
  have hmv:Q1_ g f ((q:Int),(r:Int))=gf r:=by unfold Q1_;rw [if_neg ha];simp [hgf]
  rw [hmv] at hst
  refine dE 11 [[],[0],[],[],[3],[],[5],[2,3,4],[2,3,4,5,6,7],[2,3,4,5,6,7,8],[],[0,1,2,3,4,5,6,7,8,9,10],[0,1,2,3,4,5,6,7,8,9,10,11]] fun K hK=>?_
  first|dsimp only [List.take,List.drop]|dsimp [List.take,List.drop]
  simp [go_sem,g57,hr8,hq2,hgf,hgf',VW_ gf hr8,g54,hi0,hpl,zJz,hst,g55]
  refine ⟨by omega,by omega,?_⟩
  apply hK
  refine Weaker.fy 1 0 ?_ ?_<;>simp [go_sem,g55]
 skip
 refine rF ?_ fun K h=>by simp [go_sem,hw,zY3,g55];exact h
 apply hK3
 refine rF ?_ fun K h=>by simp [go_sem,hw];exact h
 refine ⟨(i+1,j+100),?_,?_,?_⟩
 .dsimp only;omega
 .dsimp only;omega
 refine Weaker.fy 1 0 ?_ ?_<;>simp [go_sem,g55]
abbrev XOp:=Nat × Nat × Ins
def opQ (t:Tst) (k:Nat):Nat × Nat:=(O0 0 t.ths).getD k (0,0)
def zTb (t:Tst) (od:V) (ws:List Bool) (fr:List Int):List V:=[.rp t.cs 0,.ro 2 (j3 (O0 0 t.ths)),od,.ro 1 (bVs ws),.ro 1 (iVs fr)]
def E8 (t:Tst) (od:V) (ws:List Bool) (fr:List Int) (x:V):List V:=[.rp t.cs 0,.ro 2 (j3 (O0 0 t.ths)),od,.ro 1 (bVs ws),.ro 1 (iVs fr),x]
structure SeaOk (t:Tst):Prop where
 ths:t.ths.length<=4
 len:∀ l∈t.ths,l.length<=8
 n8:nO t<=8
 locs:t.locs.length<=8
 loc:∀ k,k<nO t->0<=(opX t k).loc/\(opX t k).loc<t.locs.length
 ins:∀ l∈t.ths,∀ x∈l,InsOk x
 rds:∀ l∈t.ths,∀ x∈l,Xq_ x.op=true->0<=x.rd/\x.rd<8
 fen:∀ l∈t.ths,∀ x∈l,x.op=15->(x.pred=1\/x.pred=2\/x.pred=3)/\(x.succ=1\/x.succ=2\/x.succ=3)
theorem zni {t:Tst} {k:Nat} (hk:k<nO t):∃ l,((O0 0 t.ths)[k]?=some (opQ t k)/\∀ h,(O0 0 t.ths)[k]'h=opQ t k)/\((opQ t k).1<t.ths.length/\t.ths[(opQ t k).1]?=some l/\∀ h,t.ths[(opQ t k).1]'h=l)/\((opQ t k).2<l.length/\l[(opQ t k).2]?=some (opX t k)/\∀ h,l[(opQ t k).2]'h=opX t k):=by
 obtain ⟨l,h1,h2,h3,_⟩:=Cs.opAt (c:=⟨t,D5 t [] [],[]⟩) (k:=k) hk
 replace h1:(O0 0 t.ths)[k]?=some (opQ t k):=h1
 replace h2:t.ths[(opQ t k).1]?=some l:=h2
 replace h3:l[(opQ t k).2]?=some (opX t k):=h3
 obtain ⟨a1,a2⟩:=List.getElem?_eq_some_iff.1 h1
 obtain ⟨b1,b2⟩:=List.getElem?_eq_some_iff.1 h2
 obtain ⟨c1,c2⟩:=List.getElem?_eq_some_iff.1 h3
 exact ⟨l,⟨h1,fun _=>a2⟩,⟨b1,h2,fun _=>b2⟩,⟨c1,h3,fun _=>c2⟩⟩
theorem zE9 {α:Type} {f:α->V} (h:∀ a,(f a).pureE=true) (l:List α):(l.map f).all V.pureE=true:=by
 rw [all_eq_true];intro v hv;obtain ⟨a,_,rfl⟩:=List.mem_map.1 hv;exact h a
@[go_sem] theorem zjv (l:List Int):(iVs l).all V.pureE=true:=zE9 (fun _=>rfl) l
@[go_sem] theorem zjw (l:List Vl):(vls l).all V.pureE=true:=zE9 (fun _=>rfl) l
@[go_sem] theorem zjx (x:Ins):(V.agg x.cs).pureE=true:=rfl
@[go_sem] theorem zgw:zIy []=true:=rfl
@[go_sem] theorem zc6 (n sz:Nat) (es:List V) (H:A8):zIy ((n,.rows sz es)::H)=(es.all V.pureE&&zIy H):=by unfold zIy;rw [List.all_cons]
@[go_sem] theorem zjy (n i l:Nat):(V.sl n i l).pureE=true:=rfl
@[go_sem] theorem zgx (n i l:Nat):(V.ptr n i l).pureE=true:=rfl
@[go_sem] theorem zgy (x:Value):(V.val x).pureE=true:=rfl
theorem Vh_ (t:Tst) {f:FuncId} (ws:List Bool) (fr:List Int) (x:Value) (j:Nat):NL (.rp (E8 t (.fn (.func f) [] []) ws fr (.val x)) j) :=
 .rp (.cons (x5 t) (.cons (zSz _) (.cons (fun ι ι' O w cv h=>by
  cases h with
  | fn h1 h2=>cases h1;cases h2;exact .fn .nil .nil) (.cons (zSs _) (.cons (Qs_ _) (.cons (.val _) .nil))))))
theorem WP_ {t:Tst} {k m:Nat}:Jv_ t k (m+1)=if zGy t k m then Jv_ t k m++[(m:Int)] else Jv_ t k m:=by
 unfold Jv_
 rw [range_succ,filter_append,map_append]
 by_cases h:zGy t k m=true
 .rw [if_pos h];simp [h]
 rw [if_neg h];simp [h]
theorem zEa (t:Tst) (k m:Nat):(Jv_ t k m).length<=m+1:=by
 unfold Jv_
 rw [length_cons,length_map]
 have:=length_filter_le (zGy t k) (List.range m)
 rw [length_range] at this
 omega
def G5 (c:Cs) (kept po:Rl) (las:List Int):List V:=.rp c.cs 0::(B6 kept++(B6 po++iVs las))
section
variable {c:Cs} {kept po:Rl} {las:List Int}
theorem O4 (p:Rl):(B6 p).length=16:=by simp [B6]
@[go_sem high] theorem C1:F5 false 1 (G5 c kept po las) 0=.rp c.cs 0:=Eq.trans rfl rfl
@[go_sem high] theorem C2:F5 true 16 (G5 c kept po las) 1=.agg (B6 kept):=Eq.trans rfl rfl
@[go_sem high] theorem F1:F5 true 16 (G5 c kept po las) 17=.agg (B6 po):=Eq.trans rfl rfl
theorem C0 (hl:las.length=8):(G5 c kept po las).length=41:=by unfold G5 iVs;simp [O4,hl]
theorem B0 (c:Cs) (kept po:Rl) (las:List Int):(∀ x,x∈G5 c kept po las->x.one=true)=True:=eq_true fun x hx=>by
 rcases List.mem_cons.1 hx with rfl|hx
 .rfl
 rcases List.mem_append.1 hx with hx|hx
 .obtain ⟨a,_,rfl⟩:=List.mem_map.1 hx;rfl
 rcases List.mem_append.1 hx with hx|hx
 .obtain ⟨a,_,rfl⟩:=List.mem_map.1 hx;rfl
 obtain ⟨a,_,rfl⟩:=List.mem_map.1 hx;rfl
theorem B3 (hl:las.length=8):(V.agg (G5 c kept po las)).fits 41=true:=by
 rw [C9]
 exact ⟨C0 hl,fun x hx=>(B0 c kept po las).mpr trivial x hx⟩
theorem B1 (hl:las.length=8):(G5 c kept po las).take 41=G5 c kept po las:=take_of_length_le (by rw [C0 hl];omega)
theorem C4 (hl:las.length=8):F5 true 41 (G5 c kept po las) 0=.agg (G5 c kept po las):=by
 have:F5 true 41 (G5 c kept po las) 0=.agg (((G5 c kept po las).drop 0).take 41):=rfl
 rw [this,drop_zero,B1 hl]
theorem zYs (hl:las.length=8) {i:Nat} {x:Int} (h:las[i]?=some x):F5 false 1 (G5 c kept po las) (33+i)=iV x:=by
 rw [zI4]
 unfold G5
 rw [List.getD,show 33+i=(32+i)+1 by omega,List.getElem?_cons_succ,List.getElem?_append_right (by rw [O4];omega),O4,List.getElem?_append_right (by rw [O4];omega),O4,show 32+i-16-16=i by omega,zfs,h]
 rfl
theorem zEb {k':Rl}:B2 (.agg (G5 c kept po las)) 1 (.agg (B6 k'))=.agg (G5 c k' po las):=by
 have e:∀ (a:List V) (x:V) (r s:List V),a.length=16->s.length=16->B2 (.agg (x::(a++r))) 1 (.agg s)=.agg (x::(s++r)):=fun a x r s ha hs=>by
  simp [B2,V.cells,splice,hs,<-ha,Nat.add_comm 1]
 exact e _ _ _ _ (O4 _) (O4 _)
theorem zgz {k':Rl}:B2 (.agg (G5 c kept po las)) 17 (.agg (B6 k'))=.agg (G5 c kept k' las):=by
 have e:∀ (a b:List V) (x:V) (r s:List V),a.length=16->b.length=16->s.length=16->B2 (.agg (x::(a++(b++r)))) 17 (.agg s)=.agg (x::(a++(s++r))):=fun a b x r s ha hb hs=>by
  have h1:(x::(a++(b++r)))=(x::a)++(b++r):=rfl
  have h2:(x::a).length=17:=by simp [ha]
  simp only [B2,V.cells,splice]
  rw [h1]
  have t1:((x::a)++(b++r)).take 17=x::a:=by rw [take_append_of_le_length (by omega),take_of_length_le (by omega)]
  have t2:((x::a)++(b++r)).drop (17+s.length)=r:=by
   rw [hs,drop_append,drop_eq_nil_of_le (by omega),h2,drop_append,drop_eq_nil_of_le (by omega),hb];simp
  rw [t1,t2];simp
 exact e _ _ _ _ _ (O4 _) (O4 _) (O4 _)
theorem zYt (hl:las.length=8) {i:Nat} (hi:i<8) {n:Int}:B2 (.agg (G5 c kept po las)) (33+i) (iV n)=.agg (G5 c kept po (las.set i n)):=by
 have h1:G5 c kept po las=(.rp c.cs 0::(B6 kept++B6 po))++iVs las:=by simp [G5]
 have h1':G5 c kept po (las.set i n)=(.rp c.cs 0::(B6 kept++B6 po))++iVs (las.set i n):=by simp [G5]
 have h2:(V.rp c.cs 0::(B6 kept++B6 po)).length=33:=by simp [O4]
 simp only [B2,V.cells,splice]
 rw [h1,h1']
 generalize (V.rp c.cs 0::(B6 kept++B6 po))=a at *
 congr 1
 rw [take_append,take_of_length_le (by omega),drop_append,drop_eq_nil_of_le (by simp;omega),h2]
 have e:∀ (l:List V) (x:V) (j:Nat),j<l.length->l.take j++([x]++l.drop (j+1))=l.set j x:=fun l x j h=>by
  rw [set_eq_take_append_cons_drop,if_pos h];rfl
 have:=e (iVs las) (iV n) i (by rw [zXf];omega)
 rw [zAp] at this
 rw [<-this]
 simp [show 33+i-33=i by omega,show 33+i+1-33=i+1 by omega]
theorem zTc (c:Cs) (kept po:Rl) (las:List Int):NLs (G5 c kept po las):=fun v hv=>by
 rcases List.mem_cons.1 hv with rfl|hv
 .exact YF_ c
 rcases List.mem_append.1 hv with hv|hv
 .exact D9 _ v hv
 rcases List.mem_append.1 hv with hv|hv
 .exact D9 _ v hv
 obtain ⟨a,_,rfl⟩:=List.mem_map.1 hv;exact .val _
end
def rnC (r:Rn):List V:=.rp r.c.cs 0::(B6 r.co++(B6 r.ah++stK r.st))
theorem s6 {f g:Nat->Int} (h:∀ q,q<8->f q=g q):J0 f=J0 g:=map_congr_left fun q hq=>by rw [h q (List.mem_range.1 hq)]
theorem Uh_ (f:Nat->Int) {r:Nat} (h:r<8) (n:Int):B2 (.agg (J0 f)) r (uV n)=.agg (J0 fun q=>if q=r then n else f q):=by
 rcases lt8 h with rfl|rfl|rfl|rfl|rfl|rfl|rfl|rfl<;>rfl
def rgU (l:List (Nat->Vl)) (i r q x:Nat):Int:=if q<i\/(q=i/\x<r) then ((l.getD q fun _=>zV) x).v else 0
def rgT (l:List (Nat->Vl)) (i r:Nat):List (Nat->Int):=tab l.length fun q=>rgU l i r q
theorem zYu (l:List (Nat->Vl)) (i r:Nat):(rgT l i r).length=l.length:=U8 ..
theorem zBa {f g:Nat->Nat->Int} {n:Nat} (h:∀ q,q<n->∀ x,x<8->f q x=g q x):E1 (tab n f)=E1 (tab n g):=by
 unfold E1 tab
 rw [map_map,map_map]
 exact map_congr_left fun q hq=>by
  show V.agg (J0 (f q))=V.agg (J0 (g q))
  rw [s6 fun x hx=>h q (List.mem_range.1 hq) x hx]
theorem zQj (l:List (Nat->Vl)):E1 (rgT l 0 0)=List.replicate l.length (.agg (List.replicate 8 (uV 0))):=by
 unfold rgT E1 tab
 rw [map_map]
 apply ext_getElem (by simp)
 intro q h1 h2
 simp only [getElem_map,getElem_replicate,Function.comp]
 rw [s6 (g:=fun _=>0) fun x _=>by unfold rgU;rw [if_neg (by omega)]]
 rfl
theorem zYv {l:List (Nat->Vl)} {i:Nat}:E1 (rgT l i 8)=E1 (rgT l (i+1) 0):=zBa fun q _ x hx=>by
 unfold rgU
 by_cases h:q<i\/(q=i/\x<8)
 .rw [if_pos h,if_pos (by omega)]
 rw [if_neg h,if_neg (by omega)]
theorem zh0 {l:List (Nat->Vl)} {i r:Nat} (hi:i<l.length):(E1 (rgT l i r))[i]?=some (.agg (J0 (rgU l i r i))):=by rw [zJv,rgT,VR_ hi];rfl
theorem zYw {l:List (Nat->Vl)} {i r:Nat} {g:Nat->Vl} (hg:l[i]?=some g) (hr:r<8):(E1 (rgT l i r)).set i (.agg (J0 fun q=>if q=r then (g r).v else rgU l i r i q))=E1 (rgT l i (r+1)):=by
 have hi:=(List.getElem?_eq_some_iff.1 hg).1
 have e:(E1 (rgT l i r)).set i (.agg (J0 fun q=>if q=r then (g r).v else rgU l i r i q))=E1 ((rgT l i r).set i fun q=>if q=r then (g r).v else rgU l i r i q):=(map_set ..).symm
 rw [e,rgT,zJh]
 refine zBa fun q _ x hx=>?_
 unfold rgU
 by_cases e1:q=i
 .subst e1
  rw [if_pos rfl]
  by_cases e2:x=r
  .subst e2;rw [if_pos rfl,if_pos (by omega),List.getD,hg];rfl
  rw [if_neg e2]
  by_cases h:q<q\/(q=q/\x<r)
  .rw [if_pos h,if_pos (by omega)]
  rw [if_neg h,if_neg (by omega)]
 rw [if_neg e1]
 by_cases h:q<i\/(q=i/\x<r)
 .rw [if_pos h,if_pos (by omega)]
 rw [if_neg h,if_neg (by omega)]
theorem zYx (c:Cs):E1 (rgT c.f.regs c.f.regs.length 0)=E1 (Ws_ c):=by
 have:Ws_ c=tab c.f.regs.length fun q x=>((c.f.regs.getD q fun _=>zV) x).v:=by
  unfold Ws_
  apply List.ext_getElem?
  intro q
  by_cases h:q<c.f.regs.length
  .rw [VR_ h,List.getElem?_map,List.getD,List.getElem?_eq_getElem h];rfl
  rw [List.getElem?_eq_none (by simp;omega),List.getElem?_eq_none (by rw [U8];omega)]
 rw [this]
 exact zBa fun q hq x _=>by unfold rgU;rw [if_pos (.inl hq)]
def lcU (c:Cs) (las:List Int) (i q:Nat):Int:=if q<i then zKc c las q else 0
theorem zQk (c:Cs) (las:List Int):J0 (lcU c las 0)=List.replicate 8 (uV 0):=rfl
theorem zKu {c:Cs} {las:List Int} {i:Nat} {v:Int} (h:zKc c las i=v):J0 (fun q=>if q=i then v else lcU c las i q)=J0 (lcU c las (i+1)):=s6 fun q _=>by
 unfold lcU
 by_cases e:q=i
 .subst e;rw [if_pos rfl,if_pos (by omega),h]
 rw [if_neg e]
 by_cases h:q<i
 .rw [if_pos h,if_pos (by omega)]
 rw [if_neg h,if_neg (by omega)]
theorem zQl {c:Cs} {las:List Int} {i:Nat} {u v:Int} (h:zKc c las i=v):J0 (fun q=>if q=i then v else if q=i then u else lcU c las i q)=J0 (lcU c las (i+1)):=by
 rw [<-zKu h]
 refine s6 fun q _=>?_
 by_cases e:q=i
 .rw [if_pos e,if_pos e]
 rw [if_neg e,if_neg e,if_neg e]
theorem zYy (c:Cs) (las:List Int) (hl:c.t.locs.length<=8):J0 (lcU c las c.t.locs.length)=J0 fun q=>(Yu_ c las).getD q 0:=s6 fun q hq=>by
 unfold lcU Yu_
 rw [List.getD,List.getElem?_map,List.getElem?_range hq];rfl
theorem zYz {c:Cs} {las:List Int} {i:Nat} {n:Int} {x:Ini} (hn:las[i]?=some n) (h:¬ 0<n) (hx:c.t.locs[i]?=some x):zKc c las i=x.v:=by
 unfold zKc
 rw [show las.getD i 0=n by rw [List.getD,hn];rfl,if_neg h,List.getD,hx];rfl
theorem zQm {c:Cs} {las:List Int} {i m:Nat} {n:Int} {u:Vl} (hn:las[i]?=some n) (h:n=(m:Int)+1) (hu:c.f.f.write[m]?=some u):zKc c las i=u.v:=by
 unfold zKc
 rw [show las.getD i 0=n by rw [List.getD,hn];rfl,if_pos (by omega),show (n-1).toNat=m by omega,List.getD,hu];rfl
theorem zZ0 (p:Rl):(decide (0<(Jt_ p 16:Int)))=zGz p:=by
 have key:∀ n,n<=16->(0<Jt_ p n↔∃ a b,a<n/\b<16/\p a b=true):=fun n=>by
  induction n with
  | zero =>
   intro _
   constructor
   .intro h;exact absurd h (by simp [Jt_])
   rintro ⟨a,_,h,_⟩;omega
  | succ n ih =>
   intro hn
   have ih:=ih (by omega)
   have hpos:0<QZ_ (F3 (p n))↔∃ b,b<16/\p n b=true:=by
    constructor
    .intro h
     by_cases e:∃ b,b<16/\p n b=true
     .exact e
     have:F3 (p n)=0:=F2.2 fun i hi=>by
      cases h9:p n i with
      | false=>rfl
      | true=>exact absurd ⟨i,hi,h9⟩ e
     rw [this,o8] at h;omega
    rintro ⟨b,hb,hp⟩
    have h0:F3 (p n)≠0:=fun e=>by rw [F2.1 e b hb] at hp;cases hp
    have:=Qa_ (F3 (p n)) (by omega)
    omega
   show 0<Jt_ p n+QZ_ (F3 (p n))↔_
   constructor
   .intro h
    by_cases h1:0<Jt_ p n
    .obtain ⟨a,b,h2,h3,h4⟩:=ih.1 h1
     exact ⟨a,b,by omega,h3,h4⟩
    obtain ⟨b,h3,h4⟩:=hpos.1 (by omega)
    exact ⟨n,b,by omega,h3,h4⟩
   rintro ⟨a,b,h2,h3,h4⟩
   by_cases e:a=n
   .subst e;have:=hpos.2 ⟨b,h3,h4⟩;omega
   have:=ih.2 ⟨a,b,by omega,h3,h4⟩;omega
 rw [Bool.eq_iff_iff,decide_eq_true_eq,zGz,G2]
 have hk:=key 16 (Nat.le_refl _)
 constructor
 .intro h
  obtain ⟨a,b,h2,h3,h4⟩:=hk.1 (by omega)
  exact ⟨a,h2,G2.2 ⟨b,h3,h4⟩⟩
 rintro ⟨a,h2,h⟩
 obtain ⟨b,h3,h4⟩:=G2.1 h
 have:=hk.2 ⟨a,b,h2,h3,h4⟩
 omega
def chU (l:List Nat) (i c x y:Nat):Bool:=((List.range i).any fun p=>decide (l.getD p 0=x)&&decide (y∈l.drop (p+1)))||(decide (l.getD i 0=x)&&decide (y∈(l.drop (i+1)).take c))
theorem JH_:∀ (l:List Nat) (x y:Nat),UZ_ l x y=(List.range l.length).any fun p=>decide (l.getD p 0=x)&&decide (y∈l.drop (p+1))
 | [],_,_=>rfl
 | a::l,x,y=>by
  unfold UZ_
  rw [JH_ l x y,length_cons,range_succ_eq_map,any_cons,any_map]
  rfl
theorem zQn (l:List Nat):B6 (chU l 0 0)=B6 fun _ _=>false:=C3 fun x y=>by simp [chU]
theorem zQo {l:List Nat} {i c a b:Nat} (ha:l[i]?=some a) (hb:(l.drop (i+1))[c]?=some b):B6 (fun x y=>chU l i c x y||(decide ((x:Int)=(a:Nat))&&decide ((y:Int)=(b:Nat))))=B6 (chU l i (c+1)):=C3 fun x y=>by
 unfold chU
 rw [N6 hb,List.getD,ha]
 rw [Bool.eq_iff_iff]
 simp only [Option.getD_some,Bool.or_eq_true,Bool.and_eq_true,decide_eq_true_eq,mem_append,mem_singleton]
 constructor
 .rintro ((h|⟨h1,h2⟩)|⟨h1,h2⟩)
  .exact .inl h
  .exact .inr ⟨h1,.inl h2⟩
  exact .inr ⟨by omega,.inr (by omega)⟩
 rintro (h|⟨h1,h2|h2⟩)
 .exact .inl (.inl h)
 .exact .inl (.inr ⟨h1,h2⟩)
 exact .inr ⟨by omega,by omega⟩
theorem zZ1 {l:List Nat} {i a:Nat} (ha:l[i]?=some a):B6 (chU l i (l.length-(i+1)))=B6 (chU l (i+1) 0):=C3 fun x y=>by
 unfold chU
 rw [range_succ,any_append,take_of_length_le (by rw [length_drop];omega)]
 simp
theorem zZ2 (l:List Nat):B6 (chU l l.length 0)=B6 (UZ_ l):=C3 fun x y=>by
 rw [JH_]
 unfold chU
 simp
def zKv (kept:Rl) (c:Cs) (f loc:Nat) (las:List Int) (co:Rl):List Rn:=(zNl c f loc las co).flatMap fun p=>Jw_ kept c p.1 p.2
def zGa (kept:Rl) (c:Cs) (f loc:Nat) (las:List Int) (co:Rl) (m:Nat) (ahead left:List Nat):List Rn:=(zKb m ahead left).flatMap fun p=>zKv kept c f (loc+1) (zB2 las loc p) fun a b=>co a b||UZ_ p a b
theorem zKw (kept:Rl) (c:Cs) (loc:Nat) (las:List Int) (co:Rl):zKv kept c 0 loc las co=Jw_ kept c las co:=by simp [zKv,zNl]
theorem zKx (kept:Rl) (c:Cs) (f loc:Nat) (las:List Int) (co:Rl):zKv kept c (f+1) loc las co=zGa kept c f loc las co (j6 c loc c.n).length [] (j6 c loc c.n):=by
 unfold zKv zGa zNl
 rw [flatMap_assoc]
 rfl
theorem zKy (kept:Rl) (c:Cs) (f loc:Nat) (las:List Int) (co:Rl) (ahead left:List Nat):zGa kept c f loc las co 0 ahead left=zKv kept c f (loc+1) (zB2 las loc ahead) fun a b=>co a b||UZ_ ahead a b:=by simp [zGa,zKb]
def zBb (kept:Rl) (c:Cs) (f loc:Nat) (las:List Int) (co:Rl) (m:Nat) (ahead left:List Nat) (i:Nat):List Rn:=(List.range i).flatMap fun i=>zGa kept c f loc las co m (ahead++[left.getD i 0]) (left.eraseIdx i)
theorem JI_ (kept:Rl) (c:Cs) (f loc:Nat) (las:List Int) (co:Rl) (m:Nat) (ahead left:List Nat):zGa kept c f loc las co (m+1) ahead left=zBb kept c f loc las co m ahead left left.length:=by
 unfold zBb zGa
 rw [zKb,flatMap_assoc]
theorem JJ_ {kept:Rl} {c:Cs} {f loc:Nat} {las:List Int} {co:Rl} {m:Nat} {ahead left:List Nat} {i a:Nat} (h:left[i]?=some a):zBb kept c f loc las co m ahead left (i+1)=zBb kept c f loc las co m ahead left i++zGa kept c f loc las co m (ahead++[a]) (left.take i++left.drop (i+1)):=by
 unfold zBb
 rw [range_succ,flatMap_append]
 simp [List.getD,h,eraseIdx_eq_take_drop_succ]
theorem zQp {kept:Rl} {c:Cs} {f loc:Nat} {las:List Int} {co:Rl} {m:Nat} {ahead left:List Nat} {i:Nat} (hi:i<=left.length) {r:Rn} (h:r∈zBb kept c f loc las co m ahead left i):r∈zGa kept c f loc las co (m+1) ahead left:=by
 rw [JI_]
 unfold zBb at h ⊢
 obtain ⟨q,hq,h⟩:=List.mem_flatMap.1 h
 exact List.mem_flatMap.2 ⟨q,List.mem_range.2 (by have:=List.mem_range.1 hq;omega),h⟩
theorem zKz (c:Cs) (loc m:Nat):(j6 c loc m).length<=m:=by
 unfold j6
 have:=length_filter_le (fun k=>c.wr k&&decide ((c.x k).loc=(loc:Nat))) (List.range m)
 rwa [length_range] at this
theorem JK_ {c:Cs} {loc m:Nat}:j6 c loc (m+1)=if c.wr m&&decide ((c.x m).loc=(loc:Nat)) then j6 c loc m++[m] else j6 c loc m:=by
 unfold j6
 rw [range_succ,filter_append]
 by_cases h:(c.wr m&&decide ((c.x m).loc=(loc:Nat)))=true
 .rw [if_pos h];simp [h]
 rw [if_neg h];simp [h]
theorem zh1 {kept:Rl} {c:Cs} {las:List Int} {co:Rl} (hm:∀ g f,(T4 c.t g f).length=41) {r:Rn} (h:r∈Jw_ kept c las co):r.st.length=41:=by
 unfold Jw_ at h
 split at h
 .cases h
 cases List.mem_singleton.1 h;exact hm _ _
theorem zZ3 {ord:Cs->Rl} {t:Tst} (hm:∀ g f,(T4 t g f).length=41) {r:Rn} (h:r∈j7 ord t):r.st.length=41:=by
 unfold j7 at h
 obtain ⟨w,_,h⟩:=List.mem_flatMap.1 h
 obtain ⟨fr,_,h⟩:=List.mem_flatMap.1 h
 unfold WG_ at h
 split at h
 .cases h
 obtain ⟨p,_,h⟩:=List.mem_flatMap.1 h
 exact zh1 (c:=⟨t,_,fr⟩) hm h
attribute [go_sem] Uf_
@[go_sem] theorem znj (l:List (List Int)) (i:Nat) (h:i<(stR l).length):(stR l)[i]=.agg (stK (l[i]'(by simpa [stR] using h))):=by simp [stR]
@[go_sem] theorem stR_get? (l:List (List Int)) (i:Nat):(stR l)[i]?=(l[i]?).map fun k=>.agg (stK k):=by simp [stR]
theorem WQ_ (l:List (List Int)):NL (.ro 41 (stR l)):=.ro fun v hv=>by obtain ⟨k,_,rfl⟩:=List.mem_map.1 hv;exact VT_ k
theorem znk (f:Fn):NL (.fn f [] []):=fun _ _ _ _ _ h=>by cases h with|fn h1 h2=>cases h1;cases h2;exact .fn .nil .nil
theorem zh2 (a b:Nat) (h:a+b<4611686018427387904):IntKind.i64.wrap (zPi (IntKind.u64.wrap (IntKind.i64.wrap ((a:Int)+(b:Int)))) 1)=((a+b) / 2:Nat):=by
 rw [E4 (x:=(a:Int)+(b:Int)) (by omega) (by omega),zCm (x:=(a:Int)+(b:Int)) (by omega) (by omega)]
 have:zPi ((a:Int)+(b:Int)) 1=((a+b) / 2:Nat):=by
  simp only [zPi]
  rw [show (2:Int) ^ (min (1:Int).toNat 64)=2 by rfl,Int.fdiv_eq_ediv_of_nonneg _ (by omega)]
  omega
 rw [this,E4 (by omega) (by omega)]
def zh3 (x:List Int) (l:List (List Int)):Nat:=(l.filter fun y=>ltL y x).length
theorem zBc {x:List Int}:∀ {l:List (List Int)} {n:Nat},n<=l.length->(∀ i q,i<n->l[i]?=some q->ltL q x=true)->(∀ i q,n<=i->l[i]?=some q->ltL q x=false)->zh3 x l=n
 | [],n,hn,_,_=>by simp at hn;subst hn;rfl
 | y::l,0,_,_,h=>by
  have h0:=h 0 y (Nat.le_refl _) rfl
  have:=zBc (l:=l) (n:=0) (Nat.zero_le _) (fun i q hi=>absurd hi (by omega)) (fun i q _ hq=>h (i+1) q (Nat.zero_le _) hq)
  simp only [zh3,filter_cons,h0] at this ⊢
  simpa using this
 | y::l,n+1,hn,h1,h=>by
  have h0:=h1 0 y (by omega) rfl
  have:=zBc (l:=l) (n:=n) (by simpa using hn) (fun i q hi hq=>h1 (i+1) q (by omega) hq) (fun i q hi hq=>h (i+1) q (by omega) hq)
  simp only [zh3,filter_cons,h0] at this ⊢
  simpa using this
theorem WR_ {l:List (List Int)} (hr:S9 l) {i j:Nat} (hij:i<j) {p q:List Int} (hp:l[i]?=some p) (hq:l[j]?=some q):ltL p q=true:=by
 obtain ⟨h1,rfl⟩:=List.getElem?_eq_some_iff.1 hp
 obtain ⟨h2,rfl⟩:=List.getElem?_eq_some_iff.1 hq
 exact List.pairwise_iff_getElem.1 hr i j h1 h2 hij
theorem zL0 {x:List Int} {l:List (List Int)} (hr:S9 l) {n:Nat} (h1:∀ i q,i<n->l[i]?=some q->ltL q x=true) (h2:∀ i q,n<=i->l[i]?=some q->ltL q x=false):x∈l↔l[n]?=some x:=by
 constructor
 .intro h
  obtain ⟨i,hi,rfl⟩:=List.mem_iff_getElem.1 h
  have hg:l[i]?=some l[i]:=List.getElem?_eq_getElem hi
  have hni:¬ i<n:=fun hh=>by have:=h1 i _ hh hg;rw [X8_] at this;cases this
  rcases Nat.lt_or_ge n i with hh|hh
  .have hn:l[n]?=some (l[n]'(by omega)):=List.getElem?_eq_getElem (by omega)
   have:=WR_ hr hh hn hg
   rw [h2 n _ (Nat.le_refl _) hn] at this;cases this
  obtain rfl:i=n:=by omega
  exact hg
 exact fun h=>List.mem_of_getElem? h
def zBd (x:List Int) (l:List (List Int)) (a b:Nat):Prop:=a<=b/\b<=l.length/\(∀ i q,i<a->l[i]?=some q->ltL q x=true)/\(∀ i q,b<=i->l[i]?=some q->ltL q x=false)
theorem zQq {x:List Int} {l:List (List Int)} (hr:S9 l) {a b m:Nat} (h:zBd x l a b) (hm:a<=m) (hmb:m<b) {q:List Int} (hq:l[m]?=some q) (hlt:ltL q x=true):zBd x l (m+1) b:=by
 refine ⟨hmb,h.2.1,fun i p hi hp=>?_,h.2.2.2⟩
 rcases Nat.lt_or_ge i m with hh|hh
 .exact Z7 (WR_ hr hh hp hq) hlt
 obtain rfl:i=m:=by omega
 rw [hp] at hq;cases hq;exact hlt
theorem zQr {x:List Int} {l:List (List Int)} (hr:S9 l) {a b m:Nat} (h:zBd x l a b) (hm:a<=m) (hmb:m<b) {q:List Int} (hq:l[m]?=some q) (hlt:ltL q x=false):zBd x l a m:=by
 refine ⟨hm,by have:=h.2.1;omega,h.2.2.1,fun i p hi hp=>?_⟩
 rcases Nat.lt_or_ge m i with hh|hh
 .cases hpx:ltL p x with
  | false=>rfl
  | true=>rw [Z7 (WR_ hr hh hq hp) hpx] at hlt;cases hlt
 obtain rfl:i=m:=by omega
 rw [hp] at hq;cases hq;exact hlt
theorem JL_ {x:List Int} {l:List (List Int)} {a:Nat} (h:zBd x l a a):zh3 x l=a:=zBc h.2.1 h.2.2.1 h.2.2.2
theorem JM_ {x:List Int} {l:List (List Int)} (hr:S9 l) {a:Nat} (h:zBd x l a a):(x∈l)=(l[a]?=some x):=propext (zL0 hr h.2.2.1 h.2.2.2)
theorem zL1 (l:List (List Int)) (h41:∀ q∈l,q.length=41) (hr:S9 l) (hl:l.length<=400000000000) (x:List Int) (hx41:x.length=41):Pf Tryz.prog 120 [.ro 41 (stR l),.agg (stK x),.fn (.func 108) [] []] (.tup [iV (zh3 x l:Nat),bV (decide (x∈l))]):=by
 refine Pf.of_fn (.cons (WQ_ l) (.cons (.agg (VT_ x)) (.cons (znk _) .nil))) (.tup (.cons (.val _) (.cons (.val _) .nil))) ?_
 have hxl:(stK x).length=41:=(Y2 x).trans hx41
 have hxt:List.take 41 (stK x)=stK x:=take_of_length_le (by omega)
 have hxo:=YK_ x
 refine B7 T_ok func120 rfl rfl ntmps120 rfl (by simp) ?_
 refine rK fun K hK=>?_
 simp [go_sem,hxl]
 refine ⟨hxo,?_⟩
 apply hK
 refine rG ?_
 refine rG ?_
 refine A3 fun K1 hK1=>?_
 apply A0
 refine A9 (α:=Nat × Nat × Nat) (fun a=>⟨49,[(0,.ro 41 (stR l)),(2,.fn (.func 108) [] []),(4,.ptr 0 0 0),(8,iV (l.length:Nat)),(9,iV (a.1:Nat)),(10,iV (a.2.1:Nat))],[(0,.rows 41 [.agg (stK x)])],a.2.2+1⟩) (fun a=>zBd x l a.1 a.2.1) (fun a=>a.2.1-a.1) (0,l.length,0) ?_ ?_ ?_
 .exact ⟨Nat.zero_le _,Nat.le_refl _,fun i q hi=>absurd hi (by omega),fun i q hi hq=>by rw [List.getElem?_eq_none hi] at hq;cases hq⟩
 .refine Weaker.fw 1 0 ?_ ?_<;>simp [go_sem]
 rintro ⟨a,b,j⟩ hsp
 dsimp only at hsp ⊢
 have hsp1:=hsp.1
 have hsp2:=hsp.2.1
 refine A3 fun K2 hK2=>?_
 refine rG ?_
 refine cJ (fun h=>?_) fun h=>?_
 .simp at h
  obtain rfl:a=b:=by omega
  apply A6
  apply hK1
  refine dK 15 [[],[],[],[1,2],[1,2,3],[1,2,3,4],[1,2,3,4],[1,2,3,4],[1,2,3,4,6,7],[1,2,3,4,6,7,8],[1,2,3,4],[1,2,3,4,5,6,7,8,9,10],[1,2,3,4,5,6,7,8,9,10,11],[1,2,3,4,5,6,7,8,9,10,11,12],[0,1,2,3,4,5,6,7,8,9,10,11],[0,1,2,3,4,5,6,7,8,9,10,11,12,13,14]] fun K hK=>?_
  first|dsimp only [List.take,List.drop]|dsimp [List.take,List.drop]
  rcases Nat.lt_or_ge a l.length with hh|hh
  .obtain ⟨q,hq,hq'⟩:=E0 hh
   have hhI:(a:Int)<(l.length:Nat):=by omega
   have hh0:(0:Int)<=(a:Nat):=by omega
   have hql:(stK q).length=41:=(Y2 q).trans (h41 q (List.mem_of_getElem? hq))
   have hqo:∀ x∈stK q,x.one=true:=YK_ q
   have hqt:List.take 41 (stK q)=stK q:=take_of_length_le (by omega)
   simp [go_sem,hq,hq',hhI,hh0,hh,hxl,hxt,hxo,hql,hqt,hqo]
   refine A5 (YA_ q x (h41 q (List.mem_of_getElem? hq)) hx41) ?_
   simp [go_sem,hq,hq',hhI,hh0,hh,hxl,hxt,hxo,hql,hqt,hqo]
   apply hK
   refine A4 ?_
   have hc:(v6 q x==0)=decide (q=x):=by
    rw [Bool.eq_iff_iff]
    simp
    exact ⟨X7_,fun h=>by rw [h];exact X6_ x⟩
   simp [go_sem,JL_ hsp,JM_ hr hsp,hq,hc]
  have hhI:¬ (a:Int)<(l.length:Nat):=by omega
  have hhn:¬ a<l.length:=by omega
  have hq:l[a]?=none:=List.getElem?_eq_none hh
  simp [go_sem,hhI,hhn]
  apply hK
  refine A4 ?_
  simp [go_sem,JL_ hsp,JM_ hr hsp,hq]
 simp at h
 have hab:a<b:=by omega
 clear h
 have hmid:=zh2 a b (by omega)
 obtain ⟨m,hm⟩:∃ m,(a+b) / 2=m:=⟨_,rfl⟩
 rw [hm] at hmid
 have hm1:a<=m/\m<b:=by omega
 clear hm
 have hh:m<l.length:=by omega
 obtain ⟨q,hq,hq'⟩:=E0 hh
 have hhI:(m:Int)<(l.length:Nat):=by omega
 have hh0:(0:Int)<=(m:Nat):=by omega
 have hw:=wI m
 have hql:(stK q).length=41:=(Y2 q).trans (h41 q (List.mem_of_getElem? hq))
 have hqo:∀ x∈stK q,x.one=true:=YK_ q
 have hqt:List.take 41 (stK q)=stK q:=take_of_length_le (by omega)
 apply A1
 apply hK2
 apply A0
 refine rG ?_ fun K h=>by simp [go_sem,hmid];exact h
 refine dK 6 [[],[],[],[1,2],[1,2,3],[],[0,1,2,3,4,5],[0,1,2,3,4,5,6]] fun K hK=>?_
 first|dsimp only [List.take,List.drop]|dsimp [List.take,List.drop]
 simp [go_sem,hq,hq',hhI,hh0,hh,hxl,hxt,hxo,hql,hqt,hqo]
 refine A2 (YA_ q x (h41 q (List.mem_of_getElem? hq)) hx41) ?_
 simp [go_sem]
 apply hK
 refine cK (fun h=>?_) fun h=>?_
 .have hlt:ltL q x=true:=by simpa [ltL] using h
  refine rF ?_ fun K h=>by simp [go_sem,hw];exact h
  refine ⟨(m+1,b,j+6),?_,?_,?_⟩
  .dsimp only;exact zQq hr hsp (by omega) (by omega) hq hlt
  .dsimp only;omega
  refine Weaker.fw 1 0 ?_ ?_<;>simp [go_sem]
 have hlt:ltL q x=false:=by simpa [ltL] using h
 refine rF ?_
 refine ⟨(a,m,j+6),?_,?_,?_⟩
 .dsimp only;exact zQr hr hsp (by omega) (by omega) hq hlt
 .dsimp only;omega
 refine Weaker.fw 1 0 ?_ ?_<;>simp [go_sem]
theorem JN_ (l:List (List Int)) (h41:∀ q∈l,q.length=41) (hr:S9 l) (hl:l.length<=400000000000) (x:List Int) (hx41:x.length=41):Pf Tryz.prog 66 [.ro 41 (stR l),.agg (stK x)] (bV (decide (x∈l))):=by
 refine Pf.of_fn (.cons (WQ_ l) (.cons (.agg (VT_ x)) .nil)) (.val _) ?_
 have hxl:(stK x).length=41:=(Y2 x).trans hx41
 have hxt:List.take 41 (stK x)=stK x:=take_of_length_le (by omega)
 have hxo:=YK_ x
 refine B7 T_ok func66 rfl rfl ntmps66 rfl (by simp) ?_
 refine rK fun K hK=>?_
 simp [go_sem,hxl]
 refine ⟨hxo,?_⟩
 apply hK
 refine rK fun K hK=>?_
 simp [go_sem,hxl,hxt]
 refine A2 (zL1 l h41 hr hl x hx41) ?_
 simp [go_sem]
 apply hK
 refine rG ?_
 refine A4 ?_
 simp [go_sem]
theorem zL2 (s:List (List Int)) (hs41:∀ q∈s,q.length=41) (hsl:s.length<=400000000000) (l:List (List Int)) (h41:∀ q∈l,q.length=41) (hr:S9 l) (hl:l.length<=400000000000):Pf Tryz.prog 36 [.ro 41 (stR s),.ro 41 (stR l)] (bV (decide (∀ x∈s,x∈l))):=by
 refine Pf.of_fn (.cons (WQ_ s) (.cons (WQ_ l) .nil)) (.val _) ?_
 refine B7 T_ok func36 rfl rfl ntmps36 rfl (by simp) ?_
 refine rG ?_
 refine A3 fun K1 hK1=>?_
 refine rG ?_
 apply A0
 refine A9 (α:=Nat × Nat) (fun a=>⟨18,[(1,.ro 41 (stR l)),(7,.ro 41 (stR s)),(8,iV (s.length:Nat)),(9,iV (a.1:Nat))],[],a.2⟩) (fun a=>a.1<=s.length/\∀ i q,i<a.1->s[i]?=some q->q∈l) (fun a=>s.length-a.1) (0,0) ?_ ?_ ?_
 .exact ⟨Nat.zero_le _,fun i q hi=>absurd hi (Nat.not_lt_zero _)⟩
 .refine Weaker.fw 1 0 ?_ ?_<;>simp [go_sem]
 rintro ⟨i,j⟩ ⟨hi,hall⟩
 dsimp only at hi hall ⊢
 refine rG ?_
 refine A3 fun K2 hK2=>?_
 refine cJ (fun h=>?_) fun h=>?_
 .simp at h
  obtain rfl:i=s.length:=by omega
  clear h
  apply A6
  apply hK1
  refine rG ?_
  refine A4 ?_
  have hy:∀ x∈s,x∈l:=fun x hx=>by obtain ⟨i,hi,rfl⟩:=List.mem_iff_getElem.1 hx;exact hall i _ hi (List.getElem?_eq_getElem hi)
  simp [go_sem]
  exact hy
 simp at h
 have hI:=h
 clear h
 have h':i<s.length:=by omega
 obtain ⟨x,hx,hx'⟩:=E0 h'
 have hi0:(0:Int)<=(i:Nat):=by omega
 have hw:=wI i
 have hq41:=hs41 x (List.mem_of_getElem? hx)
 have hxl:(stK x).length=41:=(Y2 x).trans hq41
 have hxt:List.take 41 (stK x)=stK x:=take_of_length_le (by omega)
 have hxo:=YK_ x
 apply A1
 apply hK2
 refine A3 fun K3 hK3=>?_
 apply A0
 refine rK fun K hK=>?_
 simp [go_sem,hI,hi0,h',hx,hx',hxl,hxt]
 refine ⟨hxo,?_⟩
 apply hK
 refine rK fun K hK=>?_
 simp [go_sem,hxl,hxt]
 refine A2 (JN_ l h41 hr hl x hq41) ?_
 simp [go_sem]
 apply hK
 refine cK (fun h=>?_) fun h=>?_
 .have hm:x∉l:=by simpa using h
  refine rG ?_
  refine A4 ?_
  have hn:¬ ∀ x∈s,x∈l:=fun h=>hm (h x (List.mem_of_getElem? hx))
  simp [go_sem,hn]
 have hm:x∈l:=by simpa using h
 apply A1
 apply hK3
 refine rF ?_ fun K h=>by simp [go_sem,hw];exact h
 refine ⟨(i+1,j+1),?_,?_,?_⟩
 .dsimp only;exact ⟨by omega,fun i2 q2 h2 hq2=>by rcases Nat.lt_or_ge i2 i with h|h;exact hall i2 q2 h hq2;obtain rfl:i2=i:=(by omega);rw [hx] at hq2;cases hq2;exact hm⟩
 .dsimp only;omega
 refine Weaker.fw 1 0 ?_ ?_<;>simp [go_sem]
abbrev Mem:=Nat->Int
def bare (h:Thr) (m:Mem):Thr × Mem:=({ h with bf:=[] },Yy_ h.bf m)
def zrd (p s:Int):Ins:={ op:=15,rd:=0,loc:=0,aR:=false,aN:=0,bR:=false,bN:=0,acq:=false,rel:=false,dep:=0,pred:=p,succ:=s,skip:=0 }
def zh4 (x:Ins):Ins:=if x.op=15/\(x.pred=1\/x.succ=2) then zrd 1 1 else { x with acq:=false,rel:=false,dep:=0 }
section
variable {t:Tst} {j a:Nat} (hj:j<t.ths.length) (ha:a<=(lth t j).length)
include hj
include ha
variable (ht:TTOk t) (h7:(lth t j).length<=7)
include ht h7
end
def Ui_ (t:Tst):Prop:=∀ (i p:Nat) (x:Ins),(lth t i)[p]?=some x->x.op≠13/\x.op≠14
theorem zGb {t:Tst} (h:R4 t.ths=false):Ui_ t:=by
 intro i p x hx
 have hi:i<t.ths.length:=by
  by_cases hi:i<t.ths.length
  .exact hi
  rw [zKh (by omega)] at hx;cases hx
 unfold R4 at h
 rw [any_eq_false] at h
 have h1:=h _ (List.mem_of_getElem? (V5 hi))
 rw [Bool.not_eq_true,any_eq_false] at h1
 have h2:=h1 x (List.mem_of_getElem? hx)
 unfold Yd_ at h2
 simp at h2
 exact h2
section
variable {k:List Int} {i:Nat}
end
theorem V7 {x:Int} (h:-128<=x) (h':x<=127):IntKind.i8.wrap x=x:=by simp [IntKind.wrap,IntKind.bits,IntKind.signed];omega
theorem zZ4 {x:Ins} (h:x.op=15->(1<=x.pred/\x.pred<=3)/\(1<=x.succ/\x.succ<=3)):x.op≠15\/(x.op=15/\x.pred=1/\x.succ=1)\/(x.op=15/\x.pred=1/\x.succ=2)\/(x.op=15/\x.pred=1/\x.succ=3)\/(x.op=15/\x.pred=2/\x.succ=1)\/(x.op=15/\x.pred=2/\x.succ=2)\/(x.op=15/\x.pred=2/\x.succ=3)\/(x.op=15/\x.pred=3/\x.succ=1)\/(x.op=15/\x.pred=3/\x.succ=2)\/(x.op=15/\x.pred=3/\x.succ=3):=by
 by_cases ho:x.op=15
 .have:=h ho;omega
 exact .inl ho
theorem zNp {K:V->Prop}:L3 .and .i64 1 2 K=K (.val (.int .i64 0)):=by rfl
theorem zNq {K:V->Prop}:L3 .and .i64 1 1 K=K (.val (.int .i64 1)):=by rfl
theorem zNr {K:V->Prop}:L3 .and .i64 2 2 K=K (.val (.int .i64 2)):=by rfl
theorem zNs {K:V->Prop}:L3 .and .i64 2 1 K=K (.val (.int .i64 0)):=by rfl
theorem zNt {K:V->Prop}:L3 .and .i64 3 2 K=K (.val (.int .i64 2)):=by rfl
theorem zNu {K:V->Prop}:L3 .and .i64 3 1 K=K (.val (.int .i64 1)):=by rfl
def W5_ (k:List Int) (i:Nat) (loc:Int):Nat->Int
 | 0=>gt k (104+loc.toNat)
 | n+1=>if gt k (i*26+10+n*2)=loc then gt k (i*26+10+n*2+1) else W5_ k i loc n
theorem JO_ (x:Ins) (h:x.op=15->(1<=x.pred/\x.pred<=3)/\(1<=x.succ/\x.succ<=3)):Pf Tryz.prog 126 [.agg x.cs] (bV (drB x)):=by
 refine Pf.of_fn (.cons (.agg (y5 x)) .nil) (.val _) ?_
 refine B7 T_ok func126 rfl rfl ntmps126 rfl (by simp) ?_
 refine rG ?_
 refine rK fun K hK=>?_
 rcases zZ4 h with hop|⟨hop,hp,hs⟩|⟨hop,hp,hs⟩|⟨hop,hp,hs⟩|⟨hop,hp,hs⟩|⟨hop,hp,hs⟩|⟨hop,hp,hs⟩|⟨hop,hp,hs⟩|⟨hop,hp,hs⟩|⟨hop,hp,hs⟩
 .have hp:=True.intro
  have hs:=True.intro
  simp [go_sem,hop]
  apply hK
  refine A4 ?_
  simp [go_sem,drB,hop,hp,hs]
 .simp [go_sem,hop,hp,hs,zNp,zNr,zNt,zNq,zNs,zNu]
  apply hK
  refine A4 ?_
  simp [go_sem,drB,hop,hp,hs]
 .simp [go_sem,hop,hp,hs,zNp,zNr,zNt,zNq,zNs,zNu]
  apply hK
  refine A4 ?_
  simp [go_sem,drB,hop,hp,hs]
 .simp [go_sem,hop,hp,hs,zNp,zNr,zNt,zNq,zNs,zNu]
  apply hK
  refine A4 ?_
  simp [go_sem,drB,hop,hp,hs]
 .simp [go_sem,hop,hp,hs,zNp,zNr,zNt,zNq,zNs,zNu]
  apply hK
  refine A4 ?_
  simp [go_sem,drB,hop,hp,hs]
 .simp [go_sem,hop,hp,hs,zNp,zNr,zNt,zNq,zNs,zNu]
  apply hK
  refine A4 ?_
  simp [go_sem,drB,hop,hp,hs]
 .simp [go_sem,hop,hp,hs,zNp,zNr,zNt,zNq,zNs,zNu]
  apply hK
  refine A4 ?_
  simp [go_sem,drB,hop,hp,hs]
 .simp [go_sem,hop,hp,hs,zNp,zNr,zNt,zNq,zNs,zNu]
  apply hK
  refine A4 ?_
  simp [go_sem,drB,hop,hp,hs]
 .simp [go_sem,hop,hp,hs,zNp,zNr,zNt,zNq,zNs,zNu]
  apply hK
  refine A4 ?_
  simp [go_sem,drB,hop,hp,hs]
 simp [go_sem,hop,hp,hs,zNp,zNr,zNt,zNq,zNs,zNu]
 apply hK
 refine A4 ?_
 simp [go_sem,drB,hop,hp,hs]
theorem V8 (k:List Int) (hk:k.length=112) (i:Nat) (hi:i<4) (r:Bool) (n:Int) (hn:r=true->0<=n/\n<8):Pf Tryz.prog 128 [.rp (mV k) (i*26),.agg [bV r,uV n]] (uV (UT_ k i r n)):=by
 refine Pf.of_fn (.cons (.rp (zY5 k)) (.cons (.agg (.cons (.val _) (.cons (.val _) .nil))) .nil)) (.val _) ?_
 refine B7 T_ok func128 rfl rfl ntmps128 rfl (by simp) ?_
 refine rG ?_
 refine A3 fun K1 hK1=>?_
 refine rG ?_
 refine cJ (fun h=>?_) fun h=>?_
 .have hr:r=false:=by simpa using h
  apply A1
  apply hK1
  refine rG ?_
  refine A4 ?_
  simp [go_sem,UT_,hr]
 have hr:r=true:=by simpa using h
 obtain ⟨h0,h8⟩:=hn hr
 obtain ⟨m,rfl⟩:∃ m:Nat,n=m:=⟨n.toNat,by omega⟩
 have hm:m<8:=by omega
 have hmI:(m:Int)<8:=by omega
 refine dK 5 [[],[],[1],[0],[0,3],[0,1,2,3,4],[0,1,2,3,4,5],[0,1,2,3,4,5,6]] fun K hK=>?_
 first|dsimp only [List.take,List.drop]|dsimp [List.take,List.drop]
 simp [go_sem,hm,hmI,D0 hk,zga hk hi hm]
 refine ⟨by omega,?_⟩
 apply hK
 refine A4 ?_
 simp [go_sem,UT_,hr]
theorem zZ5 (k:List Int) (hk:k.length=112) (i:Nat) (hi:i<4) (w:Nat) (hw:gt k (i*26+1)=(w:Nat)) (hw8:w<=8) (hlo:∀ s,s<8->0<=gt k (i*26+10+s*2)/\gt k (i*26+10+s*2)<8) (x:Nat) (hx:x<8):Pf Tryz.prog 160 [.rp (mV k) 0,.rp (mV k) (i*26),iV (x:Nat)] (uV (W5_ k i (x:Nat) w)):=by
 refine Pf.of_fn (.cons (.rp (zY5 k)) (.cons (.rp (zY5 k)) (.cons (.val _) .nil))) (.val _) ?_
 have hwr:IntKind.i8.wrap ((w:Nat)-1)=(w:Nat)-1:=V7 (by omega) (by omega)
 have g58:(x:Int)<8/\(0:Int)<=(x:Nat):=by and_intros<;>omega
 refine B7 T_ok func160 rfl rfl ntmps160 rfl (by simp) ?_
 refine rG ?_
 refine A3 fun K1 hK1=>?_
 refine rK fun K hK=>?_
 simp [go_sem,D0 hk,D2 hk hi,hw,hwr]
 refine ⟨by omega,?_⟩
 apply hK
 apply A0
 refine A9 (α:=Nat) (fun n=>⟨40,[(0,.rp (mV k) 0),(1,.rp (mV k) (i*26)),(2,iV (x:Nat)),(7,i8V ((n:Nat)-1))],[],0⟩) (fun n=>n<=8/\W5_ k i (x:Nat) n=W5_ k i (x:Nat) w) (fun n=>n) w ?_ ?_ ?_
 .exact ⟨hw8,rfl⟩
 .refine Weaker.fw 1 0 ?_ ?_<;>simp [go_sem]
 rintro n ⟨hn,hl⟩
 skip
 refine A3 fun K2 hK2=>?_
 refine rG ?_
 refine cJ (fun h=>?_) fun h=>?_
 .simp at h
  obtain rfl:n=0:=by omega
  clear h
  apply A6
  apply hK1
  refine rK fun K hK=>?_
  simp [go_sem,hx,g58,D0 hk,Zo_ hk hx]
  refine ⟨by omega,?_⟩
  apply hK
  refine A4 ?_
  simp [go_sem,<-hl,W5_]
 simp at h
 have hn1:1<=n:=by omega
 clear h
 obtain ⟨m,rfl⟩:∃ m,n=m+1:=⟨n-1,by omega⟩
 have hm:m<8:=by omega
 have g59:(m:Int)<8/\(0:Int)<=(m:Nat):=by and_intros<;>omega
 obtain ⟨l0,l8⟩:=hlo m hm
 have hwl:IntKind.i64.wrap (gt k (i*26+10+m*2))=gt k (i*26+10+m*2):=E4 (by omega) (by omega)
 have hwm:IntKind.i8.wrap ((m:Nat)-1)=(m:Nat)-1:=V7 (by omega) (by omega)
 apply A1
 apply hK2
 refine A3 fun K3 hK3=>?_
 apply A0
 refine rK fun K hK=>?_
 simp [go_sem,hm,g59,D0 hk,zSx hk hi hm,hwl]
 trace_state
 refine ⟨by omega,?_⟩
 apply hK
 refine cK (fun h=>?_) fun h=>?_
 .have he:gt k (i*26+10+m*2)=(x:Nat):=by simpa using h
  refine rK fun K hK=>?_
  simp [go_sem,hm,g59,D0 hk,zSy hk hi hm]
  refine ⟨by omega,?_⟩
  apply hK
  refine A4 ?_
  simp [go_sem,<-hl,W5_,he]
 have hne:¬ gt k (i*26+10+m*2)=(x:Nat):=by simpa using h
 apply A1
 apply hK3
 refine rF ?_ fun K h=>by simp [go_sem,hwm];exact h
 refine ⟨m,?_,?_,?_⟩
 .exact ⟨by omega,by rw [<-hl,W5_,if_neg hne]⟩
 .omega
 refine Weaker.fw 1 0 ?_ ?_<;>simp [go_sem]
theorem zQs (k:List Int) (hk:k.length=112) (i:Nat) (hi:i<4) (w:Nat) (hw:gt k (i*26+1)=(w:Nat)+1) (hw8:w<8) (hlo:0<=gt k (i*26+10)/\gt k (i*26+10)<8) (r n:Nat):Sl.Fn Tryz.prog 130 [.ptr r 0 0,iV (i:Nat)] [(r,.rows 112 [.agg (mV k)])] n fun v H _=>v=.tup []/\H=[(r,.rows 112 [.agg (mV (I4 k i w))])]:=by
 have g60:(i:Int)<4/\(0:Int)<=(i:Nat):=by and_intros<;>omega
 obtain ⟨x,hx⟩:∃ x:Nat,gt k (i*26+10)=x:=⟨(gt k (i*26+10)).toNat,by omega⟩
 rw [hx] at hlo
 have hx8:x<8:=by omega
 have hxI:(x:Int)<8:=by omega
 have h1:k.set (104+x) (gt k (i*26+10+1))=I8 k i:=by unfold I8;rw [hx];rfl
 have hl1:(I8 k i).length=112:=by unfold I8;rw [length_set,hk]
 have hl2:(Z8 (I8 k i) i).length=112:=v7 hl1 hi
 have hw2:gt (Z8 (I8 k i) i) (i*26+1)=(w:Nat)+1:=by
  rw [v8 hl1 hi,if_neg (by omega)]
  unfold I8
  rw [D1 (by omega),hw]
 have h3:(Z8 (I8 k i) i).set (i*26+1) (w:Nat)=U9 k i w:=rfl
 have hl3:(U9 k i w).length=112:=by unfold U9;rw [length_set,hl2]
 have hw3:gt (U9 k i w) (i*26+1)=(w:Nat):=by unfold U9;rw [L6 (by omega)]
 have hww:IntKind.i8.wrap (w:Nat)=(w:Nat):=V7 (by omega) (by omega)
 have g61:(w:Int)<8/\i*26<=86:=by and_intros<;>omega
 have hsh:B2 (.agg (mV (I8 k i))) (i*26+10) (.agg (((mV (I8 k i)).drop (i*26+10+2)).take 14))=.agg (mV (Z8 (I8 k i) i)):=zG1 hl1 hi
 have h4:((U9 k i w).set (i*26+10+w*2) 0).set (i*26+10+w*2+1) 0=I4 k i w:=rfl
 refine B7 T_ok func130 rfl rfl ntmps130 rfl (by simp) ?_
 refine rG ?_ fun K h=>by simp [go_sem,hi,g60];exact h
 refine dK 15 [[],[],[1],[1,2],[1,2,3],[1,2,3,4],[1,2,3,4,5],[],[7],[7,8],[7,8,9],[7,8,9,10],[7,8,9,10,11],[0],[0,13],[0,1,2,3,4,5,6,7,8,9,10,11,12,13,14],[0,1,2,3,4,5,6,7,8,9,10,11,12,13,14,15]] fun K hK=>?_
 first|dsimp only [List.take,List.drop]|dsimp [List.take,List.drop]
 simp [go_sem,D0 hk,zY8 hk hi,zY9 hk hi,hx,hx8,hxI,XD_ hk hx8,h1]
 repeat refine ⟨by omega,?_⟩
 apply hK
 refine dK 8 [[],[0],[0,1],[0,1,2],[],[4],[4,5],[4,5,6],[0,1,2,3,4,5,6,7]] fun K hK=>?_
 first|dsimp only [List.take,List.drop]|dsimp [List.take,List.drop]
 simp [go_sem,D0 hl1,g61,hsh,take_take]
 repeat refine ⟨by omega,?_⟩
 apply hK
 refine rK fun K hK=>?_
 simp [go_sem,D0 hl2,D2 hl2 hi,hw2,hww,WE_ hl2 hi,h3]
 repeat refine ⟨by omega,?_⟩
 apply hK
 refine dE 8 [[],[],[1],[1,2],[1,2,3],[],[0],[0,6],[0,1,2,3,4,5,6,7],[0,1,2,3,4,5,6,7,8]] fun K hK=>?_
 first|dsimp only [List.take,List.drop]|dsimp [List.take,List.drop]
 simp [go_sem,D0 hl3,D2 hl3 hi,hw3,g61,zDr hl3 hi hw8,h4]
 repeat refine ⟨by omega,?_⟩
 apply hK
 refine ⟨.inl rfl,?_⟩
 simp [go_sem]
theorem znl (x:Ins):G4 x.op=true\/(G4 x.op=false/\drB x=false)\/(G4 x.op=false/\drB x=true):=by cases G4 x.op<;>cases drB x<;>simp
theorem Uj_ (t:Tst) (i:Nat) (hi:i<4) (l:List Ins) (hx:t.ths[i]?=some l) (hl:zK7 l) (k:List Int) (hk:k.length=112) (p0:Nat) (hp0:gt k (i*26)=(p0:Nat)) (hpl:p0<=l.length) (r n:Nat) (hr:r≠2) (hrn:r<n) (h2n:2<n):Sl.Fn Tryz.prog 70 [.ptr 2 0 0,.ptr r 0 (i*26),iV (i:Nat)] [(2,.rows 3 [.agg [.rp t.cs 0,.map 0,.map 1]]),(r,.rows 112 [.agg (mV k)])] n fun v H _=>v=.tup []/\H=[(2,.rows 3 [.agg [.rp t.cs 0,.map 0,.map 1]]),(r,.rows 112 [.agg (mV (locT l i (l.length+1) k))])]:=by
 have g62:¬ r=2/\¬ 2=r:=by and_intros<;>omega
 have hil:i<t.ths.length:=(List.getElem?_eq_some_iff.1 hx).1
 have g63:(i:Int)<(t.ths.length:Nat)/\(0:Int)<=(i:Nat):=by and_intros<;>omega
 have hx':t.ths[i]=l:=(List.getElem?_eq_some_iff.1 hx).2
 have hl8:=hl.1
 refine B7 T_ok func70 rfl rfl ntmps70 rfl (by simp) ?_
 refine rG ?_ fun K h=>by simp [go_sem,g63,hil,hx,hx',Tst.cs,g62];exact h
 apply A0
 refine A9 (α:=List Int × Nat × Nat × Nat) (fun a=>⟨117,[(0,.ptr 2 0 0),(1,.ptr r 0 (i*26)),(2,iV (i:Nat)),(6,.ro 13 (Y1 l))],[(2,.rows 3 [.agg [.rp t.cs 0,.map 0,.map 1]]),(r,.rows 112 [.agg (mV a.1)])],a.2.2.2⟩) (fun a=>a.1.length=112/\gt a.1 (i*26)=(a.2.1:Nat)/\a.2.1<=l.length/\l.length<a.2.1+a.2.2.1/\locT l i a.2.2.1 a.1=locT l i (l.length+1) k/\r<a.2.2.2/\2<a.2.2.2) (fun a=>a.2.2.1) (k,p0,l.length+1,n) ?_ ?_ ?_
 .exact ⟨hk,hp0,hpl,by dsimp only;omega,rfl,hrn,h2n⟩
 .refine Weaker.fy 1 0 ?_ ?_
  .simp [go_sem,g62]
  simp [go_sem,Tst.cs,g62]
 rintro ⟨q,p,e,j⟩ ⟨hq,hp,hpl,hpe,hlt,hrj,h2j⟩
 dsimp only at hq hp hpl hpe hlt hrj h2j ⊢
 have g64:¬ r=j/\¬ j=r/\¬ 2=j/\¬ j=2:=by and_intros<;>omega
 have hw64:IntKind.i64.wrap (p:Nat)=(p:Nat):=E4 (by omega) (by omega)
 refine A3 fun K1 hK1=>?_
 refine rK fun K hK=>?_
 simp [go_sem,D0 hq,J4 hq hi,D2 hq hi,hp,g62,g64,hw64]
 repeat refine ⟨by omega,?_⟩
 apply hK
 refine cJ (fun h=>?_) fun h=>?_
 .simp at h
  have hpn:p=l.length:=by omega
  clear h
  obtain ⟨e,rfl⟩:∃ e2,e=e2+1:=⟨e-1,by omega⟩
  apply A6
  refine ⟨.inl rfl,?_⟩
  have hq9:locT l i (e+1) q=q:=by rw [locT,hp,Int.toNat_natCast,List.getElem?_eq_none (by omega)]
  rw [<-hlt,hq9]
  simp [go_sem,g62,g64]
 simp at h
 have hpI:(p:Int)<(l.length:Nat):=by omega
 have hpn:p<l.length:=by omega
 clear h
 obtain ⟨x,hg,hg'⟩:=E0 hpn
 have hok:=hl.2 p x hg
 obtain ⟨d,hd⟩:∃ d:Nat,x.rd=d:=⟨x.rd.toNat,by have:=hok.rd0;omega⟩
 have hd8:d<8:=by have:=hok.rd8;omega
 have g65:(d:Int)<8/\(0:Int)<=(p:Nat):=by and_intros<;>omega
 obtain ⟨e,rfl⟩:∃ e2,e=e2+1:=⟨e-1,by omega⟩
 apply A1
 apply hK1
 apply A0
 refine rK fun K hK=>?_
 simp [go_sem,B5,g62,g64,D0 hq,J4 hq hi,D2 hq hi,hp,hd,hd8,g65,hpI,hpn,hg,hg']
 repeat refine ⟨by omega,?_⟩
 apply hK
 refine zD6 (fun u:Unit=>⟨117,[(0,.ptr 2 0 0),(1,.ptr r 0 (i*26)),(2,iV (i:Nat)),(6,.ro 13 (Y1 l))],[(2,.rows 3 [.agg [.rp t.cs 0,.map 0,.map 1]]),(r,.rows 112 [.agg (mV (Y3 x i q))])],j+60⟩) (fun u:Unit=>Zp_ x i q=false) ?_ ?_
 .skip
  apply A0
  refine rK fun K hK=>?_
  simp [go_sem,B5,g62,g64]
  refine A2 (P0 x) ?_
  rcases znl x with hm|⟨hm,hd2⟩|⟨hm,hd2⟩
  .simp [go_sem,hm,B5,g62,g64]
   apply hK
   refine cJ (fun h=>?_) fun h=>?_
   .simp at h
   clear h
   have hs:Zp_ x i q=true:=by simp [Zp_,hm]
   refine Tr.weaken (Weaker.del j) ?_
   refine A4 ?_
   have hq9:locT l i (e+1) q=q:=by rw [locT,hp,Int.toNat_natCast,hg];simp only [hs,if_true]
   rw [<-hlt,hq9]
   simp [go_sem,Sl.del,g62,g64]
  .simp [go_sem,hm,B5,g62,g64]
   refine A2 (JO_ x hok.fence) ?_
   simp [go_sem,hm,hd2,B5,g62,g64]
   apply hK
   refine cK (fun h=>?_) fun h=>?_
   .simp at h
   clear h
   have hns:Zp_ x i q=false:=by simp [Zp_,hm,hd2]
   refine rG ?_ fun K h=>by simp [go_sem,B5,g62,g64];exact h
   refine cK (fun h=>?_) fun h=>?_
   .have h1:x.op=1:=by simpa using h
    refine dE 8 [[],[],[1],[],[3],[3,4],[0],[0,6],[0,1,2,3,4,5,6,7],[0,1,2,3,4,5,6,7,8]] fun K hK=>?_
    first|dsimp only [List.take,List.drop]|dsimp [List.take,List.drop]
    simp [go_sem,B5,g62,g64,D0 hq,J4 hq hi,D2 hq hi,hp,hd,hd8,g65,j5 hq hi hd8]
    repeat refine ⟨by omega,?_⟩
    have hls:Y3 x i q=q.set (i*26+2+d) x.aN:=by unfold Y3;rw [if_pos h1,hd];rfl
    apply hK
    refine ⟨(),hns,?_⟩
    refine Weaker.fy 1 0 ?_ ?_<;>simp [go_sem,hls,g62,g64]
   have h1:¬ x.op=1:=by simpa using h
   refine rG ?_ fun K h=>by simp [go_sem,B5,g62,g64];exact h
   refine cK (fun h=>?_) fun h=>?_
   .have h2:x.op<9:=by simpa using h
    refine dE 16 [[],[],[1],[],[3],[],[],[6],[5,6,7],[],[],[10],[5,6,7,8,9,10,11],[3,4,5,6,7,8,9,10,11,12],[0],[0,14],[0,1,2,3,4,5,6,7,8,9,10,11,12,13,14,15],[0,1,2,3,4,5,6,7,8,9,10,11,12,13,14,15,16]] fun K hK=>?_
    first|dsimp only [List.take,List.drop]|dsimp [List.take,List.drop]
    simp [go_sem,B5,g62,g64,D0 hq,J4 hq hi,D2 hq hi,hp,hd,hd8,g65]
    refine G3 (V8 q hq i hi x.aR x.aN hok.a) 1 (by simp [go_sem,m4,g62,g64]) ?_
    simp [go_sem,B5,g62,g64,D0 hq,J4 hq hi,D2 hq hi,hp,hd,hd8,g65]
    refine G3 (V8 q hq i hi x.bR x.bN hok.b) 1 (by simp [go_sem,m4,g62,g64]) ?_
    simp [go_sem,B5,g62,g64,D0 hq,J4 hq hi,D2 hq hi,hp,hd,hd8,g65]
    refine A5 (Zi_ x.op _ _) ?_
    simp [go_sem,j5 hq hi hd8,B5,g62,g64,D0 hq,J4 hq hi,D2 hq hi,hp,hd,hd8,g65]
    repeat refine ⟨by omega,?_⟩
    have hls:Y3 x i q=q.set (i*26+2+d) (QA_ x.op (UT_ q i x.aR x.aN) (UT_ q i x.bR x.bN)):=by unfold Y3;rw [if_neg h1,if_pos h2,hd];rfl
    apply hK
    refine ⟨(),hns,?_⟩
    refine Weaker.fy 1 0 ?_ ?_<;>simp [go_sem,hls,g62,g64]
   have h2:¬ x.op<9:=by simpa using h
   refine dK 16 [[],[0],[0,1],[0,1,2],[0,1,2,3],[0,1,2,3],[0,1,2,3,5],[0,1,2,3,4,5,6],[0,1,2,3],[0,1,2,3],[0,1,2,3,9],[0,1,2,3,4,5,6,7,8,9,10],[0,1,2,3,4,5,6,7,8,9,10,11],[0,1,2,3],[0,1,2,3,13],[0,1,2,3,13,14],[0,1,2,3,4,5,6,7,8,9,10,11,12,13,14,15],[0,1,2,3,4,5,6,7,8,9,10,11,12,13,14,15,16],[0,1,2,3,4,5,6,7,8,9,10,11,12,13,14,15,16,17]] fun K hK=>?_
   first|dsimp only [List.take,List.drop]|dsimp [List.take,List.drop]
   rcases Nat.lt_or_ge 15 x.op.toNat with h3|h3
   .have h3I:15<x.op:=by omega
    simp [go_sem,h3I,B5,g62,g64,D0 hq,J4 hq hi,D2 hq hi,hp,hd,hd8,g65]
    refine G3 (V8 q hq i hi x.aR x.aN hok.a) 1 (by simp [go_sem,m4,g62,g64]) ?_
    simp [go_sem,h3I,B5,g62,g64,D0 hq,J4 hq hi,D2 hq hi,hp,hd,hd8,g65]
    refine G3 (V8 q hq i hi x.bR x.bN hok.b) 1 (by simp [go_sem,m4,g62,g64]) ?_
    simp [go_sem,h3I,B5,g62,g64,D0 hq,J4 hq hi,D2 hq hi,hp,hd,hd8,g65]
    apply hK
    refine cJ (fun h=>?_) fun h=>?_
    .have hb:brT q i x=false:=by simpa [brT,h3I,G8,decide_eq_decide] using h
     have hls:Y3 x i q=q:=by unfold Y3;rw [if_neg h1,if_neg h2,hb];rfl
     apply A1
     refine ⟨(),hns,?_⟩
     refine Weaker.fy 1 0 ?_ ?_<;>simp [go_sem,hls,g62,g64]
    have hb:brT q i x=true:=by simpa [brT,h3I,G8,decide_eq_decide] using h
    have hs1:=hok.skip
    have hs0:=hok.skip0
    have hsk:IntKind.i8.wrap x.skip=x.skip:=V7 (by omega) (by omega)
    have hskp:IntKind.i8.wrap ((p:Int)+x.skip)=(p:Int)+x.skip:=V7 (by omega) (by omega)
    refine dE 7 [[],[0],[0,1],[0,1,2],[],[4],[4,5],[0,1,2,3,4,5,6],[0,1,2,3,4,5,6,7],[0,1,2,3,4,5,6,7,8],[0,1,2,3,4,5,6,7,8,9]] fun K hK=>?_
    first|dsimp only [List.take,List.drop]|dsimp [List.take,List.drop]
    simp [go_sem,B5,g62,g64,D0 hq,J4 hq hi,D2 hq hi,hp,hd,hd8,g65,hsk,hskp,US_ hq hi]
    repeat refine ⟨by omega,?_⟩
    have hls:Y3 x i q=q.set (i*26) ((p:Int)+x.skip):=by unfold Y3;rw [if_neg h1,if_neg h2,if_pos hb,hp]
    apply hK
    refine ⟨(),hns,?_⟩
    refine Weaker.fy 1 0 ?_ ?_<;>simp [go_sem,hls,g62,g64]
   have h3I:¬ 15<x.op:=by omega
   simp [go_sem,h3I,B5,g62,g64,D0 hq,J4 hq hi,D2 hq hi,hp,hd,hd8,g65]
   apply hK
   refine cK (fun h=>?_) fun h=>?_
   .simp at h
   clear h
   have hb:brT q i x=false:=by simp [brT,h3I]
   have hls:Y3 x i q=q:=by unfold Y3;rw [if_neg h1,if_neg h2,hb];rfl
   apply A1
   refine ⟨(),hns,?_⟩
   refine Weaker.fy 1 0 ?_ ?_<;>simp [go_sem,hls,g62,g64]
  simp [go_sem,hm,B5,g62,g64]
  refine A2 (JO_ x hok.fence) ?_
  simp [go_sem,hm,hd2,B5,g62,g64,D0 hq,J4 hq hi,D2 hq hi,hp]
  repeat refine ⟨by omega,?_⟩
  apply hK
  refine cK (fun h=>?_) fun h=>?_
  .have hs:Zp_ x i q=true:=by simpa [Zp_,hm,hd2] using h
   refine Tr.weaken (Weaker.del j) ?_
   refine A4 ?_
   have hq9:locT l i (e+1) q=q:=by rw [locT,hp,Int.toNat_natCast,hg];simp only [hs,if_true]
   rw [<-hlt,hq9]
   simp [go_sem,Sl.del,g62,g64]
  have hns:Zp_ x i q=false:=by simpa [Zp_,hm,hd2] using h
  refine rG ?_ fun K h=>by simp [go_sem,B5,g62,g64];exact h
  refine cK (fun h=>?_) fun h=>?_
  .have h1:x.op=1:=by simpa using h
   refine dE 8 [[],[],[1],[],[3],[3,4],[0],[0,6],[0,1,2,3,4,5,6,7],[0,1,2,3,4,5,6,7,8]] fun K hK=>?_
   first|dsimp only [List.take,List.drop]|dsimp [List.take,List.drop]
   simp [go_sem,B5,g62,g64,D0 hq,J4 hq hi,D2 hq hi,hp,hd,hd8,g65,j5 hq hi hd8]
   repeat refine ⟨by omega,?_⟩
   have hls:Y3 x i q=q.set (i*26+2+d) x.aN:=by unfold Y3;rw [if_pos h1,hd];rfl
   apply hK
   refine ⟨(),hns,?_⟩
   refine Weaker.fy 1 0 ?_ ?_<;>simp [go_sem,hls,g62,g64]
  have h1:¬ x.op=1:=by simpa using h
  refine rG ?_ fun K h=>by simp [go_sem,B5,g62,g64];exact h
  refine cK (fun h=>?_) fun h=>?_
  .have h2:x.op<9:=by simpa using h
   refine dE 16 [[],[],[1],[],[3],[],[],[6],[5,6,7],[],[],[10],[5,6,7,8,9,10,11],[3,4,5,6,7,8,9,10,11,12],[0],[0,14],[0,1,2,3,4,5,6,7,8,9,10,11,12,13,14,15],[0,1,2,3,4,5,6,7,8,9,10,11,12,13,14,15,16]] fun K hK=>?_
   first|dsimp only [List.take,List.drop]|dsimp [List.take,List.drop]
   simp [go_sem,B5,g62,g64,D0 hq,J4 hq hi,D2 hq hi,hp,hd,hd8,g65]
   refine G3 (V8 q hq i hi x.aR x.aN hok.a) 1 (by simp [go_sem,m4,g62,g64]) ?_
   simp [go_sem,B5,g62,g64,D0 hq,J4 hq hi,D2 hq hi,hp,hd,hd8,g65]
   refine G3 (V8 q hq i hi x.bR x.bN hok.b) 1 (by simp [go_sem,m4,g62,g64]) ?_
   simp [go_sem,B5,g62,g64,D0 hq,J4 hq hi,D2 hq hi,hp,hd,hd8,g65]
   refine A5 (Zi_ x.op _ _) ?_
   simp [go_sem,j5 hq hi hd8,B5,g62,g64,D0 hq,J4 hq hi,D2 hq hi,hp,hd,hd8,g65]
   repeat refine ⟨by omega,?_⟩
   have hls:Y3 x i q=q.set (i*26+2+d) (QA_ x.op (UT_ q i x.aR x.aN) (UT_ q i x.bR x.bN)):=by unfold Y3;rw [if_neg h1,if_pos h2,hd];rfl
   apply hK
   refine ⟨(),hns,?_⟩
   refine Weaker.fy 1 0 ?_ ?_<;>simp [go_sem,hls,g62,g64]
  have h2:¬ x.op<9:=by simpa using h
  refine dK 16 [[],[0],[0,1],[0,1,2],[0,1,2,3],[0,1,2,3],[0,1,2,3,5],[0,1,2,3,4,5,6],[0,1,2,3],[0,1,2,3],[0,1,2,3,9],[0,1,2,3,4,5,6,7,8,9,10],[0,1,2,3,4,5,6,7,8,9,10,11],[0,1,2,3],[0,1,2,3,13],[0,1,2,3,13,14],[0,1,2,3,4,5,6,7,8,9,10,11,12,13,14,15],[0,1,2,3,4,5,6,7,8,9,10,11,12,13,14,15,16],[0,1,2,3,4,5,6,7,8,9,10,11,12,13,14,15,16,17]] fun K hK=>?_
  first|dsimp only [List.take,List.drop]|dsimp [List.take,List.drop]
  rcases Nat.lt_or_ge 15 x.op.toNat with h3|h3
  .have h3I:15<x.op:=by omega
   simp [go_sem,h3I,B5,g62,g64,D0 hq,J4 hq hi,D2 hq hi,hp,hd,hd8,g65]
   refine G3 (V8 q hq i hi x.aR x.aN hok.a) 1 (by simp [go_sem,m4,g62,g64]) ?_
   simp [go_sem,h3I,B5,g62,g64,D0 hq,J4 hq hi,D2 hq hi,hp,hd,hd8,g65]
   refine G3 (V8 q hq i hi x.bR x.bN hok.b) 1 (by simp [go_sem,m4,g62,g64]) ?_
   simp [go_sem,h3I,B5,g62,g64,D0 hq,J4 hq hi,D2 hq hi,hp,hd,hd8,g65]
   apply hK
   refine cJ (fun h=>?_) fun h=>?_
   .have hb:brT q i x=false:=by simpa [brT,h3I,G8,decide_eq_decide] using h
    have hls:Y3 x i q=q:=by unfold Y3;rw [if_neg h1,if_neg h2,hb];rfl
    apply A1
    refine ⟨(),hns,?_⟩
    refine Weaker.fy 1 0 ?_ ?_<;>simp [go_sem,hls,g62,g64]
   have hb:brT q i x=true:=by simpa [brT,h3I,G8,decide_eq_decide] using h
   have hs1:=hok.skip
   have hs0:=hok.skip0
   have hsk:IntKind.i8.wrap x.skip=x.skip:=V7 (by omega) (by omega)
   have hskp:IntKind.i8.wrap ((p:Int)+x.skip)=(p:Int)+x.skip:=V7 (by omega) (by omega)
   refine dE 7 [[],[0],[0,1],[0,1,2],[],[4],[4,5],[0,1,2,3,4,5,6],[0,1,2,3,4,5,6,7],[0,1,2,3,4,5,6,7,8],[0,1,2,3,4,5,6,7,8,9]] fun K hK=>?_
   first|dsimp only [List.take,List.drop]|dsimp [List.take,List.drop]
   simp [go_sem,B5,g62,g64,D0 hq,J4 hq hi,D2 hq hi,hp,hd,hd8,g65,hsk,hskp,US_ hq hi]
   repeat refine ⟨by omega,?_⟩
   have hls:Y3 x i q=q.set (i*26) ((p:Int)+x.skip):=by unfold Y3;rw [if_neg h1,if_neg h2,if_pos hb,hp]
   apply hK
   refine ⟨(),hns,?_⟩
   refine Weaker.fy 1 0 ?_ ?_<;>simp [go_sem,hls,g62,g64]
  have h3I:¬ 15<x.op:=by omega
  simp [go_sem,h3I,B5,g62,g64,D0 hq,J4 hq hi,D2 hq hi,hp,hd,hd8,g65]
  apply hK
  refine cK (fun h=>?_) fun h=>?_
  .simp at h
  clear h
  have hb:brT q i x=false:=by simp [brT,h3I]
  have hls:Y3 x i q=q:=by unfold Y3;rw [if_neg h1,if_neg h2,hb];rfl
  apply A1
  refine ⟨(),hns,?_⟩
  refine Weaker.fy 1 0 ?_ ?_<;>simp [go_sem,hls,g62,g64]
 rintro u hns
 obtain ⟨p',hp2,hpp,hpl2,hq3⟩:=zAy hq hi hp hok
 have hq2:(Y3 x i q).length=112:=(Zq_ x i q).trans hq
 have hwp:IntKind.i8.wrap ((p':Int)+1)=(p':Int)+1:=V7 (by omega) (by omega)
 have hinc:(Y3 x i q).set (i*26) ((p':Int)+1)=W6 (Y3 x i q) i:=by unfold W6;rw [hp2]
 refine rE fun K hK=>?_
 simp [go_sem,D0 hq2,J4 hq2 hi,hp2,hwp,US_ hq2 hi,hinc,g62,g64]
 repeat refine ⟨by omega,?_⟩
 apply hK
 refine ⟨(W6 (Y3 x i q) i,p'+1,e,j+200),?_,?_,?_⟩
 .dsimp only;exact ⟨by rw [w3,Zq_,hq],hq3,by omega,by omega,by rw [<-hlt,locT,hp,Int.toNat_natCast,hg];simp only [hns,Bool.false_eq_true,if_false],by omega,by omega⟩
 .dsimp only;omega
 refine Weaker.fy 1 0 ?_ ?_<;>simp [go_sem,g62,g64]
theorem zL3 (k:List Int) (i:Nat) (loc:Int):∀ n,W5_ k i loc n=zB3 k i loc n
 | 0=>rfl
 | n+1=>by rw [W5_,zB3,zL3 k i loc n]
theorem zZ6 (t:Tst) (i:Nat) (hi:i<4) (l:List Ins) (hx:t.ths[i]?=some l) (hl:zK7 l) (q:List Int) (hq:q.length=112) (p:Nat) (hp:gt q (i*26)=(p:Nat)) (hpl:p<=l.length) (w:Nat) (hw:gt q (i*26+1)=(w:Nat)) (hwp:w<=p) (hlo:∀ s,s<8->0<=gt q (i*26+10+s*2)/\gt q (i*26+10+s*2)<8) (r n:Nat) (hr:r≠2) (hrn:r<n) (h2n:2<n):Sl.Fn Tryz.prog 129 [.ptr 2 0 0,.ptr r 0 0,iV (i:Nat)] [(2,.rows 3 [.agg [.rp t.cs 0,.map 0,.map 1]]),(r,.rows 112 [.agg (mV q)])] n fun v H _=>v=bV (H9 l i q).isSome/\H=[(2,.rows 3 [.agg [.rp t.cs 0,.map 0,.map 1]]),(r,.rows 112 [.agg (mV ((H9 l i q).getD q))])]:=by
 have g72:¬ r=2/\¬ 2=r:=by and_intros<;>omega
 have hil:i<t.ths.length:=(List.getElem?_eq_some_iff.1 hx).1
 have g73:(i:Int)<(t.ths.length:Nat)/\(0:Int)<=(i:Nat)/\(i:Int)<4:=by and_intros<;>omega
 have hx':t.ths[i]=l:=(List.getElem?_eq_some_iff.1 hx).2
 have hl8:=hl.1
 have hw64:IntKind.i64.wrap (p:Nat)=(p:Nat):=E4 (by omega) (by omega)
 have hlos:=hlo
 clear hlo
 have hwI:(w:Int)<9:=by omega
 refine B7 T_ok func129 rfl rfl ntmps129 rfl (by simp) ?_
 refine rG ?_
 refine rG ?_ fun K h=>by simp [go_sem,g73,hi,g72];exact h
 refine A3 fun K1 hK1=>?_
 refine dK 16 [[],[0],[0,1],[0,1,2],[0,1,2,3],[],[5],[5,6],[5,6,7],[5,6,7,8],[5,6,7,8,9],[5,6,7,8,9,10],[],[5,6,7,8,9,10,11,12],[5,6,7,8,9,10,11,12,13],[5,6,7,8,9,10,11,12,13,14],[0,1,2,3,4,5,6,7,8,9,10,11,12,13,14,15]] fun K hK=>?_
 first|dsimp only [List.take,List.drop]|dsimp [List.take,List.drop]
 simp [go_sem,g73,hil,hx,hx',Tst.cs,D0 hq,J4 hq hi,hp,hw64,hi,g72]
 repeat refine ⟨by omega,?_⟩
 apply hK
 refine cK (fun h=>?_) fun h=>?_
 .simp at h
  have hpn:p=l.length:=by omega
  clear h
  have hst:H9 l i q=none:=by unfold H9;rw [hp,Int.toNat_natCast,List.getElem?_eq_none (by omega)]
  refine rG ?_
  refine A4 ?_
  simp [go_sem,hst,Tst.cs,g72]
 simp at h
 have hpI:(p:Int)<(l.length:Nat):=by omega
 have hpn:p<l.length:=by omega
 clear h
 obtain ⟨x,hg,hg'⟩:=E0 hpn
 have hok:=hl.2 p x hg
 obtain ⟨d,hd⟩:∃ d:Nat,x.rd=d:=⟨x.rd.toNat,by have:=hok.rd0;omega⟩
 have hd8:d<8:=by have:=hok.rd8;omega
 have g74:(d:Int)<8/\(0:Int)<=(p:Nat):=by and_intros<;>omega
 apply A1
 apply hK1
 have g75:¬ r=n+32/\¬ n+32=r/\¬ 2=n+32/\¬ n+32=2:=by and_intros<;>omega
 refine Q6 T_ok (by kernel_rfl) 17 [[],[0],[0,1],[0,1,2],[0,1,2,3],[0,1,2,3,4],[0,1,2,3,4,5],[],[0,1,2,3,4,5,6,7],[0,1,2,3,4,5,6,7,8],[],[10],[10,11],[10,11,12],[0,1,2,3,4,5,6,7,8,9,10,11,12,13],[0,1,2,3,4,5,6,7,8,9,10,11,12,13,14],[],[0,1,2,3,4,5,6,7,8,9,10,11,12,13,14,15,16]] [(0,16),(1,16),(2,16),(3,16),(4,16),(5,16),(6,16),(7,16),(8,16),(9,16),(10,16),(11,16),(12,16),(13,16),(14,16),(15,16)] (by decide) (by decide) (by decide) ⟨139,[(0,.ptr 2 0 0),(1,.ptr r 0 0),(2,iV (i:Nat)),(7,.ptr r 0 (i*26)),(8,.ptr (n+32) 0 0)],[(n+32,.rows 13 [B5 x]),(2,.rows 3 [.agg [.rp t.cs 0,.map 0,.map 1]]),(r,.rows 112 [.agg (mV q)])],n+32+1⟩ ?_ ?_
 .first|dsimp only [List.take,List.drop]|dsimp [List.take,List.drop]
  simp [go_sem,g73,hil,hx,hx',Tst.cs,hpI,g74,hpn,hg,hg',D0 hq,J4 hq hi,hp,B5,zIj,zCy,g72,g75]
  repeat refine ⟨by omega,?_⟩
  refine Weaker.fw 1 0 ?_ ?_<;>simp [go_sem,B5,Tst.cs,g72,g75]
 generalize hj:n+32=j
 have g76:r<j/\2<j/\¬ r=j/\¬ j=r/\¬ 2=j/\¬ j=2:=by and_intros<;>omega
 refine zD6 (fun k1:List Int=>⟨139,[(0,.ptr 2 0 0),(1,.ptr r 0 0),(2,iV (i:Nat)),(7,.ptr r 0 (i*26))],[(2,.rows 3 [.agg [.rp t.cs 0,.map 0,.map 1]]),(r,.rows 112 [.agg (mV k1)])],j+200⟩) (fun k1:List Int=>ZN_ x i q=some k1) ?_ ?_
 .skip
  refine rG ?_ fun K h=>by simp [go_sem,B5,g72,g76];exact h
  apply A0
  refine rG ?_ fun K h=>by simp [go_sem,B5,g72,g76];exact h
  refine cK (fun h=>?_) fun h=>?_
  .have h1:x.op=9:=by simpa using h
   have hlc:=hok.loc (by simp [G4,rdB,wrB,h1])
   obtain ⟨y,hlo⟩:∃ y:Nat,x.loc=y:=⟨x.loc.toNat,by omega⟩
   have hlo8:y<8:=by omega
   have hloI:(y:Int)<8:=by omega
   refine dE 10 [[],[],[1],[],[],[],[5],[3,4,5,6],[0],[0,8],[0,1,2,3,4,5,6,7,8,9],[0,1,2,3,4,5,6,7,8,9,10]] fun K hK=>?_
   first|dsimp only [List.take,List.drop]|dsimp [List.take,List.drop]
   simp [go_sem,B5,g72,g76,D0 hq,J4 hq hi,D2 hq hi,hp,hd,hd8,g74,hw,hwI,g73,hi,hw64,hlo,hlo8,hloI,Zo_ hq hlo8]
   refine G3 (zZ5 q hq i hi w hw (by omega) hlos y hlo8) 1 (by simp [go_sem,m4,g72,g76]) ?_
   simp [go_sem,j5 hq hi hd8,B5,g72,g76,D0 hq,J4 hq hi,D2 hq hi,hp,hd,hd8,g74,hw,hwI,g73,hi,hw64]
   repeat refine ⟨by omega,?_⟩
   have hop:ZN_ x i q=some (q.set (i*26+2+d) (W5_ q i (y:Nat) w)):=by unfold ZN_;rw [if_pos h1,hd,hw,hlo,zL3];rfl
   apply hK
   refine ⟨_,hop,?_⟩
   refine Weaker.fy 1 0 ?_ ?_<;>simp [go_sem,g72,g76]
  have h1:¬ x.op=9:=by simpa using h
  refine rG ?_ fun K h=>by simp [go_sem,B5,g72,g76];exact h
  refine cK (fun h=>?_) fun h=>?_
  .have h2:x.op=10:=by simpa using h
   have hlc:=hok.loc (by simp [G4,rdB,wrB,h2])
   obtain ⟨y,hlo⟩:∃ y:Nat,x.loc=y:=⟨x.loc.toNat,by omega⟩
   have hlo8:y<8:=by omega
   have hloI:(y:Int)<8:=by omega
   have hws:w<8:=by omega
   have hw8:(w:Int)<8:=by omega
   have hlw:IntKind.i8.wrap (y:Nat)=(y:Nat):=V7 (by omega) (by omega)
   refine dK 15 [[],[],[1],[1,2],[1,2,3],[],[5],[5,6],[],[],[9],[8,9,10],[5,6,7,8,9,10,11],[0],[0,13],[0,1,2,3,4,5,6,7,8,9,10,11,12,13,14],[0,1,2,3,4,5,6,7,8,9,10,11,12,13,14,15]] fun K hK=>?_
   first|dsimp only [List.take,List.drop]|dsimp [List.take,List.drop]
   simp [go_sem,B5,g72,g76,D0 hq,J4 hq hi,D2 hq hi,hp,hd,hd8,g74,hw,hwI,g73,hi,hw64,hlo,hlo8,hloI,Zo_ hq hlo8,hw8]
   repeat refine ⟨by omega,?_⟩
   refine G3 (V8 q hq i hi x.aR x.aN hok.a) 1 (by simp [go_sem,m4,g72,g76]) ?_
   simp [go_sem,hw8,hloI,hlo8,hlo,hlw,zDr hq hi hws,WE_,B5,g72,g76,D0 hq,J4 hq hi,D2 hq hi,hp,hd,hd8,g74,hw,hwI,g73,hi,hw64]
   repeat refine ⟨by omega,?_⟩
   generalize hq1e:(q.set (i*26+10+w*2) (y:Nat)).set (i*26+10+w*2+1) (UT_ q i x.aR x.aN)=q1
   have hq1:q1.length=112:=by rw [<-hq1e];simp [hq]
   have hw1:gt q1 (i*26+1)=(w:Nat):=by rw [<-hq1e,D1 (by omega),D1 (by omega),hw]
   have hwi:IntKind.i8.wrap ((w:Int)+1)=(w:Int)+1:=V7 (by omega) (by omega)
   apply hK
   refine rE fun K hK=>?_
   simp [go_sem,D0 hq1,D2 hq1 hi,hw1,hwi,WE_ hq1 hi,g72,g76]
   repeat refine ⟨by omega,?_⟩
   have hop:ZN_ x i q=some (q1.set (i*26+1) ((w:Int)+1)):=by
    unfold ZN_
    rw [if_neg h1,if_pos h2,hw,Int.toNat_natCast,hlo,hq1e]
   apply hK
   refine ⟨_,hop,?_⟩
   refine Weaker.fy 1 0 ?_ ?_<;>simp [go_sem,g72,g76]
  have h2:¬ x.op=10:=by simpa using h
  refine A3 fun K2 hK2=>?_
  refine rG ?_ fun K h=>by simp [go_sem,B5,g72,g76];exact h
  refine cK (fun h=>?_) fun h=>?_
  .have h3:x.op=11:=by simpa using h
   apply A1
   apply hK2
   refine cJ (fun h=>?_) fun h=>?_
   .simp [h3] at h
   clear h
   have hlc:=hok.loc (by simp [G4,rdB,wrB,h3])
   obtain ⟨y,hlo⟩:∃ y:Nat,x.loc=y:=⟨x.loc.toNat,by omega⟩
   have hlo8:y<8:=by omega
   have hloI:(y:Int)<8:=by omega
   refine A3 fun K3 hK3=>?_
   refine rK fun K hK=>?_
   simp [go_sem,B5,g72,g76,D0 hq,J4 hq hi,D2 hq hi,hp,hd,hd8,g74,hw,hwI,g73,hi,hw64]
   repeat refine ⟨by omega,?_⟩
   apply hK
   refine cK (fun h=>?_) fun h=>?_
   .have hw0:0<w:=by simpa using h
    refine rG ?_
    refine Tr.weaken (Weaker.del j) ?_
    have hst:H9 l i q=none:=by unfold H9;rw [hp,Int.toNat_natCast,hg];simp [ZN_,h3,hw,hw0]
    refine A4 ?_
    simp [go_sem,hst,Sl.del,g72,g76]
   have hw0:w=0:=by simpa using h
   apply A1
   apply hK3
   refine dK 11 [[],[],[1],[0],[0,3],[0,1,2,3,4],[0,1,2,3,4,5],[],[],[8],[7,8,9],[0,1,2,3,4,5,6,7,8,9,10],[0,1,2,3,4,5,6,7,8,9,10,11]] fun K hK=>?_
   first|dsimp only [List.take,List.drop]|dsimp [List.take,List.drop]
   simp [go_sem,B5,g72,g76,D0 hq,J4 hq hi,D2 hq hi,hp,hd,hd8,g74,hw,hwI,g73,hi,hw64,hlo,hlo8,hloI,Zo_ hq hlo8]
   repeat refine ⟨by omega,?_⟩
   refine G3 (V8 q hq i hi x.aR x.aN hok.a) 1 (by simp [go_sem,m4,g72,g76]) ?_
   simp [go_sem,B5,g72,g76,D0 hq,J4 hq hi,D2 hq hi,hp,hd,hd8,g74,hw,hwI,g73,hi,hw64,hlo,hlo8,hloI,Zo_ hq hlo8]
   repeat refine ⟨by omega,?_⟩
   apply hK
   refine A3 fun K4 hK4=>?_
   refine rG ?_ fun K h=>by simp [go_sem,B5,g72,g76];exact h
   refine cK (fun h=>?_) fun h=>?_
   .simp [h3] at h
   clear h
   apply A1
   apply hK4
   refine dK 6 [[],[],[1],[],[0],[0,4],[0,1,2,3,4,5],[0,1,2,3,4,5,6]] fun K hK=>?_
   first|dsimp only [List.take,List.drop]|dsimp [List.take,List.drop]
   simp [go_sem,B5,g72,g76,D0 hq,J4 hq hi,D2 hq hi,hp,hd,hd8,g74,hw,hwI,g73,hi,hw64,hlo,hlo8,hloI,Zo_ hq hlo8,XD_ hq hlo8]
   repeat refine ⟨by omega,?_⟩
   generalize hq4e:q.set (104+y) (UT_ q i x.aR x.aN)=q4
   have hq4:q4.length=112:=by rw [<-hq4e,length_set,hq]
   apply hK
   refine dE 6 [[],[],[1],[],[0],[0,4],[0,1,2,3,4,5],[0,1,2,3,4,5,6]] fun K hK=>?_
   first|dsimp only [List.take,List.drop]|dsimp [List.take,List.drop]
   simp [go_sem,B5,g72,g76,hd,hd8,g74,D0 hq4,j5 hq4 hi hd8]
   repeat refine ⟨by omega,?_⟩
   have hop:ZN_ x i q=some (q4.set (i*26+2+d) (gt q (104+y))):=by
    unfold ZN_
    rw [if_neg h1,if_neg h2,if_pos (by omega),if_neg (by omega),if_neg (by omega),hd,hlo,Int.toNat_natCast,Int.toNat_natCast,hq4e]
   apply hK
   refine ⟨_,hop,?_⟩
   refine Weaker.fy 1 0 ?_ ?_<;>simp [go_sem,g72,g76]
  have h3:¬ x.op=11:=by simpa using h
  refine rF ?_ fun K h=>by simp [go_sem,B5,g72,g76];exact h
  apply hK2
  refine cJ (fun h=>?_) fun h=>?_
  .have h4:¬ x.op=12:=by simpa using h
   have hst:H9 l i q=none:=by unfold H9;rw [hp,Int.toNat_natCast,hg];simp [ZN_,h1,h2,h3,h4]
   refine rG ?_
   refine Tr.weaken (Weaker.del j) ?_
   refine A4 ?_
   simp [go_sem,hst,Sl.del,g72,g76]
  have h4:x.op=12:=by simpa using h
  have hlc:=hok.loc (by simp [G4,rdB,wrB,h4])
  obtain ⟨y,hlo⟩:∃ y:Nat,x.loc=y:=⟨x.loc.toNat,by omega⟩
  have hlo8:y<8:=by omega
  have hloI:(y:Int)<8:=by omega
  refine A3 fun K5 hK5=>?_
  refine rK fun K hK=>?_
  simp [go_sem,B5,g72,g76,D0 hq,J4 hq hi,D2 hq hi,hp,hd,hd8,g74,hw,hwI,g73,hi,hw64]
  repeat refine ⟨by omega,?_⟩
  apply hK
  refine cK (fun h=>?_) fun h=>?_
  .have hw0:0<w:=by simpa using h
   refine rG ?_
   refine Tr.weaken (Weaker.del j) ?_
   have hst:H9 l i q=none:=by unfold H9;rw [hp,Int.toNat_natCast,hg];simp [ZN_,h4,hw,hw0]
   refine A4 ?_
   simp [go_sem,hst,Sl.del,g72,g76]
  have hw0:w=0:=by simpa using h
  apply A1
  apply hK5
  refine dK 11 [[],[],[1],[0],[0,3],[0,1,2,3,4],[0,1,2,3,4,5],[],[],[8],[7,8,9],[0,1,2,3,4,5,6,7,8,9,10],[0,1,2,3,4,5,6,7,8,9,10,11]] fun K hK=>?_
  first|dsimp only [List.take,List.drop]|dsimp [List.take,List.drop]
  simp [go_sem,B5,g72,g76,D0 hq,J4 hq hi,D2 hq hi,hp,hd,hd8,g74,hw,hwI,g73,hi,hw64,hlo,hlo8,hloI,Zo_ hq hlo8]
  repeat refine ⟨by omega,?_⟩
  refine G3 (V8 q hq i hi x.aR x.aN hok.a) 1 (by simp [go_sem,m4,g72,g76]) ?_
  simp [go_sem,B5,g72,g76,D0 hq,J4 hq hi,D2 hq hi,hp,hd,hd8,g74,hw,hwI,g73,hi,hw64,hlo,hlo8,hloI,Zo_ hq hlo8]
  repeat refine ⟨by omega,?_⟩
  apply hK
  refine A3 fun K6 hK6=>?_
  refine rG ?_ fun K h=>by simp [go_sem,B5,g72,g76];exact h
  refine cJ (fun h=>?_) fun h=>?_
  .simp [h4] at h
  clear h
  refine rF ?_
  apply hK6
  refine dK 6 [[],[],[1],[],[0],[0,4],[0,1,2,3,4,5],[0,1,2,3,4,5,6]] fun K hK=>?_
  first|dsimp only [List.take,List.drop]|dsimp [List.take,List.drop]
  simp [go_sem,B5,g72,g76,D0 hq,J4 hq hi,D2 hq hi,hp,hd,hd8,g74,hw,hwI,g73,hi,hw64,hlo,hlo8,hloI,Zo_ hq hlo8,XD_ hq hlo8]
  repeat refine ⟨by omega,?_⟩
  generalize hq4e:q.set (104+y) (IntKind.u64.wrap (UT_ q i x.aR x.aN+gt q (104+y)))=q4
  have hq4:q4.length=112:=by rw [<-hq4e,length_set,hq]
  apply hK
  refine dE 6 [[],[],[1],[],[0],[0,4],[0,1,2,3,4,5],[0,1,2,3,4,5,6]] fun K hK=>?_
  first|dsimp only [List.take,List.drop]|dsimp [List.take,List.drop]
  simp [go_sem,B5,g72,g76,hd,hd8,g74,D0 hq4,j5 hq4 hi hd8]
  repeat refine ⟨by omega,?_⟩
  have hop:ZN_ x i q=some (q4.set (i*26+2+d) (gt q (104+y))):=by
   unfold ZN_
   rw [if_neg h1,if_neg h2,if_pos (by omega),if_neg (by omega),if_pos h4,hd,hlo,Int.toNat_natCast,Int.toNat_natCast,hq4e]
  apply hK
  refine ⟨_,hop,?_⟩
  refine Weaker.fy 1 0 ?_ ?_<;>simp [go_sem,g72,g76]
 rintro k1 hop
 have hk1:k1.length=112:=(Ub_ hop).trans hq
 have hp1:gt k1 (i*26)=(p:Nat):=(zB4 hi hok.rd0 (fun h=>(hok.loc h).2) hop).trans hp
 have hwp1:IntKind.i8.wrap ((p:Int)+1)=(p:Int)+1:=V7 (by omega) (by omega)
 have hinc:k1.set (i*26) ((p:Int)+1)=W6 k1 i:=by unfold W6;rw [hp1]
 have hk2:(W6 k1 i).length=112:=(w3 k1 i).trans hk1
 have hp2:gt (W6 k1 i) (i*26)=((p+1:Nat):Int):=by unfold W6;rw [L6 (by omega),hp1];rfl
 have hst:H9 l i q=some (locT l i (l.length+1) (W6 k1 i)):=by unfold H9;rw [hp,Int.toNat_natCast,hg];simp only [hop,Option.map_some]
 refine rK fun K hK=>?_
 simp [go_sem,D0 hk1,J4 hk1 hi,hp1,hwp1,US_ hk1 hi,hinc,g72]
 repeat refine ⟨by omega,?_⟩
 apply hK
 refine rK fun K hK=>?_
 simp [go_sem]
 refine D7 (Uj_ t i hi l hx hl (W6 k1 i) hk2 (p+1) hp2 (by omega) r (j+200) hr (by omega) (by omega)) rfl (by simp [g72]) (by simp [go_sem,g72]) fun k9 hk9=>?_
 simp [go_sem,VN_,g72]
 apply hK
 refine rG ?_
 refine A4 ?_
 simp [go_sem,hst,g72]
theorem zL4 (f:Nat->Int):List.drop 8 (J0 f)=[]:=rfl
theorem Uk_ (f:Nat->Int) (S:List Nat) (H:A8) (d:Nat):(J0 f).map (frz S H d)=J0 f:=by cases d<;>rfl
theorem zL5 (g:List (Nat->Int)) (S:List Nat) (H:A8) (d:Nat):(E1 g).map (Q5 (frz S H d))=E1 g:=by
 simp only [E1,map_map]
 exact map_congr_left fun f _=>by simp only [Function.comp,Q5,Uk_]
theorem zZ7 (k:List Int) (n:Nat):List.take n (E1 (gA k n))=E1 (gA k n):=take_of_length_le (by simp [E1,gA])
theorem zh5 (t:Tst) (ht:t.ths.length<=4) (hlt:∀ x∈t.ths,x.length<=1000) (hrd:∀ l∈t.ths,∀ x∈l,Xq_ x.op=true->0<=x.rd/\x.rd<8) (hlo:t.locs.length<=8) (k:List Int) (hk:k.length=112) (D:List (List Int)) (hD:∀ q∈D,q.length=41) (r n:Nat) (hr:2<r) (hrn:r<n):Sl.Fn Tryz.prog 131 [.ptr 2 0 0,.ptr r 0 0] [(2,.rows 3 [.agg [.rp t.cs 0,.map 0,.map 1]]),(1,.map (S0 D)),(r,.rows 112 [.agg (mV k)])] n fun v H _=>v=.tup []/\H=[(2,.rows 3 [.agg [.rp t.cs 0,.map 0,.map 1]]),(1,.map (S0 (zNn (WH_ t k) D))),(r,.rows 112 [.agg (mV k)])]:=by
 refine Fn.view ?_
 have g77:¬ r=2/\¬ 2=r/\¬ r=1/\¬ 1=r/\¬ r=n/\¬ n=r/\¬ 2=n/\¬ n=2/\¬ 1=n/\¬ n=1:=by and_intros<;>omega
 have hke:(WH_ t k).length=41:=Zn_ ht hlo _ _
 have hn0:(0:Int)<=(t.ths.length:Nat):=by omega
 refine B7 T_ok func131 rfl rfl ntmps131 rfl (by simp) ?_
 refine rK fun K hK=>?_
 simp [go_sem,g77,Tst.cs,hn0]
 repeat refine ⟨by omega,?_⟩
 apply hK
 refine A3 fun K1 hK1=>?_
 refine rG ?_
 apply A0
 refine A9 (α:=Nat) (fun a=>⟨45,[(0,.ptr 2 0 0),(1,.ptr r 0 0),(4,.sl n 0 t.ths.length),(16,iV (t.ths.length:Nat)),(17,iV (a:Nat))],[(n,.rows 8 (E1 (gI k t.ths.length a))),(2,.rows 3 [.agg [.rp t.cs 0,.map 0,.map 1]]),(1,.map (S0 D)),(r,.rows 112 [.agg (mV k)])],n+1⟩) (fun a=>a<=t.ths.length) (fun a=>t.ths.length-a) 0 ?_ ?_ ?_
 .exact Nat.zero_le _
 .refine Weaker.fw 1 0 ?_ ?_<;>simp [go_sem,g77,zKd,Tst.cs,replicate_succ]
 rintro i hi
 skip
 refine rG ?_
 refine A3 fun K2 hK2=>?_
 refine cJ (fun h=>?_) fun h=>?_
 .simp at h
  obtain rfl:i=t.ths.length:=by omega
  clear h
  apply A6
  apply hK1
  have hmk:Pf Tryz.prog 141 [.rp t.cs 0,.ro 8 (E1 (gA k t.ths.length)),.agg (J0 (fM k))] (.agg (stK (WH_ t k))):=zKt t ht hlt hrd hlo (gA k t.ths.length) (zT3 _ _) (fM k)
  have he:E7 [EK.int,EK.int,EK.int,EK.int,EK.int,EK.int,EK.int,EK.int,EK.int,EK.int,EK.int,EK.int,EK.int,EK.int,EK.int,EK.int,EK.int,EK.int,EK.int,EK.int,EK.int,EK.int,EK.int,EK.int,EK.int,EK.int,EK.int,EK.int,EK.int,EK.int,EK.int,EK.int,EK.int,EK.int,EK.int,EK.int,EK.int,EK.int,EK.int,EK.int,EK.int] (stK (WH_ t k)) (stK (WH_ t k))=_:=zDi hke hke
  have hi:Js_ [EK.int,EK.int,EK.int,EK.int,EK.int,EK.int,EK.int,EK.int,EK.int,EK.int,EK.int,EK.int,EK.int,EK.int,EK.int,EK.int,EK.int,EK.int,EK.int,EK.int,EK.int,EK.int,EK.int,EK.int,EK.int,EK.int,EK.int,EK.int,EK.int,EK.int,EK.int,EK.int,EK.int,EK.int,EK.int,EK.int,EK.int,EK.int,EK.int,EK.int,EK.int] (stK (WH_ t k)) (bV true) (S0 D)=_:=UL_ hke hD
  have ha:(if WH_ t k∈D then D else D++[WH_ t k])=zNn (WH_ t k) D:=rfl
  rw [ha] at hi
  refine dE 14 [[],[0],[0,1],[0,1,2],[],[4],[4,5],[4,5,6],[],[],[9],[9,10],[9,10,11],[4,5,6,7,8,9,10,11,12],[0,1,2,3,4,5,6,7,8,9,10,11,12,13]] fun K hK=>?_
  first|dsimp only [List.take,List.drop]|dsimp [List.take,List.drop]
  simp [go_sem,g77,D0 hk,zYg hk]
  refine Xx_ hmk (u6 (X2 _)) 2 (by simp [go_sem,zgg,zT3,zL5,zZ7,Uk_,g77]) ?_
  simp [go_sem,he,hi,g77]
  apply hK
  refine ⟨.inl rfl,?_⟩
  simp [go_sem]
  exact ⟨_,_,View.del n _,rfl,by simp [Sl.del,g77]⟩
 simp at h
 have hin:i<t.ths.length:=by omega
 clear h
 have g78:(i:Int)<(t.ths.length:Nat)/\(i:Int)<4/\(0:Int)<=(i:Nat):=by and_intros<;>omega
 have hi4:i<4:=by omega
 have hw:=wI i
 apply A1
 apply hK2
 refine A3 fun K3 hK3=>?_
 apply A0
 refine rG ?_
 refine rE fun K hK=>?_
 simp [go_sem,g77,hin,g78,hi4,D0 hk,zYf hk hi4,zT2,zL4,zgh hin]
 repeat refine ⟨by omega,?_⟩
 apply hK
 apply hK3
 refine rF ?_ fun K h=>by simp [go_sem,hw];exact h
 refine ⟨i+1,?_,?_,?_⟩
 .omega
 .omega
 refine Weaker.fw 1 0 ?_ ?_<;>simp [go_sem,g77,zKd,Tst.cs,replicate_succ]
theorem zZ8 {t:Tst} (ht:TTOk t):∀ l∈t.ths,∀ x∈l,Xq_ x.op=true->0<=x.rd/\x.rd<8:=fun l hl x hx _=>by
 obtain ⟨i,hi⟩:=List.getElem?_of_mem hl
 obtain ⟨p,hp⟩:=List.getElem?_of_mem hx
 have:=(ht.thr i l hi).2 p x hp
 exact ⟨this.rd0,this.rd8⟩
theorem Ul_ {t:Tst} (ht:TTOk t):∀ x∈t.ths,x.length<=1000:=fun l hl=>by
 obtain ⟨i,hi⟩:=List.getElem?_of_mem hl
 have:=(ht.thr i l hi).1
 omega
abbrev exH (t:Tst) (s:Ex):A8:=[(2,.rows 3 [.agg [.rp t.cs 0,.map 0,.map 1]]),(0,.map (YD_ s.1)),(1,.map (S0 s.2))]
def zol (t:Tst) (n:Nat):Prop:=∀ k,MOk t k->muT t k<n->∀ s,ExOk s->∀ j,2<j->Sl.Fn Tryz.prog 71 [.ptr 2 0 0,.agg (mV k)] (exH t s) j fun v H _=>v=.tup []/\H=exH t (F0 t n k s)
theorem zBe (t:Tst) (ht:TTOk t) (n:Nat) (ih:zol t n) (k:List Int) (hM:MOk t k) (hmu:muT t k<n+1) (s:Ex) (hs:ExOk s) (j:Nat) (hj:2<j):Sl.Fn Tryz.prog 71 [.ptr 2 0 0,.agg (mV k)] (exH t s) j fun v H _=>v=.tup []/\H=exH t (F0 t (n+1) k s):=by
 refine Fn.view ?_
 have g79:¬ j=0/\¬ 0=j/\¬ j=1/\¬ 1=j/\¬ j=2/\¬ 2=j:=by and_intros<;>omega
 have hk:=hM.len
 have hkl:(mV k).length=112:=D0 hk
 have hko:=zK3 k
 have hkt:List.take 112 (mV k)=mV k:=take_of_length_le (by omega)
 have hf:=VX_ hk hs.seen
 have hi2:=Q4_ hk hs.seen
 have he:E7 [EK.int,EK.int,EK.int,EK.int,EK.int,EK.int,EK.int,EK.int,EK.int,EK.int,EK.int,EK.int,EK.int,EK.int,EK.int,EK.int,EK.int,EK.int,EK.int,EK.int,EK.int,EK.int,EK.int,EK.int,EK.int,EK.int,EK.int,EK.int,EK.int,EK.int,EK.int,EK.int,EK.int,EK.int,EK.int,EK.int,EK.int,EK.int,EK.int,EK.int,EK.int,EK.int,EK.int,EK.int,EK.int,EK.int,EK.int,EK.int,EK.int,EK.int,EK.int,EK.int,EK.int,EK.int,EK.int,EK.int,EK.int,EK.int,EK.int,EK.int,EK.int,EK.int,EK.int,EK.int,EK.int,EK.int,EK.int,EK.int,EK.int,EK.int,EK.int,EK.int,EK.int,EK.int,EK.int,EK.int,EK.int,EK.int,EK.int,EK.int,EK.int,EK.int,EK.int,EK.int,EK.int,EK.int,EK.int,EK.int,EK.int,EK.int,EK.int,EK.int,EK.int,EK.int,EK.int,EK.int,EK.int,EK.int,EK.int,EK.int,EK.int,EK.int,EK.int,EK.int,EK.int,EK.int,EK.int,EK.int,EK.int,EK.int,EK.int,EK.int] (mV k) (mV k)=some (decide (k=k)):=zY7 hk hk
 have hf1:Yo_ [EK.int,EK.int,EK.int,EK.int,EK.int,EK.int,EK.int,EK.int,EK.int,EK.int,EK.int,EK.int,EK.int,EK.int,EK.int,EK.int,EK.int,EK.int,EK.int,EK.int,EK.int,EK.int,EK.int,EK.int,EK.int,EK.int,EK.int,EK.int,EK.int,EK.int,EK.int,EK.int,EK.int,EK.int,EK.int,EK.int,EK.int,EK.int,EK.int,EK.int,EK.int,EK.int,EK.int,EK.int,EK.int,EK.int,EK.int,EK.int,EK.int,EK.int,EK.int,EK.int,EK.int,EK.int,EK.int,EK.int,EK.int,EK.int,EK.int,EK.int,EK.int,EK.int,EK.int,EK.int,EK.int,EK.int,EK.int,EK.int,EK.int,EK.int,EK.int,EK.int,EK.int,EK.int,EK.int,EK.int,EK.int,EK.int,EK.int,EK.int,EK.int,EK.int,EK.int,EK.int,EK.int,EK.int,EK.int,EK.int,EK.int,EK.int,EK.int,EK.int,EK.int,EK.int,EK.int,EK.int,EK.int,EK.int,EK.int,EK.int,EK.int,EK.int,EK.int,EK.int,EK.int,EK.int,EK.int,EK.int,EK.int,EK.int,EK.int,EK.int] (mV k) (YD_ s.1)=some (if k∈s.1 then some (bV true) else none):=hf
 have hi1:Js_ [EK.int,EK.int,EK.int,EK.int,EK.int,EK.int,EK.int,EK.int,EK.int,EK.int,EK.int,EK.int,EK.int,EK.int,EK.int,EK.int,EK.int,EK.int,EK.int,EK.int,EK.int,EK.int,EK.int,EK.int,EK.int,EK.int,EK.int,EK.int,EK.int,EK.int,EK.int,EK.int,EK.int,EK.int,EK.int,EK.int,EK.int,EK.int,EK.int,EK.int,EK.int,EK.int,EK.int,EK.int,EK.int,EK.int,EK.int,EK.int,EK.int,EK.int,EK.int,EK.int,EK.int,EK.int,EK.int,EK.int,EK.int,EK.int,EK.int,EK.int,EK.int,EK.int,EK.int,EK.int,EK.int,EK.int,EK.int,EK.int,EK.int,EK.int,EK.int,EK.int,EK.int,EK.int,EK.int,EK.int,EK.int,EK.int,EK.int,EK.int,EK.int,EK.int,EK.int,EK.int,EK.int,EK.int,EK.int,EK.int,EK.int,EK.int,EK.int,EK.int,EK.int,EK.int,EK.int,EK.int,EK.int,EK.int,EK.int,EK.int,EK.int,EK.int,EK.int,EK.int,EK.int,EK.int,EK.int,EK.int,EK.int,EK.int,EK.int,EK.int] (mV k) (bV true) (YD_ s.1)=some (YD_ (if k∈s.1 then s.1 else s.1++[k])):=hi2
 clear hf hi2
 have hn0:(0:Int)<=(t.ths.length:Nat):=by omega
 have hall:=fun i (hi:i<=t.ths.length)=>zB6 ht hM (fun q s hq hs=>w4 ht n q s hq hs) i hi (s:=(s.1++[k],s.2)) ⟨fun q hq=>by rcases List.mem_append.1 hq with hq|hq;exact hs.seen q hq;simp at hq;subst hq;exact hM.len,hs.ends⟩
 refine B7 T_ok func71 rfl rfl ntmps71 rfl (by simp) ?_
 refine rK fun K hK=>?_
 simp [go_sem,hkl,hko,hkt,g79]
 refine ⟨hko,?_⟩
 apply hK
 refine A3 fun K1 hK1=>?_
 refine dK 5 [[],[0],[0,1],[0,1,2],[],[0,1,2,3,4]] fun K hK=>?_
 first|dsimp only [List.take,List.drop]|dsimp [List.take,List.drop]
 simp [go_sem,hkl,hko,hkt,g79,he,hf1]
 by_cases hk1:k∈s.1
 .simp [go_sem,hk1]
  apply hK
  refine cJ (fun h=>?_) fun h=>?_
  .simp at h
  clear h
  refine A4 ?_
  have hex:F0 t (n+1) k s=s:=by rw [F0,if_pos hk1]
  rw [hex]
  simp [go_sem]
  exact ⟨_,_,View.del j _,rfl,by simp [Sl.del,g79]⟩
 simp [go_sem,hk1]
 apply hK
 refine cK (fun h=>?_) fun h=>?_
 .simp at h
 clear h
 apply A1
 apply hK1
 refine dK 5 [[],[0],[0,1],[0,1,2],[],[0,1,2,3,4]] fun K hK=>?_
 first|dsimp only [List.take,List.drop]|dsimp [List.take,List.drop]
 simp [go_sem,hkl,hko,hkt,g79,he,hi1,hk1]
 apply hK
 refine rG ?_
 refine A3 fun K2 hK2=>?_
 refine rG ?_ fun K h=>by simp [go_sem,g79,Tst.cs];exact h
 apply A0
 refine A9 (α:=Nat × Nat) (fun a=>⟨59,[(0,.ptr 2 0 0),(3,.ptr j 0 0),(26,iV (t.ths.length:Nat)),(27,iV (a.1:Nat)),(4,bV (WI_ t k a.1))],[(j,.rows 112 [.agg (mV k)]),(2,.rows 3 [.agg [.rp t.cs 0,.map 0,.map 1]]),(0,.map (YD_ (W5 (F0 t n) t k a.1 (s.1++[k],s.2)).1)),(1,.map (S0 (W5 (F0 t n) t k a.1 (s.1++[k],s.2)).2))],a.2⟩) (fun a=>a.1<=t.ths.length/\j<a.2) (fun a=>t.ths.length-a.1) (0,j+1+5+5) ?_ ?_ ?_
 .exact ⟨Nat.zero_le _,by dsimp only;omega⟩
 .refine Weaker.fy 1 0 ?_ ?_
  .simp [go_sem,WI_,g79]
  simp [go_sem,W5,Tst.cs,g79]
 rintro ⟨i,jn⟩ ⟨hi,hjn⟩
 dsimp only at hi hjn ⊢
 have g80:¬ jn=0/\¬ 0=jn/\¬ jn=1/\¬ 1=jn/\¬ jn=2/\¬ 2=jn/\¬ j=jn/\¬ jn=j:=by and_intros<;>omega
 refine rG ?_
 refine A3 fun K3 hK3=>?_
 refine cJ (fun h=>?_) fun h=>?_
 .simp at h
  obtain rfl:i=t.ths.length:=by omega
  clear h
  apply A6
  apply hK2
  refine rG ?_
  refine cJ (fun h=>?_) fun h=>?_
  .have hov:¬ WI_ t k t.ths.length=true:=by simpa using h
   have hex:F0 t (n+1) k s=(W5 (F0 t n) t k t.ths.length (s.1++[k],s.2)):=by rw [F0,if_neg hk1];dsimp only;rw [if_neg hov]
   apply A1
   refine ⟨.inl rfl,?_⟩
   rw [hex]
   simp [go_sem]
   exact ⟨_,_,View.del j _,rfl,by simp [Sl.del,g79]⟩
  have hov:WI_ t k t.ths.length=true:=h
  have hex:F0 t (n+1) k s=((W5 (F0 t n) t k t.ths.length (s.1++[k],s.2)).1,zNn (WH_ t k) (W5 (F0 t n) t k t.ths.length (s.1++[k],s.2)).2):=by rw [F0,if_neg hk1];dsimp only;rw [if_pos hov]
  have hSN:=hall t.ths.length (Nat.le_refl _)
  refine rE fun K hK=>?_
  simp [go_sem,g79]
  refine D7 (zh5 t ht.ths (Ul_ ht) (zZ8 ht) ht.locs k hk (W5 (F0 t n) t k t.ths.length (s.1++[k],s.2)).2 hSN.ends j jn (by omega) (by omega)) rfl (by simp [g79]) (by simp [go_sem,g79]) fun k14 hk14=>?_
  simp [go_sem,VN_,g79]
  apply hK
  refine ⟨.inl rfl,?_⟩
  rw [hex]
  simp [go_sem]
  exact ⟨_,_,View.del j _,rfl,by simp [Sl.del,g79]⟩
 simp at h
 have hin:i<t.ths.length:=by omega
 clear h
 have hi4:i<4:=by have:=ht.ths;omega
 have g81:(i:Int)<4/\(0:Int)<=(i:Nat):=by and_intros<;>omega
 have hw1:IntKind.i64.wrap ((i:Nat)+1)=(i:Nat)+1:=E4 (by omega) (by have:=ht.ths;omega)
 have hx:t.ths[i]?=some (lth t i):=by rw [lth,List.getD,List.getElem?_eq_getElem hin];rfl
 have hl:=ht.thr i _ hx
 obtain ⟨p,w,hp,hw,hwp,hpl⟩:=hM.th i hi4
 have hSI:=hall i hi
 apply A1
 apply hK3
 refine A3 fun K4 hK4=>?_
 apply A0
 refine rG ?_
 refine rK fun K hK=>?_
 simp [go_sem,hkl,hko,hkt,g79,g80]
 refine ⟨hko,?_⟩
 apply hK
 refine zD6 (fun ku:Nat=>⟨59,[(0,.ptr 2 0 0),(3,.ptr j 0 0),(26,iV (t.ths.length:Nat)),(27,iV (i:Nat)),(4,bV (WI_ t k i&&(H9 (lth t i) i k).isNone)),(5,iV (i:Nat))],[(j,.rows 112 [.agg (mV k)]),(2,.rows 3 [.agg [.rp t.cs 0,.map 0,.map 1]]),(0,.map (YD_ (Yv_ (F0 t n) t k i (W5 (F0 t n) t k i (s.1++[k],s.2))).1)),(1,.map (S0 (Yv_ (F0 t n) t k i (W5 (F0 t n) t k i (s.1++[k],s.2))).2))],ku⟩) (fun ku:Nat=>j<ku) ?_ ?_
 .skip
  refine rK fun K hK=>?_
  simp [go_sem,g79,g80]
  refine D7 (zZ6 t i hi4 (lth t i) hx hl k hk p hp hpl w hw hwp (hM.loc i hi4) jn (jn+1) (by omega) (by omega) (by omega)) rfl (by simp [g80]) (by simp [go_sem,g79,g80]) fun k9 hk9=>?_
  simp [go_sem,VN_,g79,g80]
  apply hK
  refine cJ (fun h=>?_) fun h=>?_
  .have hq:H9 (lth t i) i k=none:=by simpa using h
   have hv1:Yv_ (F0 t n) t k i (W5 (F0 t n) t k i (s.1++[k],s.2))=(W5 (F0 t n) t k i (s.1++[k],s.2)):=by unfold Yv_;rw [hq]
   obtain ⟨ku,hku⟩:∃ ku,ku=k9:=⟨_,rfl⟩
   apply A1
   refine ⟨ku,by omega,?_⟩
   refine Weaker.fy 1 0 ?_ ?_<;>simp [go_sem,hq,hv1,g79,g80]
  obtain ⟨q,hq⟩:∃ q,H9 (lth t i) i k=some q:=Option.isSome_iff_exists.1 (by simpa using h)
  have hqm:=V0 ht hM hx hq
  have hql:(mV q).length=112:=D0 hqm.1.len
  have hqo:=zK3 q
  have hqt:List.take 112 (mV q)=mV q:=take_of_length_le (by omega)
  have hv1:Yv_ (F0 t n) t k i (W5 (F0 t n) t k i (s.1++[k],s.2))=F0 t n q (W5 (F0 t n) t k i (s.1++[k],s.2)):=by unfold Yv_;rw [hq]
  refine rG ?_
  refine rE fun K hK=>?_
  simp [go_sem,g79,g80,hq,hql,hqt]
  refine D7 (ih q hqm.1 (by omega) (W5 (F0 t n) t k i (s.1++[k],s.2)) hSI k9 (by omega)) rfl (by simp) (by simp [go_sem,g79,g80]) fun k10 hk10=>?_
  simp [go_sem,VN_,g79,g80]
  obtain ⟨ku,hku⟩:∃ ku,ku=k10:=⟨_,rfl⟩
  apply hK
  refine ⟨ku,by omega,?_⟩
  refine Weaker.fy 1 0 ?_ ?_<;>simp [go_sem,hq,hv1,g79,g80]
 rintro ku hku
 have g82:¬ ku=0/\¬ 0=ku/\¬ ku=1/\¬ 1=ku/\¬ ku=2/\¬ 2=ku/\¬ j=ku/\¬ ku=j:=by and_intros<;>omega
 have hS1:=zB5 ht hM hin (fun q s hq hs=>w4 ht n q s hq hs) hSI
 refine rK fun K hK=>?_
 simp [go_sem,g79,g80,D0 hk,D2 hk hi4,hw,hi4,g81]
 repeat refine ⟨by omega,?_⟩
 apply hK
 refine cJ (fun h=>?_) fun h=>?_
 .have hw0:w=0:=by simpa using h
  have hvs:zKe (F0 t n) t k i (W5 (F0 t n) t k i (s.1++[k],s.2))=(Yv_ (F0 t n) t k i (W5 (F0 t n) t k i (s.1++[k],s.2))):=by unfold zKe;rw [if_neg (by omega)]
  have hov:decide (gt k (i*26+1)<=0)=true:=by simp;omega
  obtain ⟨kv,hkv⟩:∃ kv,kv=ku:=⟨_,rfl⟩
  apply A1
  apply hK4
  refine rF ?_ fun K h=>by simp [go_sem,hw1];exact h
  refine ⟨(i+1,kv),?_,?_,?_⟩
  .dsimp only;exact ⟨by omega,by omega⟩
  .dsimp only;omega
  refine Weaker.fy 1 0 ?_ ?_
  .simp [go_sem,YH_,hov,g79,g80,g82]
  simp [go_sem,W5,hvs,g79,g80,g82]
 have hw0:0<w:=by simpa using h
 obtain ⟨w',rfl⟩:∃ w',w=w'+1:=⟨w-1,by omega⟩
 have hl8:=hl.1
 have hds:=V3 (w:=w') hk hi4 (by omega) (hM.loc i hi4)
 have hdl:(I4 k i w').length=112:=Va_ hk hi4 w'
 have hdL:locT (lth t i) i ((lth t i).length+1) (I4 k i w')=T0 t k i:=by unfold T0;rw [hw];rfl
 have hdm:=V4 ht hM hx (by omega)
 have hgl:(mV (T0 t k i)).length=112:=D0 hdm.1.len
 have hgo:=zK3 (T0 t k i)
 have hgt:List.take 112 (mV (T0 t k i))=mV (T0 t k i):=take_of_length_le (by omega)
 have hvs:zKe (F0 t n) t k i (W5 (F0 t n) t k i (s.1++[k],s.2))=F0 t n (T0 t k i) (Yv_ (F0 t n) t k i (W5 (F0 t n) t k i (s.1++[k],s.2))):=by unfold zKe;rw [if_pos (by omega)]
 have hov:decide (gt k (i*26+1)<=0)=false:=by simp;omega
 refine rG ?_
 refine rK fun K hK=>?_
 simp [go_sem,hkl,hko,hkt,g79,g82]
 refine ⟨hko,?_⟩
 apply hK
 refine rK fun K hK=>?_
 simp [go_sem,g79,g82]
 refine D7 (zQs k hk i hi4 w' (by rw [hw];rfl) (by omega) (hM.loc i hi4 0 (by omega)) ku (ku+1)) rfl (by simp) (by simp [go_sem,g79,g82]) fun k11 hk11=>?_
 simp [go_sem,VN_,g79,g82]
 apply hK
 refine rK fun K hK=>?_
 simp [go_sem,g79,g82,hi4,g81]
 refine D7 (Uj_ t i hi4 (lth t i) hx hl (I4 k i w') hdl p (hds.2.1.trans hp) hpl ku k11 (by omega) (by omega) (by omega)) rfl (by simp [g82]) (by simp [go_sem,g79,g82]) fun k12 hk12=>?_
 simp [go_sem,VN_,hdL,g79,g82]
 apply hK
 refine rE fun K hK=>?_
 simp [go_sem,g79,g82,hgl,hgt]
 refine D7 (ih (T0 t k i) hdm.1 (by omega) (Yv_ (F0 t n) t k i (W5 (F0 t n) t k i (s.1++[k],s.2))) hS1 k12 (by omega)) rfl (by simp) (by simp [go_sem,g79,g82]) fun k13 hk13=>?_
 simp [go_sem,VN_,g79,g82]
 obtain ⟨kv,hkv⟩:∃ kv,kv=k13:=⟨_,rfl⟩
 apply hK
 apply hK4
 refine rF ?_ fun K h=>by simp [go_sem,hw1];exact h
 refine ⟨(i+1,kv),?_,?_,?_⟩
 .dsimp only;exact ⟨by omega,by omega⟩
 .dsimp only;omega
 refine Weaker.fy 1 0 ?_ ?_
 .simp [go_sem,YH_,hov,g79,g80,g82]
 simp [go_sem,W5,hvs,g79,g80,g82]
theorem Vi_ {t:Tst} (ht:TTOk t):∀ n,zol t n
 | 0=>fun k _ h=>absurd h (Nat.not_lt_zero _)
 | n+1=>fun k hM hmu s hs j hj=>zBe t ht n (Vi_ ht n) k hM hmu s hs j hj
theorem zGc {t:Tst} {i:Nat} {l:Ini} (h:t.locs[i]?=some l):Zs_ t (i+1)=(Zs_ t i).set (104+i) l.v:=by rw [Zs_,List.getD,h];rfl
theorem zL6 (t:Tst) (ht:TTOk t) (hnp:R4 t.ths=false) (hb:(I3 t).length<=400000000000):Pf Tryz.prog 21 [.rp t.cs 0] (.tup [.ro 41 (stR (L5 (I3 t))),bV true]):=by
 refine Pf.of_fn (.cons (x5 t) .nil) (.tup (.cons (WQ_ _) (.cons (.val _) .nil))) ?_
 have hl8:=ht.locs
 have ht4:=ht.ths
 refine B7 T_ok func21 rfl rfl ntmps21 rfl (by simp) ?_
 refine rG ?_
 refine A3 fun K1 hK1=>?_
 refine rK fun K hK=>?_
 simp [go_sem]
 refine A2 (ZD_ t (by omega) (Ul_ ht)) ?_
 simp [go_sem,hnp]
 apply hK
 refine cK (fun h=>?_) fun h=>?_
 .simp at h
 clear h
 apply A1
 apply hK1
 refine rG ?_
 refine rG ?_
 refine A3 fun K2 hK2=>?_
 refine rG ?_ fun K h=>by simp [go_sem,Tst.cs];exact h
 apply A0
 refine A9 (α:=Nat × Nat) (fun a=>⟨55,[(0,.rp t.cs 0),(4,.ptr 2 0 0),(5,.ptr 3 0 0),(19,.ro 2 (Z1 t.locs)),(20,iV (t.locs.length:Nat)),(21,iV (a.1:Nat))],[(3,.rows 112 [.agg (mV (Zs_ t a.1))]),(2,.rows 3 [.agg [.rp t.cs 0,.map 0,.map 1]]),(1,.map []),(0,.map [])],a.2⟩) (fun a=>a.1<=t.locs.length/\3<a.2) (fun a=>t.locs.length-a.1) (0,4) ?_ ?_ ?_
 .dsimp only;omega
 .refine Weaker.fy 1 0 ?_ ?_
  .simp [go_sem,Tst.cs]
  simp [go_sem,Tst.cs];rfl
 rintro ⟨i,jn⟩ ⟨hi,hjn⟩
 dsimp only at hi hjn ⊢
 have g83:¬ jn=0/\¬ 0=jn/\¬ jn=1/\¬ 1=jn/\¬ jn=2/\¬ 2=jn/\¬ jn=3/\¬ 3=jn:=by and_intros<;>omega
 refine rG ?_
 refine A3 fun K3 hK3=>?_
 refine cK (fun h=>?_) fun h=>?_
 .simp at h
  have hin:i<t.locs.length:=by omega
  clear h
  have hinI:(i:Int)<(t.locs.length:Nat):=by omega
  obtain ⟨l,hx,hx'⟩:=E0 hin
  have hi8:i<8:=by omega
  have g84:(i:Int)<8/\(0:Int)<=(i:Nat):=by and_intros<;>omega
  have hw:=wI i
  apply A1
  apply hK3
  refine A3 fun K4 hK4=>?_
  apply A0
  refine rG ?_ fun K h=>by simp [go_sem,hin,hinI,hx,hx',g84,Wp_,Ini.cs,g83];exact h
  refine rE fun K hK=>?_
  simp [go_sem,Wp_,Ini.cs,hi8,g84,D0 (r7 t i),XD_ (r7 t i) hi8,g83]
  repeat refine ⟨by omega,?_⟩
  apply hK
  apply hK4
  refine rF ?_ fun K h=>by simp [go_sem,hw];exact h
  refine ⟨(i+1,jn+50),?_,?_,?_⟩
  .dsimp only;omega
  .dsimp only;omega
  refine Weaker.fy 1 0 ?_ ?_
  .simp [go_sem,g83]
  simp [go_sem,zGc hx,g83]
 simp at h
 obtain rfl:i=t.locs.length:=by omega
 clear h
 apply A6
 apply hK2
 refine A3 fun K5 hK5=>?_
 refine rG ?_ fun K h=>by simp [go_sem,Tst.cs];exact h
 apply A0
 refine A9 (α:=Nat × Nat) (fun a=>⟨55,[(0,.rp t.cs 0),(4,.ptr 2 0 0),(5,.ptr 3 0 0),(36,iV (t.ths.length:Nat)),(37,iV (a.1:Nat))],[(3,.rows 112 [.agg (mV (N5 t a.1))]),(2,.rows 3 [.agg [.rp t.cs 0,.map 0,.map 1]]),(1,.map []),(0,.map [])],a.2⟩) (fun a=>a.1<=t.ths.length/\3<a.2) (fun a=>t.ths.length-a.1) (0,jn) ?_ ?_ ?_
 .dsimp only;omega
 .refine Weaker.fy 1 0 ?_ ?_
  .simp [go_sem,Tst.cs]
  simp [go_sem,N5,Tst.cs]
 rintro ⟨i,jn⟩ ⟨hi,hjn⟩
 dsimp only at hi hjn ⊢
 have g85:¬ jn=0/\¬ 0=jn/\¬ jn=1/\¬ 1=jn/\¬ jn=2/\¬ 2=jn/\¬ jn=3/\¬ 3=jn:=by and_intros<;>omega
 refine rG ?_
 refine A3 fun K6 hK6=>?_
 refine cJ (fun h=>?_) fun h=>?_
 .simp at h
  obtain rfl:i=t.ths.length:=by omega
  clear h
  apply A6
  apply hK5
  have hTM:=r9 ht
  have hl1:(mV (Yw_ t)).length=112:=D0 hTM.len
  have hl2:List.take 112 (mV (Yw_ t))=mV (Yw_ t):=take_of_length_le (by omega)
  have hsM:N5 t t.ths.length=Yw_ t:=rfl
  refine rK fun K hK=>?_
  simp [go_sem,hsM,hl1,hl2,g85]
  refine D7 (Vi_ ht (muT t (Yw_ t)+1) (Yw_ t) hTM (Nat.lt_succ_self _) ([],[]) ⟨fun _ h=>(by cases h),fun _ h=>(by cases h)⟩ jn (by omega)) rfl (by simp) (by simp [go_sem,YD_,S0,g85]) fun k9 hk9=>?_
  simp [go_sem,VN_,g85]
  apply hK
  have hE:(F0 t (muT t (Yw_ t)+1) (Yw_ t) ([],[])).2=I3 t:=rfl
  have hE1:=(w4 ht (muT t (Yw_ t)+1) (Yw_ t) ([],[]) hTM ⟨fun _ h=>(by cases h),fun _ h=>(by cases h)⟩).ends
  have hE2:=j9 ht (muT t (Yw_ t)+1) (Yw_ t) ([],[]) hTM nodup_nil
  rw [hE] at hE1 hE2
  refine rK fun K hK=>?_
  simp [go_sem,g85,hE]
  refine zHm ((of_fn (I3 t) hE1 hE2 hb 1 k9 (by omega)).frame (G:=[_,_,_]) (perm_middle (l₁:=[_,_]) (l₂:=[_])) ?_)
  rintro v H' k' hk' ⟨rfl,rfl⟩
  simp [go_sem]
  apply hK
  refine A4 ?_
  simp [go_sem]
 simp at h
 have hin:i<t.ths.length:=by omega
 clear h
 have hi4:i<4:=by omega
 have g86:(i:Int)<4/\(0:Int)<=(i:Nat):=by and_intros<;>omega
 have hw:=wI i
 have hx:t.ths[i]?=some (lth t i):=by rw [lth,List.getD,List.getElem?_eq_getElem hin];rfl
 have hl:=ht.thr i _ hx
 have hM:=(r8 ht i hi).1
 obtain ⟨p,w,hp,hw9,hwp,hpl⟩:=hM.th i hi4
 apply A1
 apply hK6
 refine A3 fun K7 hK7=>?_
 apply A0
 refine rG ?_
 refine rE fun K hK=>?_
 simp [go_sem,hi4,g86,g85]
 refine D7 (Uj_ t i hi4 (lth t i) hx hl (N5 t i) hM.len p hp hpl 3 jn (by omega) (by omega) (by omega)) rfl (by simp) (by simp [go_sem,g85]) fun k9 hk9=>?_
 simp [go_sem,VN_,g85]
 apply hK
 apply hK7
 refine rF ?_ fun K h=>by simp [go_sem,hw];exact h
 refine ⟨(i+1,k9),?_,?_,?_⟩
 .dsimp only;omega
 .dsimp only;omega
 refine Weaker.fy 1 0 ?_ ?_
 .simp [go_sem,g85]
 simp [go_sem,N5,g85]
theorem Yg_ (f:Bool):Pf Tryz.prog 65 [bV f] (.agg (W3_ f).cs):=by
 refine Pf.of_fz 2 (.cons (.val _) .nil) (.agg (Yb_ _)) ?_
 refine B7 T_ok func65 rfl rfl ntmps65 rfl (by simp) ?_
 refine rG ?_
 refine rG ?_
 refine A3 fun K1 hK1=>?_
 refine rG ?_
 apply A0
 refine Tr.weaken (Weaker.ghostH (sz:=3) (es:=[.agg [.sl 1 0 2,.val (.slice none 0 0),.val (.slice none 0 0)]]) 2 3 [.agg [.sl 1 0 2,.val (.slice none 0 0),.sl 3 0 0]] (by simp [Sl.look]) (by simp) (by simp) (by simp [V.fits,V.cells,V.one]) (by simp only [flatMap_cons,flatMap_nil,V.cells,append_nil];exact .same (.same (.to .nil)))) ?_
 simp only [Sl.put,if_true,if_false,Nat.reduceEqDiff,reduceIte]
 refine Tr.weaken (Weaker.ghostH (sz:=3) (es:=[.agg [.sl 1 0 2,.val (.slice none 0 0),.sl 3 0 0]]) 2 1 [.agg [.sl 1 0 2,.sl 4 0 0,.sl 3 0 0]] (by simp [Sl.look]) (by simp) (by simp) (by simp [V.fits,V.cells,V.one]) (by simp only [flatMap_cons,flatMap_nil,V.cells,append_nil];exact .same (.to (.same .nil)))) ?_
 simp only [Sl.put,if_true,if_false,Nat.reduceEqDiff,reduceIte]
 refine A9 (α:=Nat × Nat × Nat) (fun a=>⟨35,[(0,bV f),(2,.ptr 0 0 0),(3,.ptr 2 0 0),(4,iV (a.1:Nat))],[(0,.rows 3 [.agg [.val (.slice none 0 0),.val (.slice none 0 0),.val (.slice none 0 0)]]),(1,.rows 2 (Z1 zNo)),(2,.rows 3 [.agg [.sl 1 0 2,.sl a.2.2 0 a.1,.sl 3 0 0]]),(a.2.2,.rows 1 (O3 (zQ7 f a.1))),(3,.rows 3 [])],a.2.1⟩) (fun a=>a.1<=2/\3<a.2.2/\a.2.2<a.2.1) (fun a=>2-a.1) (0,5,4) ?_ ?_ ?_
 .dsimp only;omega
 .refine Weaker.fy 1 1 ?_ ?_
  .simp [go_sem]
  simp [go_sem,zNo,Z1,Wp_,Ini.cs,nmX,nmY,zQ7,O3]
 rintro ⟨i,j,m⟩ ⟨hi,hm1,hm2⟩
 dsimp only at hi hm1 hm2 ⊢
 have g87:¬ m=0/\¬ 0=m/\¬ m=1/\¬ 1=m/\¬ m=2/\¬ 2=m/\¬ m=3/\¬ 3=m/\¬ m=j/\¬ j=m/\¬ m=j+1/\¬ j+1=m/\¬ m=j+2/\¬ j+2=m/\¬ m=j+3/\¬ j+3=m/\¬ m=j+4/\¬ j+4=m/\¬ m=j+5/\¬ j+5=m/\¬ m=j+6/\¬ j+6=m/\¬ m=j+7/\¬ j+7=m/\¬ m=j+8/\¬ j+8=m/\¬ m=j+9/\¬ j+9=m/\¬ m=j+10/\¬ j+10=m/\¬ m=j+11/\¬ j+11=m/\¬ m=j+12/\¬ j+12=m/\¬ m=j+13/\¬ j+13=m/\¬ m=j+14/\¬ j+14=m/\¬ m=j+15/\¬ j+15=m/\¬ m=j+16/\¬ j+16=m/\¬ m=j+17/\¬ j+17=m/\¬ m=j+18/\¬ j+18=m/\¬ m=j+19/\¬ j+19=m/\¬ m=j+20/\¬ j+20=m/\¬ m=j+21/\¬ j+21=m/\¬ j=0/\¬ 0=j/\¬ j=1/\¬ 1=j/\¬ j=2/\¬ 2=j/\¬ j=3/\¬ 3=j:=by and_intros<;>omega
 refine A3 fun K2 hK2=>?_
 refine rG ?_
 refine cJ (fun h=>?_) fun h=>?_
 .obtain rfl:i=2:=by simp at h;omega
  apply A6
  apply hK1
  refine rG ?_
  refine A4 ?_
  simp [go_sem,zKf,zQ8,g87]
  exact ⟨rfl,rfl⟩
 have hi2:i<2:=by simp at h;omega
 have hw:=wI i
 have hmi:List.take i (O3 (zQ7 f i))=O3 (zQ7 f i):=take_of_length_le (by rw [zOz,Uc_ hi];omega)
 have hw2:IntKind.i64.wrap (1-(i:Int))=1-(i:Nat):=E4 (by omega) (by omega)
 apply A1
 apply hK2
 refine A3 fun K3 hK3=>?_
 apply A0
 refine rG ?_
 refine A3 fun K4 hK4=>?_
 refine rG ?_
 refine cK (fun h=>?_) fun h=>?_
 .have hf:f=true:=h
  refine rF ?_
  apply hK4
  refine Y9 T_ok (by kernel_rfl) 9 [[],[0],[],[],[3],[3,4],[3,4,5],[2,3,4,5,6],[2,3,4,5,6,7],[0,1,2,3,4,5,6,7,8],[0,1,2,3,4,5,6,7,8,9],[0,1,2,3,4,5,6,7,8,9,10]] [(0,6),(1,6),(2,6),(0,7),(1,7),(0,8),(1,8)] (by decide) (by decide) (by decide) fun K hK=>?_
  first|dsimp only [List.take,List.drop]|dsimp [List.take,List.drop]
  simp [go_sem,hw2,hmi,g87]
  refine ⟨by rw [Uc_ hi];omega,by omega,?_⟩
  apply hK
  apply hK3
  refine rF ?_ fun K h=>by simp [go_sem,hw];exact h
  refine ⟨(i+1,j+100,j+12),?_,?_,?_⟩
  .dsimp only;omega
  .dsimp only;omega
  refine Weaker.fy 1 1 ?_ ?_
  .simp [go_sem,g87]
  simp [go_sem,JB_ hi2,i9,Y9_,hf,zT5,Q9_,JA_,zgi,Y1,B5,Ins.cs,g87]
 have hf:f=false:=h
 apply A1
 apply hK4
 refine Y9 T_ok (by kernel_rfl) 9 [[],[0],[],[],[3],[3,4],[3,4,5],[2,3,4,5,6],[2,3,4,5,6,7],[0,1,2,3,4,5,6,7,8],[0,1,2,3,4,5,6,7,8,9],[0,1,2,3,4,5,6,7,8,9,10]] [(0,6),(1,6),(2,6),(0,7),(1,7),(0,8),(1,8)] (by decide) (by decide) (by decide) fun K hK=>?_
 first|dsimp only [List.take,List.drop]|dsimp [List.take,List.drop]
 simp [go_sem,hw2,hmi,g87]
 refine ⟨by rw [Uc_ hi];omega,by omega,?_⟩
 apply hK
 apply hK3
 refine rF ?_ fun K h=>by simp [go_sem,hw];exact h
 refine ⟨(i+1,j+100,j+10),?_,?_,?_⟩
 .dsimp only;omega
 .dsimp only;omega
 refine Weaker.fy 1 1 ?_ ?_
 .simp [go_sem,g87]
 simp [go_sem,JB_ hi2,i9,Y9_,hf,zT5,Q9_,JA_,zgi,Y1,B5,Ins.cs,g87]
theorem JP_ :Pf Tryz.prog 67 [.ro 1 [uV 0,uV 0,uV 1,uV 1]] (.agg (stK st4)):=by
 refine Pf.of_fn (.cons (.ro (fun v hv=>by simp at hv;rcases hv with rfl|rfl<;>exact .cons (.val _) .nil)) .nil) (.agg (VT_ _)) ?_
 refine B7 T_ok func67 rfl rfl ntmps67 rfl (by simp) ?_
 refine rG ?_
 refine rG ?_
 refine rK fun K hK=>?_
 simp [go_sem]
 trace_state
 apply hK
 refine rG ?_
 refine A4 ?_
 simp [go_sem]
 rfl
theorem zh6 (f:Bool):∀ q∈L5 (I3 (W3_ f)),q.length=41:=fun q hq=>by
 have:=mem_setOf.1 hq
 exact (w4 (YI_ f) _ _ _ (r9 (YI_ f)) ⟨fun _ h=>(by cases h),fun _ h=>(by cases h)⟩).ends q this
theorem zTd (f:Bool):(L5 (I3 (W3_ f))).length=(I3 (W3_ f)).length:=s5 (j9 (YI_ f) _ _ _ (r9 (YI_ f)) nodup_nil)
theorem w5:(L5 (I3 (W3_ false))).length=4:=by rw [zTd,zYj];rfl
theorem w6:(L5 (I3 (W3_ true))).length=3:=by rw [zTd,zYk];rfl
theorem Um_:decide (st4∈L5 (I3 (W3_ false)))=true:=by
 rw [decide_eq_true_eq,mem_setOf,zYj];exact .tail _ (.head _)
theorem zQt:decide (st4∈L5 (I3 (W3_ true)))=false:=by
 rw [decide_eq_false_iff_not,mem_setOf,zYk];decide
theorem JQ_ (f:Bool):R4 (W3_ f).ths=false:=by cases f<;>rfl
theorem zZ9 :Pf Tryz.prog 19 [] (bV true):=by
 refine Pf.of_fn .nil (.val _) ?_
 refine B7 T_ok func19 rfl rfl ntmps19 rfl (by simp) ?_
 refine rG ?_
 refine rK fun K hK=>?_
 simp [go_sem]
 refine A2 (Yg_ false) ?_
 simp [go_sem]
 refine A2 (Yg_ true) ?_
 simp [go_sem,zKf]
 apply hK
 refine Tr.weaken (Weaker.fz (t':=[(1,.rp (W3_ false).cs 0),(2,.rp (W3_ true).cs 0)]) (H':=[]) 1 0 (by simp [go_sem,zKf]) (by simp) (by simp)) ?_
 refine rK fun K hK=>?_
 simp [go_sem]
 refine A2 (zL6 (W3_ false) (YI_ _) (JQ_ _) (by rw [zYj];decide)) ?_
 simp [go_sem]
 apply hK
 refine rK fun K hK=>?_
 simp [go_sem]
 refine A2 (zL6 (W3_ true) (YI_ _) (JQ_ _) (by rw [zYk];decide)) ?_
 simp [go_sem]
 apply hK
 refine rK fun K hK=>?_
 simp [go_sem,w5,w6]
 trace_state
 refine u7 JP_ (u6 (X2 _)) 2 (by simp [go_sem]) ?_
 simp [go_sem,w5,w6]
 refine A2 (JN_ _ (zh6 false) (J2 _) (by rw [w5];decide) st4 rfl) ?_
 simp [go_sem,w5,w6,Um_]
 refine u7 JP_ (u6 (X2 _)) 2 (by simp [go_sem]) ?_
 simp [go_sem,w5,w6,Um_]
 refine A2 (JN_ _ (zh6 true) (J2 _) (by rw [w6];decide) st4 rfl) ?_
 simp [go_sem,w5,w6,Um_,zQt]
 apply hK
 refine A4 ?_
 simp [go_sem]
theorem zQu (t:Tst) (hn:∀ l∈t.locs,l.name.size<=1000000) (n:Int):Pf Tryz.prog 20 [.agg t.cs,iV n] (iV (Yf_ t n)):=by
 refine Pf.of_fn (.cons (.agg (Yb_ t)) (.cons (.val _) .nil)) (.val _) ?_
 refine B7 T_ok func20 rfl rfl ntmps20 rfl (by simp) ?_
 refine rG ?_ fun K h=>by simp [go_sem,Tst.cs];exact h
 refine A3 fun K1 hK1=>?_
 refine Tr.weaken (Weaker.fz (H':=[]) (t':=[(1,iV n),(2,.rp t.cs 0)]) 1 0 ?_ ?_ ?_) ?_
 .simp [go_sem,Tst.cs]
 .simp
 .simp
 refine rK fun K hK=>?_
 simp [go_sem]
 refine A2 zZ9 ?_
 simp [go_sem]
 refine A2 (zPh t hn) ?_
 by_cases hc:I7 t=0
 .have hcb:(I7 t==0)=true:=by simpa using hc
  simp [go_sem,hc]
  apply hK
  refine cK (fun h=>?_) fun h=>?_
  .simp at h
  clear h
  have hs:=O6 (Q7.1 hc).1
  have hu:=zDz hs.2.2.2.2.1
  apply A1
  apply hK1
  refine rG ?_
  refine A3 fun K2 hK2=>?_
  refine rG ?_ fun K h=>by simp [go_sem,Tst.cs];exact h
  apply A0
  refine A9 (α:=Nat × Nat) (fun a=>⟨38,[(1,iV n),(2,.rp t.cs 0),(17,.ro 1 (O3 t.ths)),(18,iV (t.ths.length:Nat)),(19,iV (a.1:Nat)),(5,iV (m9 t.ths a.1:Nat))],[],a.2⟩) (fun a=>a.1<=t.ths.length) (fun a=>t.ths.length-a.1) (0,1) ?_ ?_ ?_
  .exact Nat.zero_le _
  .refine Weaker.fw 1 0 ?_ ?_
   .simp [go_sem,m9,Tst.cs]
   simp [go_sem,Tst.cs]
  rintro ⟨i,jn⟩ hi
  dsimp only at hi ⊢
  refine rG ?_
  refine A3 fun K3 hK3=>?_
  refine cJ (fun h=>?_) fun h=>?_
  .simp at h
   obtain rfl:i=t.ths.length:=by omega
   clear h
   apply A6
   apply hK2
   refine A3 fun K7 hK7=>?_
   refine rG ?_
   refine cK (fun h=>?_) fun h=>?_
   .have hgt:n<(c9 t:Int):=by simpa [c9] using h
    refine rG ?_
    refine A4 ?_
    simp [go_sem,Yf_,hc,hgt]
   have hgt:¬ n<(c9 t:Int):=by simpa [c9] using h
   apply A1
   apply hK7
   refine rG ?_
   refine A4 ?_
   simp [go_sem,Yf_,hc,hgt]
  simp at h
  have hin:i<t.ths.length:=by omega
  clear h
  have hinI:(i:Int)<(t.ths.length:Nat):=by omega
  obtain ⟨l,hx,hx'⟩:=E0 hin
  have hi0:(0:Int)<=(i:Nat):=by omega
  have hl8:=hs.2.2.2.2.1 l (List.mem_of_getElem? hx)
  have hui:=hu i hi
  have ht4:=hs.2.1
  have hgl:t.ths.getD i []=l:=by rw [List.getD,hx];rfl
  have hw:=wI i
  apply A1
  apply hK3
  refine A3 fun K4 hK4=>?_
  apply A0
  refine rG ?_ fun K h=>by simp [go_sem,hin,hinI,hx,hx',hi0];exact h
  refine rG ?_
  apply A0
  refine A9 (α:=Nat × Nat) (fun b=>⟨38,[(1,iV n),(2,.rp t.cs 0),(17,.ro 1 (O3 t.ths)),(18,iV (t.ths.length:Nat)),(19,iV (i:Nat)),(23,.ro 13 (Y1 l)),(24,iV (l.length:Nat)),(25,iV (b.1:Nat)),(5,iV ((m9 t.ths i+Wt_ l b.1:Nat)))],[],b.2⟩) (fun b=>b.1<=l.length) (fun b=>l.length-b.1) (0,jn) ?_ ?_ ?_
  .exact Nat.zero_le _
  .refine Weaker.fw 1 0 ?_ ?_<;>simp [go_sem,Wt_]
  rintro ⟨b,j⟩ hib
  dsimp only at hib ⊢
  refine rG ?_
  refine A3 fun K5 hK5=>?_
  refine cJ (fun h=>?_) fun h=>?_
  .simp at h
   obtain rfl:b=l.length:=by omega
   clear h
   apply A6
   apply hK4
   refine rF ?_ fun K h=>by simp [go_sem,hw];exact h
   refine ⟨(i+1,j),?_,?_,?_⟩
   .dsimp only;omega
   .dsimp only;omega
   refine Weaker.fw 1 0 ?_ ?_
   .simp [go_sem,m9,hx]
   simp [go_sem,m9]
  simp at h
  have hbn:b<l.length:=by omega
  clear h
  have hbI:(b:Int)<(l.length:Nat):=by omega
  obtain ⟨x,hg,hg'⟩:=E0 hbn
  have hb0:(0:Int)<=(b:Nat):=by omega
  have hcl:=zKg l b
  have hw2:=wI b
  have hw3:IntKind.i64.wrap ((m9 t.ths i:Int)+(Wt_ l b:Int)+1)=(m9 t.ths i:Int)+((Wt_ l b:Int)+1):=by rw [E4 (by have:=ht4;omega) (by have:=ht4;omega)];omega
  apply A1
  apply hK5
  refine A3 fun K6 hK6=>?_
  apply A0
  refine rG ?_ fun K h=>by simp [go_sem,hbn,hbI,hg,hg',hb0,B5];exact h
  refine rK fun K hK=>?_
  simp [go_sem,B5]
  refine A2 (P0 x) ?_
  simp [go_sem]
  apply hK
  refine cK (fun h=>?_) fun h=>?_
  .have hm:G4 x.op=true:=h
   have hst:Wt_ l (b+1)=Wt_ l b+1:=by rw [JC_ hg,hm];rfl
   refine rF ?_ fun K h=>by simp [go_sem,hw3];exact h
   apply hK6
   refine rF ?_ fun K h=>by simp [go_sem,hw2];exact h
   refine ⟨(b+1,j+1),?_,?_,?_⟩
   .dsimp only;omega
   .dsimp only;omega
   refine Weaker.fw 1 0 ?_ ?_
   .simp [go_sem,hst]
   simp [go_sem,Wt_]
  have hm:G4 x.op=false:=h
  have hst:Wt_ l (b+1)=Wt_ l b:=by rw [JC_ hg,hm];rfl
  apply A1
  apply hK6
  refine rF ?_ fun K h=>by simp [go_sem,hw2];exact h
  refine ⟨(b+1,j+1),?_,?_,?_⟩
  .dsimp only;omega
  .dsimp only;omega
  refine Weaker.fw 1 0 ?_ ?_
  .simp [go_sem,hst]
  simp [go_sem,Wt_]
 simp [go_sem,hc]
 apply hK
 refine cJ (fun h=>?_) fun h=>?_
 .simp [hc] at h
 clear h
 refine rG ?_
 refine A4 ?_
 simp [go_sem,Yf_,hc]
theorem zZa {t:Tst}:∀ l∈(few t).locs,l.name.size<=1000000:=fun l hl=>by
 obtain ⟨l',_,rfl⟩:=List.mem_map.1 hl
 exact Nat.le_trans (zWv l'.name 20) (by decide)
theorem znm {t:Tst} (ht:TTOk t):∀ q∈L5 (I3 t),q.length=41:=fun q hq =>
 (w4 ht _ _ _ (r9 ht) ⟨fun _ h=>(by cases h),fun _ h=>(by cases h)⟩).ends q (mem_setOf.1 hq)
theorem zh7 {t:Tst} (ht:TTOk t):(L5 (I3 t)).length=(I3 t).length:=s5 (j9 ht _ _ _ (r9 ht) nodup_nil)
def plU (l:List (List Ins)) (i:Nat):List (List Ins):=(l.take i).map fun x=>x.map zh4
theorem zZb {a b:List (List Int)} (h:∀ e∈a,e∈b):decide (∀ x∈L5 a,x∈L5 b)=true:=by
 rw [decide_eq_true_eq]
 exact fun x hx=>mem_setOf.2 (h x (mem_setOf.1 hx))
end Go.Proofs.YtmpbalepefpllaaGreat
