/- Texts put together, in order: Sl14, Sl15, Sl16, Sl17, Sl18, W1, W2, W3, Gw1, Sl19, W9, Glita, Glitb, W10, W11, Glitg, Glith, Glitd, Glite. -/
import Derived.Orders
import Derived.JoinedOf
import Derived.SizedLaws
import Derived.Carry
import Derived.OpenShut
import Derived.WideShapes
import Derived.KernelRfl
import Derived.IntWalk
import Derived.Test.YtmpbalepefpllaaGreatD2
open List
set_option maxRecDepth 100000
set_option maxHeartbeats 16000000
set_option linter.unusedVariables false
set_option linter.unusedSimpArgs false
namespace Go.Sl
section
variable {fr:Nat->Prop} {F:Nat->Prop} {ι ι':E3} {O:Nat->Prop} {H H':A8} {σ σ':St} {a a':Act} {w w':World} {P:Program} {T:Tab}
structure PfH (P:Program) (f:FuncId) (args:List V) (H:A8) (r:V):Prop where
 enters:Enters P f
 calls:∀ F ι w cargs,VRels ι (Own F ι H) w args cargs->Rep F ι H w->Calls P f cargs.toArray w fun e w'=>∃ cv,e=.returned cv/\VRel ι (Own F ι H) w' r cv ∧
  w'.os=w.os/\Tp w w'/\w'.output=w.output/\w.heap.size<=w'.heap.size/\∀ b,b<w.heap.size->w'.heap[b]?=w.heap[b]?
theorem Rep.own_lt (R:Rep F ι H w):∀ b,Own F ι H b->b<w.heap.size:=by
 rintro b (hF|⟨n,B,l,hm,hl,hg,rfl⟩)
 .exact R.frame b hF
 obtain ⟨l',hl',_,h'⟩:=R.own n B hm
 rw [hl] at hl';cases hl'
 exact (h' hg).1
variable {args:List V} {f:FuncId} {r:V}
theorem Pf.pfH (h:Pf P f args r) (H:A8):PfH P f args H r :=
 ⟨h.enters,fun F ι w cargs h1 h2=>h.calls ι (Own F ι H) w cargs h2.own_lt h1⟩
theorem Rep.later (R : Rep F ι H w) (ho : w'.os = w.os) (ht : Tp w w') (hu : w'.output = w.output) (hs : w.heap.size ≤ w'.heap.size) (hb : ∀ b, b < w.heap.size → w'.heap[b]? = w.heap[b]?) :
    Rep F ι H w'/\Kept ι H w ι H w':=by
  have K':Kept ι H w ι H w':=⟨fun _ _ h=>h,ho,ht,hu,hs,fun b hb' _=>hb b hb',fun _ _ h=>h⟩
  refine ⟨⟨fun b hF=>Nat.lt_of_lt_of_le (R.frame b hF) hs,R.names,fun n B hm=>?_,R.apart⟩,K'⟩
  obtain ⟨l,hl,hB,hg⟩:=R.own n B hm
  exact ⟨l,hl,BRel.stays K'.stays (fun hgh=>hb _ (hg hgh).1) hB,fun hgh=>⟨Nat.lt_of_lt_of_le (hg hgh).1 hs,(hg hgh).2⟩⟩
theorem PfH.fn (h:PfH P f args H r) {k:Nat} {K:V->A8->Nat->Prop} (hk:K r H k):Fn P f args H k K:=by
 refine ⟨h.enters,fun F ι w cargs h1 h2 h3=>(h.calls F ι w cargs h1 h2).mono ?_⟩
 rintro e w' ⟨cv,he,hv,ho,ht,hu,hs,hb⟩
 obtain ⟨R',K'⟩:=h2.later ho ht hu hs hb
 exact ⟨ι,r,cv,H,k,he,hk,⟨K',Nat.le_refl _,fun _ _=>rfl,fun _ h=>.inl h⟩,R',fun n _=>h3 n,hv⟩
theorem zOi {o:Oper} {K:V → A8 → Nat → Prop} (f : Operand) (args : Array Operand) (ts : Array TypeId) (ho : o.op = .call ⟨.value f, args, ts⟩) {g : FuncId} {fs cs : List V} (hf : A7 σ.t f = .fn (.func g) fs cs) {r : V}
    (h:PfH P g (fs++args.toList.map (A7 σ.t)++cs) σ.H r) (hk:K r σ.H σ.k):OpT fr P o σ K:=by
  intro F ι a w hh next Q hn
  have he:=hh.eval f
  rw [hf] at he
  generalize hcv:a.eval f=cv at he
  cases he with
  | fn h1 h2 =>
    rename_i fs' cs'
    obtain ⟨fn,hg,hnm,hbody⟩:=h.enters
    have hargs:=(h1.append (VRels.evals hh args.toList)).append h2
    have hc:=h.calls F ι w _ hargs hh.rep
    have hrun:(execOp a.eval o).run P w=.ok (.enter g (fs'++args.toList.map a.eval++cs').toArray) w:=by
      unfold execOp;rw [ho]
      have e1:fs'.toArray++args.map a.eval++cs'.toArray=(fs'++args.toList.map a.eval++cs').toArray:=by
        apply Array.ext';simp
      simp only [resolve,hcv,Deferred.ofValue,invoke,callFunc,Sem.run_bind,Sem.run_pure,Result.andThen_ok,run_program,hg,hnm,hbody,Bool.false_eq_true,if_false,e1]
    unfold Oper.wp
    rw [hrun]
    refine Calls.mono hc ?_
    rintro e w' ⟨cv',rfl,hv,ho',ht,hu,hs,hb⟩
    obtain ⟨R',K'⟩:=hh.rep.later ho' ht hu hs hb
    exact hn ι r cv' σ.H σ.k w' hk ⟨⟨K',Nat.le_refl _,fun _ _=>rfl,fun _ h=>.inl h⟩,R',hh.fresh,hv⟩
def zHs (P:Program) (g:FuncId) (args:List V) (H:A8) [i:Inhabited (V->Prop)]:Prop:=∃ r,PfH P g args H r/\i.default r
def zOj (T:Tab) (P:Program) (t:List (Nat × V)) (H:A8) (k:Nat) (op:Op) (K:V->A8->Nat->Prop):Prop :=
 match op with
 | .call ⟨.value f,args,_⟩ =>
  match A7 t f with
  | .fn (.func g) fs cs=>@zHs P g (fs++args.toList.map (A7 t)++cs) H ⟨fun r=>K r H k⟩
  | _=>False
 | op=>opV T P t H k op K
theorem zOk (hT : J9 P T) {o : Oper} {t : List (Nat × V)} {k : Nat} {K : V → A8 → Nat → Prop} (hfr : fr k) (h : zOj T P t H k o.op K) :
    ∃ v H' k',K v H' k'/\∀ N,OpT fr P o ⟨N,t,H,k⟩ fun v' H'' k''=>v'=v/\H''=H'/\k''=k':=by
  unfold zOj at h
  split at h
  . rename_i f args ts ho
    split at h
    . rename_i g fs cs hf
      obtain ⟨r,h1,h2⟩:=h
      exact ⟨r,H,k,h2,fun N=>zOi (σ:=⟨N,t,H,k⟩) f args ts ho hf h1 ⟨rfl,rfl,rfl⟩⟩
    exact h.elim
  rename_i hno
  have hc:Xd_ o.op=false:=by
    unfold Xd_
    split
    . rename_i f args ts e;exact absurd e (hno f args ts)
    rfl
  obtain ⟨v,H',k',h1,h2⟩:=zSn hc K h
  exact ⟨v,H',k',h1,fun N=>Xe_ (σ:=⟨N,t,H,k⟩) hT hfr (fun e=>by rw [hc] at e;cases e) (h2 _ ⟨rfl,rfl,rfl⟩)⟩
end
def YV_ (op:Op):List Nat:=op.operands.toList.filterMap fun|.tmp t=>some t|_=>none
def rtT (t:List (Nat × V)) (op:Op):List (Nat × V):=(YV_ op).map fun x=>(x,get t x)
def V.nm1:V->List Nat
 | .ptr n _ _=>[n]
 | .sl n _ _=>[n]
 | .sub n _ _ _ _=>[n]
 | .map n=>[n]
 | _=>[]
def V.nm:V->List Nat
 | .ptr n _ _=>[n]
 | .sl n _ _=>[n]
 | .sub n _ _ _ _=>[n]
 | .map n=>[n]
 | .fn _ fs cs=>(fs++cs).flatMap V.nm1
 | _=>[]
def zo1:V->List Nat
 | .sl n _ _=>[n]
 | .sub n _ _ _ _=>[n]
 | .map n=>[n]
 | _=>[]
def I2 (t:List (Nat × V)) (op:Op):List Nat :=
 match op with
 | .move _|.assign _|.nilCheck _|.fieldAddr _ _ _=>[]
 | .indexAddr _ x _=>zo1 (A7 t x)
 | op=>(YV_ op).flatMap fun x=>(get t x).nm
def i6 (ns:List Nat) (H:A8):A8:=H.filter fun p=>decide (p.1∈ns)
def ZV_ (ns:List Nat) (H:A8):A8:=H.filter fun p=>!decide (p.1∈ns)
def P9:Op->Nat
 | .box ..|.alloc ..|.buildSlice ..|.makeSlice ..|.makeMap ..=>1
 | .store ..|.mapUpdate ..|.insert ..|.mapEntry ..|.entryStore ..=>2
 | .call ⟨.builtin .append,_,_⟩|.call ⟨.builtin .copy,_,_⟩|.call ⟨.builtin .delete,_,_⟩|.call ⟨.builtin .clear,_,_⟩=>2
 | _=>0
def YW_ (kd κ:Nat) (hs hs':A8):Prop :=
 match kd with
 | 0=>hs'=hs
 | 1=>match hs' with
  | (n,_)::r=>n=κ/\r=hs
  | []=>False
 | _=>(hs'.map Prod.fst).Nodup/\∀ n∈hs'.map Prod.fst,n=κ\/n∈hs.map Prod.fst
def QX_ (kd:Nat) (ns:List Nat) (hs' H:A8):A8 :=
 match kd with
 | 0=>H
 | 1=>match hs' with
  | e::_=>e::H
  | []=>H
 | _=>hs'++ZV_ ns H
def m0 (kd κ:Nat) (ns:List Nat):List Nat :=
 match kd with
 | 0=>[]
 | 1=>[κ]
 | _=>κ::ns
theorem zWc (t:List (Nat × V)) (op:Op) (x:Nat):get (rtT t op) x=if x∈YV_ op then get t x else .any:=by
 unfold rtT
 induction YV_ op with
 | nil=>simp [get]
 | cons y ys ih =>
  simp only [map_cons,get,ih,mem_cons]
  by_cases h:x=y
  .subst h;simp
  simp [h]
theorem zHt (ns:List Nat) (H:A8):H.Perm (i6 ns H++ZV_ ns H):=by
 unfold i6 ZV_
 exact (filter_append_perm _ _).symm
theorem i7 (p:Nat->Bool) (n:Nat):∀ H:A8,look n (H.filter fun e=>p e.1)=if p n then look n H else none
 | []=>by simp [look]
 | (m,b)::r=>by
  simp only [filter_cons,look]
  by_cases h:p m=true
  .rw [if_pos h];simp only [look]
   by_cases hn:n=m
   .subst hn;simp [h]
   simp only [hn,if_false];exact i7 p n r
  rw [if_neg h,i7 p n r]
  by_cases hn:n=m
  .subst hn;simp [h]
  simp [hn]
theorem Xh_ (ns:List Nat) (n:Nat) (H:A8):look n (i6 ns H)=if n∈ns then look n H else none:=by
 have:=i7 (fun m=>decide (m∈ns)) n H
 simpa [i6] using this
theorem Xi_ (ns:List Nat) (n:Nat) (H:A8):look n (ZV_ ns H)=if n∈ns then none else look n H:=by
 have:=i7 (fun m=>!decide (m∈ns)) n H
 rw [ZV_,this]
 by_cases h:n∈ns<;>simp [h]
theorem U2 (n:Nat) (G:A8):∀ H:A8,look n (H++G)=(look n H).or (look n G)
 | []=>by simp [look]
 | (m,b)::r=>by
  simp only [cons_append,look]
  split
  .rfl
  exact U2 n G r
theorem L4 {n:Nat}:∀ {H:A8},look n H=none↔n∉H.map Prod.fst
 | []=>by simp [look]
 | (m,b)::r=>by
  simp only [look,map_cons,mem_cons,not_or]
  by_cases h:n=m
  .subst h;simp
  simp only [h,if_false,not_false_eq_true,true_and];exact L4
theorem YX_:∀ {H H':A8},(H.map Prod.fst).Nodup->(H'.map Prod.fst).Nodup->(∀ n,look n H=look n H')->H.Perm H':=by
 intro H
 induction H with
 | nil =>
  intro H' _ _ h
  cases H' with
  | nil=>exact .refl _
  | cons p r=>obtain ⟨m,b⟩:=p;have:=h m;simp [look] at this
 | cons p r ih =>
  obtain ⟨m,b⟩:=p
  intro H' hd hd' h
  have hm:(m,b)∈H':=D6 (by rw [<-h m];simp [look])
  obtain ⟨l1,l2,rfl⟩:=append_of_mem hm
  have hp:(l1++(m,b)::l2).Perm ((m,b)::(l1++l2)):=perm_middle
  have hd2:(((m,b)::(l1++l2)).map Prod.fst).Nodup:=(hp.map _).nodup_iff.1 hd'
  simp only [map_cons,nodup_cons] at hd hd2
  refine List.Perm.trans (List.Perm.cons _ (ih hd.2 hd2.2 fun n=>?_)) hp.symm
  have hn:=h n
  rw [U2] at hn ⊢
  simp only [look] at hn
  by_cases e:n=m
  .subst e
   rw [L4.2 hd.1]
   have hnot:=hd2.1
   simp only [map_append,mem_append,not_or] at hnot
   rw [L4.2 hnot.1,L4.2 hnot.2];rfl
  simp only [e,if_false] at hn
  exact hn
theorem VC_ (ns:List Nat) (H:A8) (h:(H.map Prod.fst).Nodup):((i6 ns H).map Prod.fst).Nodup :=
 ((filter_sublist (l:=H)).map Prod.fst).nodup h
theorem zFj (ns:List Nat) (H:A8) (h:(H.map Prod.fst).Nodup):((ZV_ ns H).map Prod.fst).Nodup :=
 ((filter_sublist (l:=H)).map Prod.fst).nodup h
structure Rec where
 t:List (Nat × V)
 H:A8
 ran:Bool
 v:V
 hs:A8
def gw (ops:List Oper) (t:List (Nat × V)):Option (Nat × Bool)->Option Bool
 | none=>some true
 | some (j,want) =>
  match (ops[j]?).bind (·.dst) with
  | some d =>
   match get t d with
   | .val (.bool b)=>some (b==want)
   | .tup []=>some false
   | _=>none
  | none=>none
def Z5_ (o:Oper) (κ:Nat) (r:Rec):List Nat × List Nat:=if r.ran then (I2 r.t o.op,m0 (P9 o.op) κ (I2 r.t o.op)) else ([],[])
structure Good (P:Program) (ops:List Oper) (N κ:Nat) (o:Oper) (r r':Rec):Prop where
 dst:Yp_ o.dst N
 guard:gw ops r.t o.guard=some r.ran
 t':r'.t=W6_ r.t o.dst r.v
 yes:r.ran=true->(∀ N,OpT (·=κ) P o ⟨N,rtT r.t o.op,i6 (I2 r.t o.op) r.H,κ⟩ fun v H' _=>v=r.v/\H'=r.hs)/\YW_ (P9 o.op) κ (i6 (I2 r.t o.op) r.H) r.hs/\r'.H=QX_ (P9 o.op) (I2 r.t o.op) r.hs r.H
 no:r.ran=false->r.v=.tup []/\r'.H=r.H
def vcD (T:Tab) (P:Program) (ops:List Oper) (N:Nat):Nat->List Oper->(List (Nat × V)->A8->List (List Nat × List Nat)->Prop)->List (Nat × V)->A8->List (List Nat × List Nat)->Prop
  | _,[],K,t,H,lg=>K t H lg
  | κ, o :: rest, K, t, H, lg => Yp_ o.dst N ∧ o6 ops t o.guard
      (zOj T P (rtT t o.op) (i6 (I2 t o.op) H) κ o.op fun v hs' _=>YW_ (P9 o.op) κ (i6 (I2 t o.op) H) hs' ∧
        vcD T P ops N (κ+1) rest K (W6_ t o.dst v) (QX_ (P9 o.op) (I2 t o.op) hs' H) (lg++[(I2 t o.op,m0 (P9 o.op) κ (I2 t o.op))]))
      (vcD T P ops N (κ+1) rest K (W6_ t o.dst (.tup [])) H (lg++[([],[])]))
theorem zHu {ops:List Oper} {t:List (Nat × V)} {g:Option (Nat × Bool)} {p q:Prop} (h:o6 ops t g p q):(gw ops t g=some true/\p)\/(gw ops t g=some false/\q):=by
 have h:=Xf_ h
 unfold QU_ at h
 unfold gw
 cases g with
 | none=>exact .inl ⟨rfl,h⟩
 | some g =>
  obtain ⟨j,want⟩:=g
  simp only at h ⊢
  cases hj:(ops[j]?).bind (·.dst) with
  | none=>rw [hj] at h;exact h.elim
  | some d =>
   rw [hj] at h
   simp only at h ⊢
   split at h
   .rename_i b hb
    simp only [hb]
    cases want<;>cases b
    .exact .inl ⟨by first|trivial|simp,by first|exact h.1 trivial|exact h.1 rfl⟩
    .exact .inr ⟨by first|trivial|simp,by first|exact h.2 trivial|exact h.2 rfl⟩
    .exact .inr ⟨by first|trivial|simp,by first|exact h.2 trivial|exact h.2 rfl⟩
    exact .inl ⟨by first|trivial|simp,by first|exact h.1 trivial|exact h.1 rfl⟩
   .rename_i hb;simp only [hb];exact .inr ⟨by first|trivial|simp,h⟩
   exact h.elim
theorem zA3 {P : Program} {T : Tab} (hT : J9 P T) (ops : List Oper) (N : Nat) (K : List (Nat × V) → A8 → List (List Nat × List Nat) → Prop) : ∀ (l : List Oper) (κ : Nat) (t : List (Nat × V)) (H : A8) (lg : List (List Nat × List Nat)), vcD T P ops N κ l K t H lg →
    ∃ R:Nat->Rec,(R 0).t=t/\(R 0).H=H/\(∀ j o,l[j]?=some o->Good P ops N (κ+j) o (R j) (R (j+1)))/\K (R l.length).t (R l.length).H (lg++l.mapIdx fun j o=>Z5_ o (κ+j) (R j))
  | [],κ,t,H,lg,h=>⟨fun _=>⟨t,H,true,.any,[]⟩,rfl,rfl,by intro j o h;simp at h,by simpa [vcD] using h⟩
  | o::rest,κ,t,H,lg,h=>by
    simp only [vcD] at h
    obtain ⟨hd,hg⟩:=h
    rcases zHu hg with ⟨hgw,hy⟩|⟨hgw,hn⟩
    . obtain ⟨v,hs',k',⟨h1,h2⟩,h3⟩:=zOk (fr:=(·=κ)) hT rfl hy
      obtain ⟨R,r0,r1,r2,r3⟩:=zA3 hT ops N K rest (κ+1) _ _ _ h2
      refine ⟨fun|0=>⟨t,H,true,v,hs'⟩|j+1=>R j,rfl,rfl,?_,?_⟩
      . intro j o' hj
        cases j with
        | zero =>
          simp at hj;subst hj
          exact ⟨hd,hgw,r0,fun _=>⟨fun N=>by
            intro F ι a w hh next Q hnx
            exact h3 N F ι a w hh next Q fun ι' v' cv H'' k'' w' e=>hnx ι' v' cv H'' k'' w' ⟨e.1,e.2.1⟩,h1,r1⟩,(fun e=>by cases e)⟩
        | succ j =>
          have:=r2 j o' (by simpa using hj)
          rw [show κ+1+j=κ+(j+1) by omega] at this
          exact this
      simp only [length_cons,mapIdx_cons]
      rw [append_assoc] at r3
      have hfun:(fun j o=>Z5_ o (κ+1+j) (R j))=fun j o=>Z5_ o (κ+(j+1)) (R j):=by funext j o;rw [show κ+1+j=κ+(j+1) by omega]
      rw [hfun] at r3
      exact r3
    obtain ⟨R,r0,r1,r2,r3⟩:=zA3 hT ops N K rest (κ+1) _ _ _ hn
    refine ⟨fun|0=>⟨t,H,false,.tup [],[]⟩|j+1=>R j,rfl,rfl,?_,?_⟩
    . intro j o' hj
      cases j with
      | zero =>
        simp at hj;subst hj
        exact ⟨hd,hgw,r0,(fun e=>by cases e),fun _=>⟨rfl,r1⟩⟩
      | succ j =>
        have:=r2 j o' (by simpa using hj)
        rw [show κ+1+j=κ+(j+1) by omega] at this
        exact this
    simp only [length_cons,mapIdx_cons]
    rw [append_assoc] at r3
    have hfun:(fun j o=>Z5_ o (κ+1+j) (R j))=fun j o=>Z5_ o (κ+(j+1)) (R j):=by funext j o;rw [show κ+1+j=κ+(j+1) by omega]
    rw [hfun] at r3
    exact r3
end Go.Sl
namespace Go.Sl
def last (p:Nat->Bool):Nat->Nat
 | 0=>0
 | n+1=>if p n then n+1 else last p n
theorem Xj_ (p:Nat->Bool):∀ n,last p n<=n
 | 0=>Nat.le_refl _
 | n+1=>by simp only [last];split;exact Nat.le_refl _;exact Nat.le_succ_of_le (Xj_ p n)
theorem R9 (p:Nat->Bool):∀ n k,last p n<=k->k<n->p k=false
 | 0,k,_,h=>by omega
 | n+1,k,h,hk=>by
  simp only [last] at h
  split at h
  .omega
  rename_i hp
  by_cases e:k=n
  .subst e;simpa using hp
  exact R9 p n k h (by omega)
theorem T6 {p q:Nat->Bool}:∀ n,(∀ k,k<n->p k=q k)->last p n=last q n
 | 0,_=>rfl
 | n+1,h=>by simp only [last,h n (by omega),T6 n fun k hk=>h k (by omega)]
theorem ZW_ {p:Nat->Bool} {a:Nat}:∀ n,a<=n->(∀ k,a<=k->k<n->p k=false)->last p n=last p a
  | 0, h, _ => by have : a = 0 := by omega
                  subst this;rfl
  | n+1,h,hp=>by
    by_cases e:a=n+1
    . subst e;rfl
    simp only [last,hp n (by omega) (by omega),Bool.false_eq_true,if_false]
    exact ZW_ n (by omega) fun k h1 h2=>hp k h1 (by omega)
theorem zHv {p:Nat->Bool} {i n:Nat} (hi:i<n) (hp:p i=true) (h:∀ k,i<k->k<n->p k=false):last p n=i+1:=by
 rw [ZW_ (a:=i+1) n (by omega) fun k h1 h2=>h k (by omega) h2]
 simp only [last,hp,if_true]
theorem Xk_ {p:Nat->Bool}:∀ n,(∀ k,k<n->p k=false)->last p n=0
 | 0,_=>rfl
 | n+1,h=>by simp only [last,h n (by omega),Bool.false_eq_true,if_false];exact Xk_ n fun k hk=>h k (by omega)
def U3 (ops:List Oper) (j:Nat):List Nat :=
 match ops[j]? with
 | some o=>(o.after.toList.filter (Region.binds .any)).map (·.on)
 | none=>[]
def X9 (ops:List Oper) (j:Nat):Option Nat:=(ops[j]?).bind (·.dst)
def ZA_ (ops:List Oper) (j:Nat):List Nat :=
 match ops[j]? with
 | some o=>YV_ o.op++(match o.guard with|some (g,_)=>(X9 ops g).toList|none=>[])
 | none=>[]
def U4 (ops:List Oper) (i j:Nat):Bool :=
 (match X9 ops i with|some d=>(ZA_ ops j).contains d||X9 ops j==some d|none=>false) ||
 (match X9 ops j with|some d=>(ZA_ ops i).contains d|none=>false)
def row (tbl:List (List Nat)) (j:Nat):List Nat:=tbl.getD j []
def YY_ (ops:List Oper) (tbl:List (List Nat)) (m:Nat):Bool :=
 decide (m<=ops.length) &&
 (List.range ops.length).all (fun j =>
  (U3 ops j).all (fun e=>decide (e<j)) &&
  (row tbl j).all (fun i=>decide (i<j)&&((U3 ops j).contains i||(U3 ops j).any fun k=>(row tbl k).contains i)) &&
  (decide (j<m)||(List.range j).all fun i=>(row tbl j).contains i)) &&
 (List.range m).all (fun j=>(List.range j).all fun i=>!U4 ops i j||(row tbl j).contains i)
def ze5 (a b:List Nat):Prop:=∀ x∈a,∀ y∈b,x≠y
def V9_ (x y:List Nat × List Nat):Prop:=ze5 x.1 y.2/\ze5 x.2 y.1/\ze5 x.2 y.2
def UA_ (tbl:List (List Nat)) (i:Nat) (x:List Nat × List Nat):Nat->List (List Nat × List Nat)->Prop
 | _,[]=>True
 | j,y::r=>(if (row tbl j).contains i then True else V9_ x y)/\UA_ tbl i x (j+1) r
def zWd (tbl:List (List Nat)):Nat->List (List Nat × List Nat)->Prop
 | _,[]=>True
 | i,x::r=>UA_ tbl i x (i+1) r/\zWd tbl (i+1) r
def ZB_ (ops:List Oper) (tbl:List (List Nat)) (prs:List (Nat × Nat)) (m:Nat):Bool :=
 (List.range m).all fun j=>(List.range j).all fun i=>(row tbl j).contains i||prs.contains (i,j) ||
  (((ops[i]?).map fun o=>P9 o.op)==some 0&&((ops[j]?).map fun o=>P9 o.op)==some 0)
def Wz_:List (Nat × Nat)->List (List Nat × List Nat)->Prop
 | [],_=>True
 | (i,j)::r,lg=>V9_ (lg.getD i ([],[])) (lg.getD j ([],[]))/\Wz_ r lg
theorem VD_:∀ {prs:List (Nat × Nat)} {lg:List (List Nat × List Nat)},Wz_ prs lg->∀ i j,(i,j)∈prs->V9_ (lg.getD i ([],[])) (lg.getD j ([],[]))
 | [],_,_,i,j,hm=>by simp at hm
 | (i',j')::r,lg,h,i,j,hm=>by
  simp only [Wz_] at h
  rcases List.mem_cons.1 hm with e|hm
  .cases e;exact h.1
  exact VD_ h.2 i j hm
theorem zA4 {x y:List Nat × List Nat} (hx:x.2=[]) (hy:y.2=[]):V9_ x y:=by
 unfold V9_ ze5
 rw [hx,hy]
 simp
theorem YZ_ {tbl:List (List Nat)} {i:Nat} {x:List Nat × List Nat}:∀ (l:List (List Nat × List Nat)) (s:Nat),UA_ tbl i x s l->∀ q y,l[q]?=some y->i∈row tbl (s+q)\/V9_ x y
 | [],s,h,q,y,hq=>by simp at hq
 | z::l,s,h,q,y,hq=>by
  simp only [UA_] at h
  cases q with
  | zero =>
   simp at hq;subst hq
   have h1:=h.1
   split at h1
   .rename_i hc;exact .inl (by simpa using hc)
   exact .inr h1
  | succ q =>
   have:=YZ_ l (s+1) h.2 q y (by simpa using hq)
   rw [show s+1+q=s+(q+1) by omega] at this
   exact this
theorem zFk {tbl:List (List Nat)}:∀ (l:List (List Nat × List Nat)) (s:Nat),zWd tbl s l->∀ i j x y,i<j->l[i]?=some x->l[j]?=some y->s+i∈row tbl (s+j)\/V9_ x y
 | [],s,h,i,j,x,y,hij,hi,hj=>by simp at hi
 | z::l,s,h,i,j,x,y,hij,hi,hj=>by
  simp only [zWd] at h
  cases j with
  | zero=>omega
  | succ j =>
   cases i with
   | zero =>
    simp at hi;subst hi
    have:=YZ_ l (s+1) h.1 j y (by simpa using hj)
    rw [show s+1+j=s+(j+1) by omega] at this
    exact this
   | succ i =>
    have:=zFk l (s+1) h.2 i j x y (by omega) (by simpa using hi) (by simpa using hj)
    rw [show s+1+i=s+(i+1) by omega,show s+1+j=s+(j+1) by omega] at this
    exact this
def Wo_ (ops:List Oper) (κ0:Nat) (R:Nat->Rec) (k:Nat):List Nat × List Nat :=
 match ops[k]? with
 | some o=>Z5_ o (κ0+k) (R k)
 | none=>([],[])
structure Ctx (P:Program) (ops:List Oper) (N κ0 m:Nat) (R:Nat->Rec) (tbl:List (List Nat)):Prop where
 good:∀ j,j<m->∀ o,ops[j]?=some o->Good P ops N (κ0+j) o (R j) (R (j+1))
 mle:m<=ops.length
 edges:∀ j,j<ops.length->∀ e∈U3 ops j,e<j
 tblOk:∀ j,j<ops.length->∀ i∈row tbl j,i<j/\(i∈U3 ops j\/∃ k∈U3 ops j,i∈row tbl k)
 tail:∀ j,m<=j->j<ops.length->∀ i,i<j->i∈row tbl j
 tmp:∀ i j,i<j->j<m->U4 ops i j=true->i∈row tbl j
 mem:∀ i j,i<j->j<m->i∈row tbl j\/V9_ (Wo_ ops κ0 R i) (Wo_ ops κ0 R j)
 dl:∀ o∈ops,Yp_ o.dst N
 h0:((R 0).H.map Prod.fst).Nodup
 h1:∀ n∈(R 0).H.map Prod.fst,n<κ0
section
variable {P:Program} {ops:List Oper} {N κ0 m:Nat} {R:Nat->Rec} {tbl:List (List Nat)}
theorem Ctx.op (C:Ctx P ops N κ0 m R tbl) {j:Nat} (h:j<m):∃ o,ops[j]?=some o:=⟨_,List.getElem?_eq_getElem (Nat.lt_of_lt_of_le h C.mle)⟩
theorem Ctx.names (C:Ctx P ops N κ0 m R tbl):∀ j,j<=m->((R j).H.map Prod.fst).Nodup/\∀ n∈(R j).H.map Prod.fst,n<κ0+j
 | 0,_=>⟨C.h0,C.h1⟩
 | j+1,h=>by
  obtain ⟨i1,i2⟩:=C.names j (by omega)
  obtain ⟨o,ho⟩:=C.op (show j<m by omega)
  have G:=C.good j (by omega) o ho
  cases hr:(R j).ran with
  | false =>
   rw [(G.no hr).2]
   exact ⟨i1,fun n hn=>by have:=i2 n hn;omega⟩
  | true =>
   obtain ⟨_,hs,hH⟩:=G.yes hr
   rw [hH]
   unfold QX_
   unfold YW_ at hs
   split
   .exact ⟨i1,fun n hn=>by have:=i2 n hn;omega⟩
   .rename_i hk
    rw [hk] at hs
    simp only at hs
    cases hhs:(R j).hs with
    | nil=>simp only;exact ⟨i1,fun n hn=>by have:=i2 n hn;omega⟩
    | cons e r =>
     obtain ⟨n0,b0⟩:=e
     rw [hhs] at hs
     simp only at hs
     simp only [map_cons,nodup_cons,mem_cons]
     refine ⟨⟨fun hc=>by have:=i2 _ hc;omega,i1⟩,fun n hn=>?_⟩
     rcases hn with rfl|hn
     .omega
     have:=i2 n hn;omega
   rename_i hk1 hk2
   have hs':((R j).hs.map Prod.fst).Nodup/\∀ n∈(R j).hs.map Prod.fst,n=κ0+j\/n∈(i6 (I2 (R j).t o.op) (R j).H).map Prod.fst:=by
    split at hs
    .rename_i e;exact absurd e hk1
    .rename_i e;exact absurd e hk2
    exact hs
   obtain ⟨s1,s2⟩:=hs'
   have hpk:∀ n∈(i6 (I2 (R j).t o.op) (R j).H).map Prod.fst,n∈I2 (R j).t o.op/\n∈(R j).H.map Prod.fst:=by
    intro n hn
    obtain ⟨p,hp,rfl⟩:=List.mem_map.1 hn
    have:=List.mem_filter.1 hp
    exact ⟨by simpa using this.2,List.mem_map.2 ⟨p,this.1,rfl⟩⟩
   have hrs:∀ n∈(ZV_ (I2 (R j).t o.op) (R j).H).map Prod.fst,n∉I2 (R j).t o.op/\n∈(R j).H.map Prod.fst:=by
    intro n hn
    obtain ⟨p,hp,rfl⟩:=List.mem_map.1 hn
    have:=List.mem_filter.1 hp
    exact ⟨by simpa using this.2,List.mem_map.2 ⟨p,this.1,rfl⟩⟩
   simp only [map_append]
   rw [nodup_append]
   refine ⟨⟨s1,zFj _ _ i1,?_⟩,?_⟩
   .rintro x hx y hy rfl
    rcases s2 x hx with h|h
    .have:=i2 x (hrs x hy).2;omega
    exact (hrs x hy).1 (hpk x h).1
   intro n hn
   rcases List.mem_append.1 hn with hn|hn
   .rcases s2 n hn with h|h
    .omega
    have:=i2 n (hpk n h).2;omega
   have:=i2 n (hrs n hn).2;omega
theorem Ctx.stepT (C:Ctx P ops N κ0 m R tbl) {k x:Nat} (hk:k<m) (h:X9 ops k≠some x):get (R (k+1)).t x=get (R k).t x:=by
 obtain ⟨o,ho⟩:=C.op hk
 have G:=C.good k hk o ho
 rw [G.t']
 unfold X9 at h
 rw [ho] at h
 simp only [Option.bind_some] at h
 cases hd:o.dst with
 | none=>rfl
 | some d =>
  rw [hd] at h
  simp only [W6_,get]
  rw [if_neg (fun e=>h (by rw [e]))]
theorem Ctx.stepH (C:Ctx P ops N κ0 m R tbl) {k β:Nat} (hk:k<m) (h:β∉(Wo_ ops κ0 R k).2):look β (R (k+1)).H=look β (R k).H:=by
 obtain ⟨o,ho⟩:=C.op hk
 have G:=C.good k hk o ho
 unfold Wo_ at h
 rw [ho] at h
 simp only [Z5_] at h
 cases hr:(R k).ran with
 | false=>rw [(G.no hr).2]
 | true =>
  rw [hr] at h
  simp only [if_true] at h
  obtain ⟨_,hs,hH⟩:=G.yes hr
  rw [hH]
  unfold QX_
  unfold YW_ at hs
  unfold m0 at h
  split
  .rfl
  .rename_i hk1
   rw [hk1] at hs h
   simp only [mem_singleton] at hs h
   cases hhs:(R k).hs with
   | nil=>rfl
   | cons e r =>
    obtain ⟨n0,b0⟩:=e
    rw [hhs] at hs
    simp only at hs ⊢
    simp only [look]
    rw [if_neg (fun e=>h (e.trans hs.1))]
  rename_i hk1 hk2
  have hs':((R k).hs.map Prod.fst).Nodup/\∀ n∈(R k).hs.map Prod.fst,n=κ0+k\/n∈(i6 (I2 (R k).t o.op) (R k).H).map Prod.fst:=by
   split at hs
   .rename_i e;exact absurd e hk1
   .rename_i e;exact absurd e hk2
   exact hs
  have h':β≠κ0+k/\β∉I2 (R k).t o.op:=by
   split at h
   .rename_i e;exact absurd e hk1
   .rename_i e;exact absurd e hk2
   simpa using h
  rw [U2,Xi_,if_neg h'.2]
  have:look β (R k).hs=none:=L4.2 fun hm=>by
   rcases hs'.2 β hm with e|e
   .exact h'.1 e
   obtain ⟨p,hp,rfl⟩:=List.mem_map.1 e
   exact h'.2 (by simpa using (List.mem_filter.1 hp).2)
  rw [this];rfl
theorem Ctx.runT (C:Ctx P ops N κ0 m R tbl) {x q:Nat}:∀ i,q<=i->i<=m->(∀ k,q<=k->k<i->X9 ops k≠some x)->get (R i).t x=get (R q).t x
  | 0, h, _, _ => by have : q = 0 := by omega
                     subst this;rfl
  | i+1,h,hi,hd=>by
    by_cases e:q=i+1
    . subst e;rfl
    rw [C.stepT (by omega) (hd i (by omega) (by omega))]
    exact C.runT i (by omega) (by omega) fun k h1 h2=>hd k h1 (by omega)
theorem Ctx.runH (C:Ctx P ops N κ0 m R tbl) {x q:Nat}:∀ i,q<=i->i<=m->(∀ k,q<=k->k<i->x∉(Wo_ ops κ0 R k).2)->look x (R i).H=look x (R q).H
  | 0, h, _, _ => by have : q = 0 := by omega
                     subst this;rfl
  | i+1,h,hi,hd=>by
    by_cases e:q=i+1
    . subst e;rfl
    rw [C.stepH (by omega) (hd i (by omega) (by omega))]
    exact C.runH i (by omega) (by omega) fun k h1 h2=>hd k h1 (by omega)
def zip (ops:List Oper) (L:Nat->Bool):Prop:=∀ j,L j=true->∀ e∈U3 ops j,L e=true
theorem Ctx.before (C:Ctx P ops N κ0 m R tbl) {L:Nat->Bool} (hL:zip ops L):∀ j,j<ops.length->(∀ e∈U3 ops j,L e=true)->∀ i∈row tbl j,L i=true:=by
 intro j
 induction j using Nat.strongRecOn with
 | _ j ih =>
  intro hj hd i hi
  rcases (C.tblOk j hj i hi).2 with h|⟨k,hk,h⟩
  .exact hd i h
  have hlt:=C.edges j hj k hk
  exact ih k hlt (by omega) (hL k (hd k hk)) i h
def pT (ops:List Oper) (L:Nat->Bool) (x k:Nat):Bool:=L k&&X9 ops k==some x
def pH (ops:List Oper) (κ0:Nat) (R:Nat->Rec) (L:Nat->Bool) (β k:Nat):Bool:=L k&&decide (β∈(Wo_ ops κ0 R k).2)
theorem Ctx.agreeT (C : Ctx P ops N κ0 m R tbl) {L : Nat → Bool} {i x : Nat} (hi : i < m) (hLi : L i = false) (h : ∀ k, k < m → k ≠ i → X9 ops k = some x → (k < i → L k = true) ∧ (i < k → L k = false)) :
    get (R (last (pT ops L x) m)).t x=get (R i).t x:=by
  have e1:last (pT ops L x) m=last (pT ops L x) i:=ZW_ m (by omega) fun k h1 h2=>by
    unfold pT
    by_cases e:k=i
    . subst e;simp [hLi]
    by_cases hd:X9 ops k=some x
    . simp [(h k h2 e hd).2 (by omega)]
    simp [hd]
  have e2:last (pT ops L x) i=last (fun k=>X9 ops k==some x) i:=T6 i fun k hk=>by
    unfold pT
    by_cases hd:X9 ops k=some x
    . simp [(h k (by omega) (by omega) hd).1 hk]
    simp [hd]
  rw [e1,e2]
  exact (C.runT i (Xj_ _ _) (by omega) fun k h1 h2=>by
    have:=R9 _ i k h1 h2
    simpa using this).symm
theorem Ctx.agreeH (C : Ctx P ops N κ0 m R tbl) {L : Nat → Bool} {i β : Nat} (hi : i < m) (hLi : L i = false) (h : ∀ k, k < m → k ≠ i → β ∈ (Wo_ ops κ0 R k).2 → (k < i → L k = true) ∧ (i < k → L k = false)) :
    look β (R (last (pH ops κ0 R L β) m)).H=look β (R i).H:=by
  have e1:last (pH ops κ0 R L β) m=last (pH ops κ0 R L β) i:=ZW_ m (by omega) fun k h1 h2=>by
    unfold pH
    by_cases e:k=i
    . subst e;simp [hLi]
    by_cases hd:β∈(Wo_ ops κ0 R k).2
    . simp [(h k h2 e hd).2 (by omega)]
    simp [hd]
  have e2:last (pH ops κ0 R L β) i=last (fun k=>decide (β∈(Wo_ ops κ0 R k).2)) i:=T6 i fun k hk=>by
    unfold pH
    by_cases hd:β∈(Wo_ ops κ0 R k).2
    . simp [(h k (by omega) (by omega) hd).1 hk,hd]
    simp [hd]
  rw [e1,e2]
  exact (C.runH i (Xj_ _ _) (by omega) fun k h1 h2=>by
    have:=R9 _ i k h1 h2
    simpa using this).symm
structure Inv (ops:List Oper) (N κ0 m:Nat) (R:Nat->Rec) (F:Nat->Prop) (ι0:E3) (H0:A8) (w0:World) (L:Nat->Bool) (ι:E3) (HD:A8) (a:Act) (w:World):Prop where
 down:zip ops L
 only:∀ j,L j=true->j<m
 defers:a.defers=[]
 size:a.tmps.size=N
 tm:∀ x,VRel ι (Own F ι HD) w (get (R (last (pT ops L x) m)).t x) (a.tmps.getD x undef)
 rep:Rep F ι HD w
 lk:∀ β,look β HD=look β (R (last (pH ops κ0 R L β) m)).H
 fq:∀ i,i<m->L i=false->ι (κ0+i)=none
 fr:∀ n,κ0+m<=n->ι n=none
 kept:Kept ι0 H0 w0 ι HD w
 same:∀ n,n<κ0->ι n=ι0 n
 dom:∀ n∈HD.map Prod.fst,n∈H0.map Prod.fst\/κ0<=n
def VE_ (L:Nat->Bool) (i:Nat):Nat->Bool:=fun k=>if k=i then true else L k
theorem QY_ {i k x:Nat} (hr:x∈ZA_ ops i) (hd:X9 ops k=some x):U4 ops k i=true/\U4 ops i k=true:=by
 unfold U4
 rw [hd]
 constructor
 .simp [hr]
 simp [hr]
theorem zA5 {i k x:Nat} (hi:X9 ops i=some x) (hd:X9 ops k=some x):U4 ops k i=true/\U4 ops i k=true:=by
 unfold U4
 rw [hd,hi]
 simp
variable {F:Nat->Prop} {ι0 ι:E3} {H0 HD:A8} {w0 w:World} {L:Nat->Bool} {a:Act} {Q:Exit->Act->World->Prop}
theorem Inv.step (C : Ctx P ops N κ0 m R tbl) (I : Inv ops N κ0 m R F ι0 H0 w0 L ι HD a w) {i : Nat} (hi : i < m) (hLi : L i = false) (hd : ∀ e ∈ U3 ops i, L e = true) {o : Oper} (ho : ops[i]? = some o)
    (next:Act->World->Prop) (hn:∀ ι' HD' a' w',Inv ops N κ0 m R F ι0 H0 w0 (VE_ L i) ι' HD' a' w'->next a' w') :
    if Region.wanted o (yielded ops.toArray a.tmps) then o.wp P a w next Q else next (a.put o.dst undef) w:=by
  have G:=C.good i hi o ho
  have hin:i<ops.length:=Nat.lt_of_lt_of_le hi C.mle
  have bef:∀ k∈row tbl i,L k=true:=C.before I.down i hin hd
  have aft:∀ k,k<m->i∈row tbl k->L k=false:=fun k hk h=>by
    cases hL:L k with
    | false=>rfl
    | true =>
      have:=C.before I.down k (Nat.lt_of_lt_of_le hk C.mle) (I.down k hL) i h
      rw [hLi] at this;cases this
  have aT:∀ x,(∀ k,k<m->k≠i->X9 ops k=some x->U4 ops k i=true/\U4 ops i k=true)->get (R (last (pT ops L x) m)).t x=get (R i).t x:=fun x h =>
    C.agreeT hi hLi fun k hk hne hdk=>⟨fun hlt=>bef k (C.tmp k i hlt hi (h k hk hne hdk).1),fun hlt=>aft k hk (C.tmp i k hlt hk (h k hk hne hdk).2)⟩
  have aTr:∀ x∈ZA_ ops i,get (R (last (pT ops L x) m)).t x=get (R i).t x:=fun x hx=>aT x fun k _ _ hdk=>QY_ hx hdk
  have aH:∀ β,β∈(Wo_ ops κ0 R i).1\/β∈(Wo_ ops κ0 R i).2->∀ k,k<m->k≠i->β∈(Wo_ ops κ0 R k).2->(k<i->L k=true)/\(i<k->L k=false):=by
    intro β hβ k hk hne hw
    constructor
    . intro hlt
      rcases C.mem k i hlt hi with h|⟨_,h2,h3⟩
      . exact bef k h
      rcases hβ with hβ|hβ
      . exact absurd rfl (h2 β hw β hβ)
      exact absurd rfl (h3 β hw β hβ)
    intro hlt
    rcases C.mem i k hlt hk with h|⟨h1,_,h3⟩
    . exact aft k hk h
    rcases hβ with hβ|hβ
    . exact absurd rfl (h1 β hβ β hw)
    exact absurd rfl (h3 β hβ β hw)
  have hdst:Yp_ o.dst N:=C.dl o (List.mem_of_getElem? ho)
  have hdo:X9 ops i=o.dst:=by unfold X9;rw [ho];rfl
  have hro:ZA_ ops i=YV_ o.op++(match o.guard with|some (g,_)=>(X9 ops g).toList|none=>[]):=by unfold ZA_;rw [ho]
  -- does it run?
  have hw:Region.wanted o (yielded ops.toArray a.tmps)=(R i).ran:=by
    have hg:=G.guard
    unfold gw at hg
    unfold Region.wanted
    cases hgd:o.guard with
    | none=>rw [hgd] at hg;simpa using hg
    | some p =>
      obtain ⟨j,want⟩:=p
      rw [hgd] at hg
      simp only at hg ⊢
      cases hj:(ops[j]?).bind (·.dst) with
      | none=>rw [hj] at hg;cases hg
      | some d =>
        rw [hj] at hg
        simp only at hg
        have hrd:d∈ZA_ ops i:=by rw [hro,hgd];simp [X9,hj]
        have hdN:d<a.tmps.size:=by
          obtain ⟨oj,hoj,hdj⟩:=Option.bind_eq_some_iff.1 hj
          have:=C.dl oj (List.mem_of_getElem? hoj)
          rw [hdj] at this;rw [I.size];exact this
        have htm:=I.tm d
        rw [aTr d hrd] at htm
        have he:a.tmps.getD d undef=a.tmps[d]:=by simp [Array.getD,hdN]
        rw [he] at htm
        have hyd:yielded ops.toArray a.tmps j=match a.tmps[d] with|.bool b=>some b|_=>none:=by
          unfold yielded
          have:((ops.toArray[j]?).bind (·.dst))=some d:=by simpa using hj
          rw [this]
          simp only [Option.bind_some,Array.getElem?_eq_getElem hdN]
          generalize a.tmps[d]=z
          cases z<;>rfl
        split at hg
        . rename_i b hb
          rw [hb] at htm
          rw [hyd,htm.inv_bool]
          simp only [Option.some.injEq] at hg
          rw [<-hg]
          cases b<;>cases want<;>rfl
        . rename_i hb
          rw [hb] at htm
          generalize a.tmps[d]=x at htm hyd
          cases htm with
          | tup h =>
            cases h
            rw [hyd]
            simp only [Option.some.injEq] at hg
            rw [<-hg];rfl
        cases hg
  rw [hw]
  have lgi:Wo_ ops κ0 R i=Z5_ o (κ0+i) (R i):=by unfold Wo_;rw [ho]
  have pTother:∀ x,o.dst≠some x->last (pT ops (VE_ L i) x) m=last (pT ops L x) m:=fun x hx=>T6 m fun k hk=>by
    unfold pT VE_
    by_cases e:k=i
    . subst e;rw [hdo];simp [hx,hLi]
    simp [e]
  have pTdst:∀ x,o.dst=some x->last (pT ops (VE_ L i) x) m=i+1:=fun x hx=>by
    refine zHv hi ?_ ?_
    . unfold pT VE_;rw [hdo];simp [hx]
    intro k h1 h2
    unfold pT VE_
    by_cases hdk:X9 ops k=some x
    . have:=aft k h2 (C.tmp i k h1 h2 (zA5 (hdo.trans hx) hdk).2)
      simp [show k≠i by omega,this]
    simp [hdk]
  have hdown:zip ops (VE_ L i):=fun j hj e he=>by
    unfold VE_ at hj ⊢
    split
    . rfl
    by_cases hji:j=i
    . subst hji;exact hd e he
    rw [if_neg hji] at hj;exact I.down j hj e he
  have honly:∀ j,VE_ L i j=true->j<m:=fun j hj=>by
    unfold VE_ at hj
    split at hj
    . omega
    exact I.only j hj
  have hputsize:∀ v,(a.put o.dst v).tmps.size=N:=fun v=>by
    cases hd':o.dst with
    | none=>simpa [Act.put] using I.size
    | some d=>simpa [Act.put] using I.size
  have hputdef:∀ v,(a.put o.dst v).defers=[]:=fun v=>by
    cases hd':o.dst<;>simpa [Act.put] using I.defers
  have hputget:∀ v x,(a.put o.dst v).tmps.getD x undef=if o.dst=some x then v else a.tmps.getD x undef:=fun v x=>by
    cases hd':o.dst with
    | none=>simp [Act.put]
    | some d =>
      rw [hd'] at hdst
      simp only [Act.put]
      rw [W7 _ _ _ _ (by rw [I.size];exact hdst)]
      by_cases e:x=d
      . subst e;simp
      rw [if_neg e,if_neg (by simp;exact fun h=>e h.symm)]
  have htnew:∀ x,o.dst=some x->get (R (i+1)).t x=(R i).v:=fun x hx=>by
    rw [G.t',hx];simp [W6_,get]
  cases hr:(R i).ran with
  | false =>
    simp only [Bool.false_eq_true,if_false]
    obtain ⟨hv,hH⟩:=G.no hr
    have hlg:Wo_ ops κ0 R i=([],[]):=by rw [lgi];simp [Z5_,hr]
    refine hn ι HD _ w ⟨hdown,honly,hputdef _,hputsize _,fun x=>?_,I.rep,fun β=>?_,fun j hj hL=>?_,I.fr,I.kept,I.same,I.dom⟩
    . rw [hputget]
      by_cases hx:o.dst=some x
      . rw [if_pos hx,pTdst x hx,htnew x hx,hv];exact .tup .nil
      rw [if_neg hx,pTother x hx];exact I.tm x
    . rw [I.lk β]
      congr 2
      exact congrArg R (T6 m fun k hk=>by
        unfold pH VE_
        by_cases e:k=i
        . subst e;rw [hlg];simp
        simp [e])
    unfold VE_ at hL
    split at hL
    . cases hL
    exact I.fq j hj hL
  | true =>
    simp only [if_true]
    obtain ⟨hop,hst,hH⟩:=G.yes hr
    have hlg:Wo_ ops κ0 R i=(I2 (R i).t o.op,m0 (P9 o.op) (κ0+i) (I2 (R i).t o.op)):=by rw [lgi];simp [Z5_,hr]
    generalize hns:I2 (R i).t o.op=ns at *
    have hcn:=C.names i (by omega)
    have hlook:∀ β∈ns,look β HD=look β (R i).H:=fun β hβ=>by
      rw [I.lk β]
      exact C.agreeH hi hLi (aH β (.inl (by rw [hlg];exact hβ)))
    have hperm:(i6 ns HD).Perm (i6 ns (R i).H):=YX_ (VC_ _ _ I.rep.names) (VC_ _ _ hcn.1) fun n=>by
      rw [Xh_,Xh_]
      by_cases h:n∈ns
      . rw [if_pos h,if_pos h,hlook n h]
      rw [if_neg h,if_neg h]
    have hpr:HD.Perm (i6 ns (R i).H++ZV_ ns HD):=(zHt ns HD).trans (List.Perm.append hperm (.refl _))
    have R2:=I.rep.perm hpr
    have hownD:Own F ι HD=Own (Fr F ι (ZV_ ns HD)) ι (i6 ns (R i).H):=by
      rw [<-R7];exact funext fun b=>propext ⟨fun h=>h.imp id (OwnH.perm hpr b).1,fun h=>h.imp id (OwnH.perm hpr b).2⟩
    have hκ:ι (κ0+i)=none:=I.fq i hi hLi
    have hh:Holds (·=κ0+i) (Fr F ι (ZV_ ns HD)) ι ⟨N,rtT (R i).t o.op,i6 ns (R i).H,κ0+i⟩ a w:=by
      refine ⟨I.defers,I.size,fun x=>?_,R2.lend,fun n hn _=>by subst hn;exact hκ⟩
      simp only [zWc]
      rw [<-hownD]
      by_cases hx:x∈YV_ o.op
      . rw [if_pos hx,<-aTr x (by rw [hro];exact List.mem_append.2 (.inl hx))]
        exact I.tm x
      rw [if_neg hx];exact .any _
    refine hop N (Fr F ι (ZV_ ns HD)) ι a w hh next Q ?_
    rintro ι' v cv H' k' w' ⟨rfl,rfl⟩ hO
    have hO1:=Out.frame R2 (fun n hn _=>by subst hn;exact hκ) hO
    have hO2:=Out.perm_in hpr hO1
    have hS:=hO2.ext.kept.stays (F:=F)
    have hnotκ:look (κ0+i) HD=none:=L4.2 (I.rep.fresh_names hκ)
    have hnotκ':look (κ0+i) (R i).H=none:=L4.2 fun h=>by have:=hcn.2 _ h;omega
    have hlk:∀ β,look β ((R i).hs++ZV_ ns HD)=if β∈m0 (P9 o.op) (κ0+i) ns then look β (R (i+1)).H else look β HD:=by
      intro β
      have pick0:(look β (i6 ns (R i).H)).or (if β∈ns then none else look β HD)=look β HD:=by
        rw [Xh_]
        by_cases h:β∈ns
        . rw [if_pos h,if_pos h,hlook β h];cases look β (R i).H<;>rfl
        rw [if_neg h,if_neg h];rfl
      rw [U2,Xi_,hH]
      have h012:P9 o.op=0\/P9 o.op=1\/∃ q,P9 o.op=q+2:=by
        cases h:P9 o.op with
        | zero=>exact .inl rfl
        | succ k=>cases k with
          | zero=>exact .inr (.inl rfl)
          | succ k=>exact .inr (.inr ⟨k,rfl⟩)
      rcases h012 with hk|hk|⟨q,hk⟩
      . rw [hk] at hst ⊢
        simp only [YW_] at hst
        simp only [m0,QX_,not_mem_nil,if_false]
        rw [hst];exact pick0
      . rw [hk] at hst ⊢
        simp only [YW_] at hst
        simp only [m0,QX_,mem_singleton]
        cases hhs:(R i).hs with
        | nil=>rw [hhs] at hst;exact hst.elim
        | cons e r =>
          obtain ⟨n0,b0⟩:=e
          rw [hhs] at hst
          simp only at hst
          obtain ⟨rfl,rfl⟩:=hst
          simp only [look]
          by_cases e:β=κ0+i
          . simp [e]
          simp only [e,if_false];exact pick0
      rw [hk] at hst ⊢
      simp only [YW_] at hst
      simp only [m0,QX_,mem_cons]
      by_cases e:β=κ0+i\/β∈ns
      . rw [if_pos e,U2,Xi_]
        by_cases h:β∈ns
        . rw [if_pos h,if_pos h]
        rw [if_neg h,if_neg h]
        have:β=κ0+i:=e.resolve_right h
        rw [this,hnotκ,hnotκ']
      rw [if_neg e]
      have h2:β∉ns:=fun h=>e (.inr h)
      have:look β (R i).hs=none:=L4.2 fun hm=>by
        rcases hst.2 β hm with h|h
        . exact e (.inl h)
        obtain ⟨p,hp,rfl⟩:=List.mem_map.1 h
        exact h2 (by simpa using (List.mem_filter.1 hp).2)
      rw [this,if_neg h2];rfl
    have hsame:∀ n,n≠κ0+i->ι' n=ι n:=fun n hne=>hO2.ext.same n fun e=>absurd e hne
    refine hn ι' ((R i).hs++ZV_ ns HD) _ w' ⟨hdown,honly,hputdef _,hputsize _,fun x=>?_,hO2.rep,fun β=>?_,fun j hj hL=>?_,fun n hn'=>?_,I.kept.trans hO2.ext.kept,fun n hn'=>?_,fun n hn'=>?_⟩
    . rw [hputget]
      by_cases hx:o.dst=some x
      . rw [if_pos hx,pTdst x hx,htnew x hx];exact hO2.val
      rw [if_neg hx,pTother x hx];exact (I.tm x).stays hS
    . rw [hlk β]
      by_cases hβ:β∈m0 (P9 o.op) (κ0+i) ns
      . rw [if_pos hβ]
        have:last (pH ops κ0 R (VE_ L i) β) m=i+1:=by
          refine zHv hi ?_ ?_
          . unfold pH VE_;rw [hlg];simp [hβ]
          intro k h1 h2
          unfold pH VE_
          by_cases hk:β∈(Wo_ ops κ0 R k).2
          . have:=(aH β (.inr (by rw [hlg];exact hβ)) k h2 (by omega) hk).2 h1
            simp [show k≠i by omega,this]
          simp [hk]
        rw [this]
      rw [if_neg hβ,I.lk β]
      congr 2
      exact congrArg R (T6 m fun k hk=>by
        unfold pH VE_
        by_cases e:k=i
        . subst e;rw [hlg];simp [hβ]
        simp [e])
    . unfold VE_ at hL
      split at hL
      . cases hL
      rename_i hne
      rw [hsame _ (by omega)];exact I.fq j hj hL
    . rw [hsame n (by omega)];exact I.fr n hn'
    . rw [hsame n (by omega)];exact I.same n hn'
    rcases hO2.ext.dom n hn' with h|h
    . exact I.dom n h
    exact .inr (by have:=h.1;omega)
end
end Go.Sl
namespace Go.Sl
section
variable {P:Program} {ops:List Oper} {N κ0 m:Nat} {R:Nat->Rec} {tbl:List (List Nat)}
variable {F:Nat->Prop} {ι0 ι:E3} {H0 HD:A8} {w0 w:World} {L:Nat->Bool} {a:Act} {Q:Exit->Act->World->Prop}
theorem Inv.done (C : Ctx P ops N κ0 m R tbl) (I : Inv ops N κ0 m R F ι0 H0 w0 L ι HD a w) (hL : ∀ j, j < m → L j = true) :
    Holds All F ι ⟨N,(R m).t,(R m).H,κ0+m⟩ a w/\Ext All ι0 H0 κ0 w0 ι (R m).H (κ0+m) w:=by
  have hT:∀ x,get (R (last (pT ops L x) m)).t x=get (R m).t x:=fun x =>
    (C.runT m (Xj_ _ _) (Nat.le_refl _) fun k h1 h2=>by
      have:=R9 _ m k h1 h2
      unfold pT at this
      simpa [hL k h2] using this).symm
  have hH:∀ β,look β HD=look β (R m).H:=fun β=>by
    rw [I.lk β]
    exact (C.runH m (Xj_ _ _) (Nat.le_refl _) fun k h1 h2=>by
      have:=R9 _ m k h1 h2
      unfold pH at this
      simpa [hL k h2] using this).symm
  have hp:HD.Perm (R m).H:=YX_ I.rep.names (C.names m (Nat.le_refl _)).1 hH
  refine ⟨⟨I.defers,I.size,fun x=>?_,I.rep.perm hp,fun n _ hn=>I.fr n hn⟩,I.kept.trans (Kept.perm hp),Nat.le_add_right _ _,fun n hn=>I.same n (hn trivial),fun n hn=>?_⟩
  . have:=I.tm x
    rw [hT x] at this
    exact this.stays (Kept.perm hp).stays
  rcases I.dom n ((hp.map _).mem_iff.2 hn) with h|h
  . exact .inl h
  exact .inr ⟨trivial,h⟩
def cnt (l:List Bool):Nat:=(l.filter (!·)).length
theorem zHw:∀ (l:List Bool) (i:Nat),l[i]?=some false->cnt (l.set i true)+1=cnt l
 | [],i,h=>by simp at h
 | b::l,0,h=>by simp at h;subst h;simp [cnt]
 | b::l,i+1,h=>by
  have:=zHw l i (by simpa using h)
  cases b<;>simp [cnt] at this ⊢<;>omega
theorem zCj:∀ (l:List Bool),cnt l=0->∀ (i:Nat) (b:Bool),l[i]?=some b->b=true
 | [],_,i,b,h=>by simp at h
 | c::l,hc,i,b,h=>by
  cases c with
  | false=>simp [cnt] at hc
  | true =>
   cases i with
   | zero=>simp at h;exact h
   | succ i=>exact zCj l (by simpa [cnt] using hc) i b (by simpa using h)
theorem zma (n:Nat):cnt (List.replicate n false)=n:=by simp [cnt]
def lst (listed:Array Bool) (j:Nat):Bool:=listed.getD j false
variable {i:Nat} {listed:Array Bool}
theorem zHx (h:i<listed.size):lst (listed.setIfInBounds i true)=VE_ (lst listed) i:=by
 funext k
 unfold lst VE_
 simp only [Array.getD_eq_getD_getElem?,Array.getElem?_setIfInBounds]
 by_cases e:k=i
 .subst e;simp [h]
 simp [e,Ne.symm e]
theorem ZX_ (hs:listed.size=ops.length):i∈Region.ready .any ops.toArray listed↔i<ops.length/\lst listed i=false/\∀ e∈U3 ops i,lst listed e=true:=by
 unfold Region.ready
 simp only [List.mem_filter,mem_range,size_toArray,Bool.and_eq_true]
 constructor
 .rintro ⟨h1,h2,h3⟩
  refine ⟨h1,?_,?_⟩
  .unfold lst
   have hlt:i<listed.size:=by omega
   simp [Array.getD,hlt] at h2 ⊢
   exact h2
  intro e he
  unfold U3 at he
  obtain ⟨o,ho⟩:∃ o,ops[i]?=some o:=⟨_,List.getElem?_eq_getElem h1⟩
  rw [ho] at he
  simp only [mem_map,List.mem_filter] at he
  obtain ⟨ed,⟨h4,h5⟩,rfl⟩:=he
  simp only [List.getElem?_toArray,ho,Option.map_some,Option.getD_some] at h3
  rw [Array.all_eq_true_iff_forall_mem] at h3
  have:=h3 ed (by simpa using h4)
  unfold lst
  simpa [h5] using this
 rintro ⟨h1,h2,h3⟩
 refine ⟨h1,?_,?_⟩
 .unfold lst at h2
  have hlt:i<listed.size:=by omega
  simp [Array.getD,hlt] at h2 ⊢
  exact h2
 obtain ⟨o,ho⟩:∃ o,ops[i]?=some o:=⟨_,List.getElem?_eq_getElem h1⟩
 simp only [List.getElem?_toArray,ho,Option.map_some,Option.getD_some]
 rw [Array.all_eq_true_iff_forall_mem]
 intro ed hed
 by_cases hb:Region.binds .any ed=true
 .have:=h3 ed.on (by
   unfold U3
   rw [ho]
   simp only [mem_map,List.mem_filter]
   exact ⟨ed,⟨by simpa using hed,hb⟩,rfl⟩)
  unfold lst at this
  simp [hb,this]
 simp [hb]
theorem VF_ (C:Ctx P ops N κ0 m R tbl) {listed:Array Bool} (hs:listed.size=ops.length) (h:Region.ready .any ops.toArray listed=[]):∀ j,j<ops.length->lst listed j=true:=by
 intro j
 induction j using Nat.strongRecOn with
 | _ j ih =>
  intro hj
  cases hl:lst listed j with
  | true=>rfl
  | false =>
   have:j∈Region.ready .any ops.toArray listed:=(ZX_ hs).2 ⟨hj,hl,fun e he=>ih e (C.edges j hj e he) (by have:=C.edges j hj e he;omega)⟩
   rw [h] at this;cases this
theorem zA6 (h:cnt listed.toList=0):∀ j,j<listed.size->lst listed j=true:=by
 intro j hj
 have:=zCj listed.toList h j listed[j] (by simp [hj])
 unfold lst
 simp [Array.getD,hj,this]
theorem zHy {f:Nat} (hi:i<listed.size) (hl:lst listed i=false) (h:cnt listed.toList=f+1):cnt (listed.setIfInBounds i true).toList=f:=by
 have h1:listed.toList[i]?=some false:=by
  unfold lst at hl
  simp [Array.getD,hi] at hl
  simp [hi,hl]
 have:=zHw listed.toList i h1
 have e:(listed.setIfInBounds i true).toList=listed.toList.set i true:=by simp
 rw [e];omega
theorem forced (C : Ctx P ops N κ0 m R tbl) : ∀ (f : Nat) (q : Nat) (listed : Array Bool) (a : Act) (w : World), m ≤ q → q ≤ ops.length → listed.size = ops.length → cnt listed.toList = f → (∀ j, lst listed j = decide (j < q)) →
    wpList P ops.toArray Q (ops.drop q) a w->wpAny P .any ops.toArray Q f listed a w:=by
  intro f
  induction f with
  | zero =>
    intro q listed a w hmq hq hs hc hl hw
    have hqn:q=ops.length:=by
      rcases Nat.lt_or_ge q ops.length with h|h
      . have:=zA6 hc q (by omega)
        rw [hl] at this;simp at this
      omega
    subst hqn
    rw [drop_length] at hw
    refine ⟨?_,hw⟩
    cases hr:Region.ready .any ops.toArray listed with
    | nil=>rfl
    | cons i r =>
      have:=(ZX_ hs).1 (by rw [hr];exact .head _:i∈Region.ready .any ops.toArray listed)
      have h1:=zA6 hc i (by omega)
      rw [this.2.1] at h1;cases h1
  | succ f ih =>
    intro q listed a w hmq hq hs hc hl hw
    constructor
    . intro hr
      have hqn:q=ops.length:=by
        rcases Nat.lt_or_ge q ops.length with h|h
        . have:=VF_ C hs hr q h
          rw [hl] at this;simp at this
        omega
      subst hqn
      rw [drop_length] at hw
      exact hw
    intro i hi
    obtain ⟨h1,h2,h3⟩:=(ZX_ hs).1 hi
    rw [hl] at h2
    have hiq:q<=i:=by simpa using h2
    have hi':i=q:=by
      rcases Nat.lt_or_ge q i with h|h
      . exfalso
        have hdown:zip ops (lst listed):=fun j hj e he=>by
          rw [hl] at hj ⊢
          simp only [decide_eq_true_eq] at hj ⊢
          have:=C.edges j (by omega) e he;omega
        have:=C.before hdown i h1 h3 q (C.tail i (by omega) h1 q h)
        rw [hl] at this;simp at this
      omega
    subst hi'
    obtain ⟨o,ho⟩:∃ o,ops[i]?=some o:=⟨_,List.getElem?_eq_getElem h1⟩
    have hdrop:ops.drop i=o::ops.drop (i+1):=by
      rw [drop_eq_getElem_cons h1];congr 1;exact (List.getElem?_eq_some_iff.1 ho).2
    rw [hdrop] at hw
    simp only [wpList] at hw
    have hnext:∀ a w,wpList P ops.toArray Q (ops.drop (i+1)) a w->wpAny P .any ops.toArray Q f (listed.setIfInBounds i true) a w:=fun a w h=>by
      refine ih (i+1) _ a w (by omega) (by omega) (by simpa using hs) (zHy (by omega) (by rw [hl];simp) hc) (fun j=>?_) h
      rw [zHx (by omega)]
      unfold VE_
      by_cases e:j=i
      . subst e;simp
      rw [if_neg e,hl]
      by_cases h:j<i
      . simp [h];omega
      simp [h];omega
    unfold wpOp
    simp only [List.getElem?_toArray,ho]
    split
    . rename_i hwt
      rw [if_pos hwt] at hw
      exact hw.imp (Oper.wp_mono hnext) id
    rename_i hwt
    rw [if_neg hwt] at hw
    exact hnext _ _ hw
theorem zmb (C : Ctx P ops N κ0 m R tbl) (hend : ∀ ι a w, Holds All F ι ⟨N, (R m).t, (R m).H, κ0 + m⟩ a w → Ext All ι0 H0 κ0 w0 ι (R m).H (κ0 + m) w → wpList P ops.toArray Q (ops.drop m) a w) :
    ∀ (f:Nat) (listed:Array Bool) (ι:E3) (HD:A8) (a:Act) (w:World),listed.size=ops.length->cnt listed.toList=f->Inv ops N κ0 m R F ι0 H0 w0 (lst listed) ι HD a w->wpAny P .any ops.toArray Q f listed a w:=by
  intro f
  induction f with
  | zero =>
    intro listed ι HD a w hs hc I
    have hall:∀ j,j<m->lst listed j=true:=fun j hj=>zA6 hc j (by have:=C.mle;omega)
    obtain ⟨h1,h2⟩:=I.done C hall
    refine forced C 0 m listed a w (Nat.le_refl _) C.mle hs hc (fun j=>?_) (hend ι a w h1 h2)
    by_cases h:j<m
    . simp [hall j h,h]
    cases hl:lst listed j with
    | false=>simp [h]
    | true=>exact absurd (I.only j hl) h
  | succ f ih =>
    intro listed ι HD a w hs hc I
    by_cases hall:∀ j,j<m->lst listed j=true
    . obtain ⟨h1,h2⟩:=I.done C hall
      refine forced C (f+1) m listed a w (Nat.le_refl _) C.mle hs hc (fun j=>?_) (hend ι a w h1 h2)
      by_cases h:j<m
      . simp [hall j h,h]
      cases hl:lst listed j with
      | false=>simp [h]
      | true=>exact absurd (I.only j hl) h
    have hex:∃ j,j<m/\lst listed j=false:=by
      refine Classical.byContradiction fun h=>hall fun j hj=>?_
      cases hl:lst listed j with
      | true=>rfl
      | false=>exact absurd ⟨j,hj,hl⟩ h
    obtain ⟨j,hj,hlj⟩:=hex
    constructor
    . intro hr
      have:=VF_ C hs hr j (by have:=C.mle;omega)
      rw [hlj] at this;cases this
    intro i hi
    obtain ⟨h1,h2,h3⟩:=(ZX_ hs).1 hi
    have him:i<m:=by
      rcases Nat.lt_or_ge i m with h|h
      . exact h
      have:=C.before I.down i h1 h3 j (C.tail i h h1 j (by omega))
      rw [hlj] at this;cases this
    obtain ⟨o,ho⟩:=C.op him
    have hst:=I.step (Q:=Q) C him h2 h3 ho (wpAny P .any ops.toArray Q f (listed.setIfInBounds i true)) fun ι' HD' a' w' I'=>by
      refine ih _ ι' HD' a' w' (by simpa using hs) (zHy (by omega) h2 hc) ?_
      rw [zHx (by omega)];exact I'
    unfold wpOp
    simp only [List.getElem?_toArray,ho]
    split
    . rename_i hwt;rw [if_pos hwt] at hst;exact .inl hst
    rename_i hwt;rw [if_neg hwt] at hst;exact hst
end
section
variable {P:Program} {T:Tab} {Q:Exit->St->Prop}
theorem zA7 {ops : List Oper} {tbl : List (List Nat)} {m : Nat} (h : YY_ ops tbl m = true) :
    m<=ops.length/\(∀ j,j<ops.length->∀ e∈U3 ops j,e<j)/\(∀ j,j<ops.length->∀ i∈row tbl j,i<j/\(i∈U3 ops j\/∃ k∈U3 ops j,i∈row tbl k)) ∧
      (∀ j,m<=j->j<ops.length->∀ i,i<j->i∈row tbl j)/\(∀ i j,i<j->j<m->U4 ops i j=true->i∈row tbl j):=by
  unfold YY_ at h
  simp only [Bool.and_eq_true,decide_eq_true_eq,all_eq_true,mem_range,Bool.or_eq_true,contains_iff_mem,any_eq_true,Bool.not_eq_true'] at h
  obtain ⟨⟨h1,h2⟩,h3⟩:=h
  refine ⟨h1,fun j hj e he=>(h2 j hj).1.1 e he,fun j hj i hi=>?_,fun j hm hj i hi=>?_,fun i j hij hj hc=>?_⟩
  . have:=(h2 j hj).1.2 i hi
    exact ⟨this.1,this.2⟩
  . rcases (h2 j hj).2 with h|h
    . omega
    exact h i hi
  rcases h3 j hj i hij with h|h
  . rw [hc] at h;cases h
  exact h
theorem zHz (hT : J9 P T) (hm : P.follows .mixedOrders = true) {id : Nat} {l : List Oper} {N k m : Nat} {t : List (Nat × V)} {H : A8} (tbl : List (List Nat)) (prs : List (Nat × Nat)) (hN : R8 l N = true) (hd : YY_ l tbl m = true) (hp : ZB_ l tbl prs m = true)
    (h:vcD T P l N k (l.take m) (fun t' H' lg=>Wz_ prs lg/\vcL T P l N (l.drop m) (fun σ'=>Q .normal σ') t' H' (k+m)) t H []):Tr P (.region id l.toArray true) Q ⟨N,t,H,k⟩:=by
  intro F ι a w hh
  obtain ⟨d1,d2,d3,d4,d5⟩:=zA7 hd
  obtain ⟨R,r0,r1,r2,r3⟩:=zA3 hT l N _ (l.take m) k t H [] h
  have hlen:(l.take m).length=m:=by rw [length_take];omega
  rw [hlen] at r3
  simp only [nil_append] at r3
  obtain ⟨r3,r4⟩:=r3
  have hget:∀ j,j<m->(l.take m)[j]?=l[j]?:=fun j hj=>by rw [List.getElem?_take,if_pos hj]
  have hlg:∀ j,j<m->((l.take m).mapIdx fun j o=>Z5_ o (k+j) (R j))[j]?=some (Wo_ l k R j):=fun j hj=>by
    obtain ⟨o,ho⟩:∃ o,l[j]?=some o:=⟨_,List.getElem?_eq_getElem (by omega)⟩
    rw [List.getElem?_mapIdx,hget j hj,ho]
    simp [Wo_,ho]
  have C:Ctx P l N k m R tbl:=by
    refine ⟨fun j hj o ho=>r2 j o (by rw [hget j hj];exact ho),d1,d2,d3,d4,d5,fun i j hij hj=>?_,U1 hN,?_,?_⟩
    . have hp':=hp
      unfold ZB_ at hp'
      simp only [all_eq_true,mem_range,Bool.or_eq_true,Bool.and_eq_true] at hp'
      rcases hp' j hj i hij with (h1|h1)|⟨h1,h2⟩
      . exact .inl (by simpa using h1)
      . have:=VD_ r3 i j (by simpa using h1)
        simp only [List.getD,hlg i (by omega),hlg j hj,Option.getD_some] at this
        exact .inr this
      refine .inr (zA4 ?_ ?_)
      . cases ho:l[i]? with
        | none=>rw [ho] at h1;simp at h1
        | some o =>
          rw [ho] at h1
          have h1:P9 o.op=0:=by simpa using h1
          simp only [Wo_,ho,Z5_]
          split<;>simp [m0,h1]
      cases ho:l[j]? with
      | none=>rw [ho] at h2;simp at h2
      | some o =>
        rw [ho] at h2
        have h2:P9 o.op=0:=by simpa using h2
        simp only [Wo_,ho,Z5_]
        split<;>simp [m0,h2]
    . rw [r1];exact hh.rep.names
    rw [r1]
    intro n hn
    obtain ⟨⟨n',b⟩,hmem,he⟩:=List.mem_map.1 hn
    simp only at he;subst he
    obtain ⟨l',hl',_⟩:=hh.rep.own _ b hmem
    refine Nat.lt_of_not_le fun hk=>?_
    rw [hh.fresh _ trivial hk] at hl';cases hl'
  refine wp_region_any hm ?_
  have hdrew:({ w with drawn:=w.drawn+1 }:World)=w.drew:=rfl
  rw [hdrew]
  obtain ⟨R',K'⟩:=hh.rep.later (w':=w.drew) rfl (Tp.drew _) rfl (Nat.le_refl _) fun _ _=>rfl
  have hfuel:cnt (Array.replicate l.toArray.size false).toList=l.toArray.size:=by simp [cnt]
  have hsz:(Array.replicate l.toArray.size false).size=l.length:=by simp
  refine zmb (F:=F) (ι0:=ι) (H0:=H) (w0:=w) C ?_ l.toArray.size _ ι H a w.drew hsz hfuel ?_
  . intro ι' a' w' h1 h2
    refine Xg_ hT l (l.drop m) _ ⟨N,(R m).t,(R m).H,k+m⟩ r4 (U1 hN) F ι' a' w' h1 _ ?_
    intro ι'' σ'' a'' w'' hK hh'' hx
    exact ⟨ι'',σ'',hK,hh'',h2.trans hx⟩
  have hl0:∀ j,lst (Array.replicate l.toArray.size false) j=false:=fun j=>by
    unfold lst
    simp only [Array.getD_eq_getD_getElem?,Array.getElem?_replicate]
    split<;>rfl
  refine ⟨fun j hj=>by rw [hl0] at hj;(cases hj),fun j hj=>by rw [hl0] at hj;(cases hj),hh.defers,hh.size,fun x=>?_,R',fun β=>?_,fun i hi _=>hh.fresh _ trivial (by simp only [];omega),fun n hn=>hh.fresh n trivial (by simp only [];omega),K',fun _ _=>rfl,fun n hn=>.inl hn⟩
  . rw [Xk_ m fun q hq=>by unfold pT;rw [hl0];rfl,r0]
    exact (hh.tmps x).stays K'.stays
  rw [Xk_ m fun q hq=>by unfold pH;rw [hl0];rfl,r1]
theorem S8 (hT : J9 P T) (hm : P.follows .mixedOrders = true) {id : Nat} {l : List Oper} {y : Code} {N k : Nat} {t : List (Nat × V)} {H : A8} (m : Nat) (tbl : List (List Nat)) (prs : List (Nat × Nat)) (hN : R8 l N = true) (hd : YY_ l tbl m = true) (hp : ZB_ l tbl prs m = true)
    (h:∀ K:St->Prop,(∀ σ',Tr P y Q σ'->K σ')->vcD T P l N k (l.take m) (fun t' H' lg=>Wz_ prs lg/\vcL T P l N (l.drop m) K t' H' (k+m)) t H []) :
    Tr P (.seq (.region id l.toArray true) y) Q ⟨N,t,H,k⟩ :=
  W7_ (zHz hT hm tbl prs hN hd hp (h _ fun _ h=>h))
end
section
variable {H H':A8} {T:Tab} {P:Program}
theorem A5 {g:FuncId} {args:List V} {r:V} {K:V->Prop} (h:Pf P g args r) (k:K r):@zHs P g args H ⟨K⟩:=⟨r,h.pfH H,k⟩
@[congr] theorem zbn {t t':List (Nat × V)} {k k':Nat} {op:Op} {KA:V->A8->Nat->Prop} (h1:t=t') (h2:H=H') (h3:k=k'):zOj T P t H k op KA=zOj T P t' H' k' op KA:=by rw [h1,h2,h3]
@[congr] theorem ze6 {ops l:List Oper} {N κ κ':Nat} {K:List (Nat × V)->A8->List (List Nat × List Nat)->Prop} {t t':List (Nat × V)} {lg lg':List (List Nat × List Nat)} (h0:κ=κ') (h1:t=t') (h2:H=H') (h3:lg=lg'):vcD T P ops N κ l K t H lg=vcD T P ops N κ' l K t' H' lg':=by rw [h0,h1,h2,h3]
end
attribute [go_sem] zOj vcD
attribute [go_sem] Op.operands Call.operands YV_ rtT V.nm V.nm1 zo1 I2 i6 ZV_ P9 YW_ QX_ m0 ze5 V9_ Wz_
end Go.Sl
namespace Go.Sl
open Go.ChangeShapes Go.RowKit Go.WideShapes
def No:Nat->Prop:=fun _=>False
def noN:E3:=fun _=>none
structure ImpAs (P:Program) (t:TypeId) {α:Type} (ok:α->Prop) (f:α->List V):Prop where
 nl:∀ a,NLs (f a)
 one:∀ a,ok a->(f a).all V.one=true
 len:∀ a,ok a->(f a).length=P.cellsOf t
 imp:∀ {H:Type} {enc:TypeId × Value->H} {w:World} {base:Nat} {held:Bool} {fuel:Nat} {cs:List Value} {x:DataW H × List MemPlace},DataW.trod enc P w base (fun _=>true) held fuel t cs=some x->∃ a,ok a/\VRels noN No w (f a) cs
section
variable {P:Program} {t e:TypeId}
theorem zCk (ht:P.underlying t=some .bool) (hc:P.cellsOf t=1):ImpAs P t (fun _:Bool=>True) fun b=>[.val (.bool b)] where
 nl a:=.cons (.val _) .nil
 one a _:=rfl
 len a _:=hc.symm
 imp h:=by
  obtain ⟨b,rfl,_⟩:=DataW.trod_bool ht h
  exact ⟨b,trivial,.cons (.val _ rfl) .nil⟩
variable {fld:Field} {o sz tot:Nat} {ts:List TypeId} {α β:Type}
theorem zA8 {k:IntKind} (ht:P.underlying t=some (.int k)) (hc:P.cellsOf t=1):ImpAs P t (fun n:Int=>(Lit.int k n).wf=true) fun n=>[.val (.int k n)] where
 nl a:=.cons (.val _) .nil
 one a _:=rfl
 len a _:=hc.symm
 imp h:=by
  obtain ⟨n,rfl,_,hw⟩:=DataW.trod_int ht h
  exact ⟨n,hw,.cons (.val _ rfl) .nil⟩
theorem zFl (ht:P.underlying t=some .string) (hc:P.cellsOf t=1):ImpAs P t (fun s:ByteArray=>s.size<=maxLen) fun s=>[.val (.string s)] where
 nl a:=.cons (.val _) .nil
 one a _:=rfl
 len a _:=hc.symm
 imp h:=by
  obtain ⟨s,rfl,_,hw⟩:=DataW.trod_string ht h
  exact ⟨s,hw,.cons (.val _ rfl) .nil⟩
def zI0 {α:Type} (sz:Nat) (el:α->V):Option (List α)->V
 | none=>.val (.slice none 0 0)
 | some l=>.ro sz (l.map el)
theorem zI1 {ok:α → Prop} {f:α → List V} (el : α → V) (ht : P.underlying t = some (.slice e)) (hc : P.cellsOf t = 1) (hsz : P.cellsOf e = sz) (hpos : 0 < sz) (hel : ∀ a, ok a → (el a).cells = f a) (hnl : ∀ a, NLs (el a).cells)
    (h:ImpAs P e ok f):ImpAs P t (fun o:Option (List α)=>∀ l,o=some l->l.length<=maxLen/\∀ a∈l,ok a) fun o=>[zI0 sz el o] where
  nl o:=.cons (by
    cases o with
    | none=>exact .val _
    | some l=>exact .ro fun v hv=>by obtain ⟨a,_,rfl⟩:=List.mem_map.1 hv;exact hnl a) .nil
  one o _:=by cases o<;>rfl
  len o _:=hc.symm
  imp {H enc w base held fuel cs x} hr:=by
    rcases DataW.trod_slice ht hr with ⟨rfl,_⟩|⟨a,len,cap,elems,rest,n,_,rfl,_,hb,hl,hm,hlen,hel',_,_⟩
    . exact ⟨none,⟨fun l h=>(nomatch h),.cons (.val _ rfl) .nil⟩⟩
    rw [hsz] at hel'
    rcases Nat.eq_zero_or_pos len with h0|h0
    . subst h0
      exact ⟨some [],fun l h=>(by cases h;simp),.cons .ro0 .nil⟩
    have key:∀ i,i<len->∃ csi,w.cells? base (a.add (i*sz)) sz=some csi/\∃ b,ok b/\VRels noN No w (f b) csi:=by
      intro i hi
      obtain ⟨y,hy⟩:∃ y,elems[i]?=some y:=⟨_,List.getElem?_eq_getElem (by omega)⟩
      have:=hel' i hi
      rw [hy,Option.bind_eq_some_iff] at this
      obtain ⟨csi,h1,h2⟩:=this
      obtain ⟨b,hb1,hb2⟩:=h.imp h2
      exact ⟨csi,h1,b,hb1,hb2⟩
    obtain ⟨cs0,hcs0,_⟩:=key 0 h0
    obtain ⟨_,hcl,hcell⟩:=World.cells?_some hcs0
    have h00:=hcell 0 hpos
    rw [List.getElem?_eq_getElem (by omega)] at h00
    simp only [Nat.zero_mul,Addr.add,if_true] at h00
    obtain ⟨b,off,spot⟩:=a
    unfold World.cell? at h00
    split at h00
    . rename_i c ty fr hw
      split at h00
      . cases h00
      rename_i hsp
      have hsp:spot=none:=by cases spot<;>simp_all
      subst hsp
      have hadd:∀ n,(Addr.mk b off none).add n=⟨b,off+n,none⟩:=fun n=>by unfold Addr.add;split<;>simp_all
      have hw':w.heap[b]?=some (.cells c ty fr):=hw
      have hcell':∀ o,w.cell? ⟨b,o,none⟩=c[o]?:=fun o=>by unfold World.cell?;simp only [hw'];simp
      have build:∀ n,n<=len->∃ l:List α,l.length=n/\(∀ a∈l,ok a)/\off+n*sz<=c.size/\VRels noN No w (l.flatMap f) ((c.toList.drop off).take (n*sz)):=by
        intro n
        induction n with
        | zero =>
          intro _
          refine ⟨[],rfl,by simp,?_,by simpa using VRels.nil⟩
          have:c[off]?≠none:=by have h00':c[off]?=_:=h00;rw [h00'];simp
          rw [Ne,Array.getElem?_eq_none_iff] at this
          omega
        | succ n ih =>
          intro hn
          obtain ⟨l,hll,hok,hsz',hv⟩:=ih (by omega)
          obtain ⟨csi,h1,a',ha',hv'⟩:=key n (by omega)
          obtain ⟨_,hcl',hcell2⟩:=World.cells?_some h1
          have hcsi:∀ i,i<sz->c[off+n*sz+i]?=csi[i]?:=fun i hi=>by
            have:=hcell2 i hi
            rw [hadd] at this
            have hadd2:(Addr.mk b (off+n*sz) none).add i=⟨b,off+n*sz+i,none⟩:=by unfold Addr.add;split<;>simp_all
            rw [hadd2,hcell'] at this
            exact this
          have hlast:=hcsi (sz-1) (by omega)
          rw [List.getElem?_eq_getElem (by omega)] at hlast
          obtain ⟨hlt,_⟩:=Array.getElem?_eq_some_iff.1 hlast
          refine ⟨l++[a'],by simp [hll],?_,by rw [Nat.succ_mul];omega,?_⟩
          . intro x hx
            rcases List.mem_append.1 hx with hx|hx
            . exact hok x hx
            simp at hx;subst hx;exact ha'
          have e1:(c.toList.drop off).take ((n+1)*sz)=(c.toList.drop off).take (n*sz)++csi:=by
            apply List.ext_getElem?
            intro q
            rw [Nat.succ_mul]
            have hL:((c.toList.drop off).take (n*sz)).length=n*sz:=by simp;omega
            by_cases hq:q<n*sz
            . rw [List.getElem?_append_left (by omega),List.getElem?_take,List.getElem?_take,if_pos (by omega),if_pos hq]
            rw [List.getElem?_append_right (by omega),hL]
            by_cases hq':q<n*sz+sz
            . rw [List.getElem?_take,if_pos hq',List.getElem?_drop,Array.getElem?_toList,<-hcsi (q-n*sz) (by omega)]
              congr 1;omega
            rw [List.getElem?_take,if_neg hq',List.getElem?_eq_none (by omega)]
          rw [e1]
          simpa using hv.append hv'
      obtain ⟨l,hll,hok,hin,hv⟩:=build len (Nat.le_refl _)
      have hlf:(l.map el).flatMap V.cells=l.flatMap f:=by
        rw [flatMap_map]
        clear hv hll build
        induction l with
        | nil=>rfl
        | cons x xs ih=>simp only [flatMap_cons,hel x (hok x (by simp)),ih (fun a ha=>hok a (by simp [ha]))]
      refine ⟨some l,fun l' hl'=>(by cases hl';exact ⟨by omega,hok⟩),.cons (.ro (c:=c) (e:=ty) (fr:=fr) ?_ (by simp [No]) hw' ?_ (by simp [hll]) hl (by simpa [hll] using hin) rfl ?_) .nil⟩
      . exact (Array.getElem?_eq_some_iff.1 hw').1
      . intro v hv
        obtain ⟨a',ha',rfl⟩:=List.mem_map.1 hv
        have h1:=h.len a' (hok a' ha')
        have h2:=h.one a' (hok a' ha')
        simp only [V.fits,hel a' (hok a' ha'),Bool.and_eq_true,beq_iff_eq]
        exact ⟨by omega,h2⟩
      simp only [length_map,hlf,hll];exact hv
    cases h00
theorem ze7 {ok:α → Prop} {f:α → List V} {n:Nat} (ht : P.underlying t = some (.array n e)) (hsz : P.cellsOf e = sz) (hc : P.cellsOf t = n * sz) (h : ImpAs P e ok f) :
    ImpAs P t (fun l:List α=>l.length=n/\∀ a∈l,ok a) fun l=>l.flatMap f where
  nl l:=fun v hv=>by
    obtain ⟨a,_,h2⟩:=List.mem_flatMap.1 hv
    exact h.nl a v h2
  one l hl:=by
    rw [all_eq_true]
    intro v hv
    obtain ⟨a,h1,h2⟩:=List.mem_flatMap.1 hv
    exact List.all_eq_true.1 (h.one a (hl.2 a h1)) v h2
  len l hl:=by
    rw [hc,<-hl.1]
    have:=hl.2
    clear hl
    induction l with
    | nil=>simp
    | cons x xs ih=>simp only [flatMap_cons,length_append,length_cons,Nat.succ_mul,h.len x (this x (by simp)),hsz,ih (fun a ha=>this a (by simp [ha]))];omega
  imp {H enc w base held fuel cs x} hr:=by
    obtain ⟨xs,m,_,_,hl,hxs,hi⟩:=DataW.trod_array ht hr
    rw [hsz] at hi
    rw [hc] at hl
    have build:∀ q,q<=n->∃ l:List α,l.length=q/\(∀ a∈l,ok a)/\VRels noN No w (l.flatMap f) (cs.take (q*sz)):=by
      intro q
      induction q with
      | zero=>intro _;exact ⟨[],rfl,by simp,by simpa using VRels.nil⟩
      | succ q ih =>
        intro hq
        obtain ⟨l,hll,hok,hv⟩:=ih (by omega)
        have h1:=hi q (by omega)
        rw [List.getElem?_eq_getElem (by omega)] at h1
        obtain ⟨a,ha,hv'⟩:=h.imp h1
        refine ⟨l++[a],by simp [hll],fun x hx=>?_,?_⟩
        . rcases List.mem_append.1 hx with hx|hx
          . exact hok x hx
          simp at hx;subst hx;exact ha
        rw [Nat.succ_mul,take_add]
        simpa using hv.append hv'
    obtain ⟨l,hll,hok,hv⟩:=build n (Nat.le_refl _)
    refine ⟨l,⟨hll,hok⟩,?_⟩
    rw [<-hl,take_length] at hv
    exact hv
structure ImpFs (P:Program) (fs:List Field) (o tot:Nat) {α:Type} (ok:α->Prop) (f:α->List V):Prop where
 nl:∀ a,NLs (f a)
 one:∀ a,ok a->(f a).all V.one=true
 len:∀ a,ok a->o+(f a).length=tot
 imp:∀ {H:Type} {enc:TypeId × Value->H} {w:World} {base:Nat} {held:Bool} {n:Nat} {cs:List Value},cs.length=tot →
  (∀ fld∈fs,∃ x,DataW.trod enc P w base (fun _=>true) held n fld.type ((cs.drop fld.offset).take (P.cellsOf fld.type))=some x)->∃ a,ok a/\VRels noN No w (f a) (cs.drop o)
theorem ziq:ImpFs P [] o o (fun _:Unit=>True) fun _=>[] where
 nl _:=.nil
 one _ _:=rfl
 len _ _:=rfl
 imp hl _:=⟨(),trivial,by rw [drop_eq_nil_of_le (by omega)];exact .nil⟩
theorem o7 {α:Type} {ok:α->Prop} {f:α->List V} {fld:Field} {o tot:Nat} (ho:fld.offset=o) (ht:o+P.cellsOf fld.type=tot) (h:ImpAs P fld.type ok f):ImpFs P [fld] o tot ok f where
 nl:=h.nl
 one:=h.one
 len a ha:=by rw [h.len a ha,ht]
 imp {H enc w base held n cs} hl hf:=by
  obtain ⟨x,hx⟩:=hf fld (by simp)
  obtain ⟨a,ha,hv⟩:=h.imp hx
  refine ⟨a,ha,?_⟩
  rw [ho,take_of_length_le (by simp;omega)] at hv
  exact hv
theorem G7 {ok:α → Prop} {f:α → List V} {ok':β → Prop} {f':β → List V} {fs:List Field} {o':Nat} (ho : fld.offset = o) (hs : o + P.cellsOf fld.type = o') (h : ImpAs P fld.type ok f) (h' : ImpFs P fs o' tot ok' f') :
    ImpFs P (fld::fs) o tot (fun p:α × β=>ok p.1/\ok' p.2) fun p=>f p.1++f' p.2 where
  nl p:=fun v hv=>by
    rcases List.mem_append.1 hv with hv|hv
    . exact h.nl _ v hv
    exact h'.nl _ v hv
  one p hp:=by simp only [all_append,h.one _ hp.1,h'.one _ hp.2,Bool.and_self]
  len p hp:=by have:=h'.len _ hp.2;rw [length_append,h.len _ hp.1];omega
  imp {H enc w base held n cs} hl hf:=by
    obtain ⟨x,hx⟩:=hf fld (by simp)
    obtain ⟨a,ha,hv⟩:=h.imp hx
    obtain ⟨b,hb,hv'⟩:=h'.imp hl fun g hg=>hf g (by simp [hg])
    refine ⟨(a,b),⟨ha,hb⟩,?_⟩
    have:cs.drop o=(cs.drop o).take (P.cellsOf fld.type)++cs.drop o':=by rw [<-hs,<-drop_drop,take_append_drop]
    rw [this,<-ho]
    exact hv.append hv'
theorem Y8 {α:Type} {ok:α->Prop} {f:α->List V} {fs:Array Field} {tot:Nat} (ht:P.underlying t=some (.struct fs)) (hc:P.cellsOf t=tot) (h:ImpFs P fs.toList 0 tot ok f):ImpAs P t ok f where
 nl:=h.nl
 one:=h.one
 len a ha:=by have:=h.len a ha;omega
 imp {H enc w base held fuel cs x} hr:=by
  obtain ⟨xs,n,_,_,hl,hxs,hi⟩:=DataW.trod_struct ht hr
  have:=h.imp (cs:=cs) (n:=n) (enc:=enc) (w:=w) (base:=base) (held:=held) (by omega) fun fld hfld=>by
   obtain ⟨i,hi1⟩:=List.getElem?_of_mem hfld
   have h2:=hi i fld (by simpa using hi1)
   have hlt:i<fs.size:=by have:=(List.getElem?_eq_some_iff.1 hi1).1;simpa using this
   rw [List.getElem?_eq_getElem (by omega)] at h2
   exact ⟨_,h2⟩
  simpa using this
structure ArgsAs (P:Program) (ts:List TypeId) {α:Type} (ok:α->Prop) (f:α->List V):Prop where
 nl:∀ a,NLs (f a)
 imp:∀ {H:Type} {enc:TypeId × Value->H} {w:World} {held:Bool} {vs:List Value} {ds:List (DataW H)} {ps:List MemPlace},DataW.TrodAll enc P w 0 (fun _=>true) held ts vs ds ps →
  (∀ (j:Nat) (t:TypeId) (v:Value),ts[j]?=some t->vs[j]?=some v->∃ b,Value.okWide P w .any b t v)->∃ a,ok a/\VRels noN No w (f a) vs
theorem zOl:ArgsAs P [] (fun _:Unit=>True) fun _=>[] where
 nl _:=.nil
 imp {H enc w held vs ds ps} h _:=by
  cases vs with
  | nil=>exact ⟨(),trivial,.nil⟩
  | cons v vs=>exact False.elim h
theorem zir {ok:α → Prop} {f:α → V} {ok':β → Prop} {f':β → List V} (hu : (match P.underlying t with | some (.struct _) | some (.array _ _) => false | _ => true) = true) (h : ImpAs P t ok fun a => [f a]) (h' : ArgsAs P ts ok' f') :
    ArgsAs P (t::ts) (fun p:α × β=>ok p.1/\ok' p.2) fun p=>f p.1::f' p.2 where
  nl p:=.cons (h.nl p.1 _ (by simp)) (h'.nl _)
  imp {H enc w held vs ds ps} hr hk:=by
    match vs,ds,hr with
    | v::vs,d::ds,hr =>
      obtain ⟨p,q,⟨fuel,h1⟩,h2,_⟩:=hr
      obtain ⟨a,ha,hv⟩:=h.imp h1
      obtain ⟨b,hb,hv'⟩:=h'.imp h2 fun j t v h3 h4=>hk (j+1) t v (by simpa using h3) (by simpa using h4)
      refine ⟨(a,b),⟨ha,hb⟩,.cons ?_ hv'⟩
      obtain ⟨bb,hok⟩:=hk 0 t v rfl rfl
      have hv1:v.cells.toList=[v]:=by
        have hcell:Cell.okWide P w .any bb t v:=by
          unfold Value.okWide at hok
          split at hu
          . cases hu
          . cases hu
          rename_i hA hB
          split at hok
          . rename_i x hx;exact absurd hx (hA x)
          . rename_i x y hx;exact absurd hx (hB x y)
          exact hok
        cases v<;>first|rfl|(exfalso;revert hcell;unfold Cell.okWide Cell.ok;(repeat' split)<;>simp_all)
      rw [hv1] at hv
      cases hv with
      | cons hv _=>exact hv
theorem zOm {ok:α → Prop} {f:α → List V} {ok':β → Prop} {f':β → List V} (hu : (match P.underlying t with | some (.struct _) | some (.array _ _) => true | _ => false) = true) (h : ImpAs P t ok f) (h' : ArgsAs P ts ok' f') :
    ArgsAs P (t::ts) (fun p:α × β=>ok p.1/\ok' p.2) fun p=>.agg (f p.1)::f' p.2 where
  nl p:=.cons (.agg (h.nl p.1)) (h'.nl _)
  imp {H enc w held vs ds ps} hr hk:=by
    match vs,ds,hr with
    | v::vs,d::ds,hr =>
      obtain ⟨p,q,⟨fuel,h1⟩,h2,_⟩:=hr
      obtain ⟨a,ha,hv⟩:=h.imp h1
      obtain ⟨b,hb,hv'⟩:=h'.imp h2 fun j t v h3 h4=>hk (j+1) t v (by simpa using h3) (by simpa using h4)
      refine ⟨(a,b),⟨ha,hb⟩,.cons ?_ hv'⟩
      obtain ⟨bb,hok⟩:=hk 0 t v rfl rfl
      have hv1:∃ cs,v=.agg cs:=by
        unfold Value.okWide at hok
        split at hok
        . exact ⟨_,hok.choose_spec.1⟩
        . exact ⟨_,hok.choose_spec.1⟩
        rename_i hA hB
        split at hu
        . rename_i x hx;exact absurd hx (hA x)
        . rename_i x y hx;exact absurd hx (hB x y)
        cases hu
      obtain ⟨cs,rfl⟩:=hv1
      have:VRel noN No w (.agg (f a)) (.agg cs.toList.toArray):=.agg (by simpa [Value.cells] using hv)
      simpa using this
end
theorem ZY_ {H : Type} {enc : TypeId × Value → H} {P : Program} (hl : laidOutB P = true) {W W' : World} (hb : Below W.heap.size W W') :
    ∀ {ts:List TypeId} {vs:List Value} {ds:List (DataW H)} {ps:List MemPlace},(ts.all fun t=>P.readableRec t&&decide (t<P.types.size))=true →
    DataW.TrodAll enc P W 0 (fun _=>true) true ts vs ds ps->DataW.TrodAll enc P W' 0 (fun b=>decide (b<W.heap.size)) true ts vs ds ps
  | [],[],[],_,_,h=>h
  | t::ts,v::vs,d::ds,ps,hr,h=>by
    obtain ⟨p,q,h1,h2,h3⟩:=h
    simp only [List.all_cons,Bool.and_eq_true,decide_eq_true_eq] at hr
    refine ⟨p,q,Below.trod hl hr.1.1 hr.1.2 h1 hb ?_,ZY_ hl hb (by simpa using hr.2) h2,h3⟩
    obtain ⟨m,hm⟩:=h1
    exact DataW.trod_lt m _ _ _ hm
  | [],_::_,_,_,_,h=>False.elim h
  | [],[],_::_,_,_,h=>False.elim h
  | _::_,[],_,_,_,h=>False.elim h
  | _::_,_::_,[],_,_,h=>False.elim h
theorem y3 {H : Type} {enc : TypeId × Value → H} {P : Program} {W : World} {base : Nat} {sp : Nat → Bool} {held : Bool} :
    ∀ {ts:List TypeId} {vs:List Value} {ds:List (DataW H)} {ps:List MemPlace},DataW.TrodAll enc P W base sp held ts vs ds ps->ds.length=ts.length
  | [],[],[],_,_=>rfl
  | _::_,_::_,_::_,_,⟨_,_,_,h,_⟩=>by simp [y3 h]
  | [],_::_,_,_,h=>False.elim h
  | [],[],_::_,_,h=>False.elim h
  | _::_,[],_,_,h=>False.elim h
  | _::_,_::_,[],_,h=>False.elim h
theorem zFm {C : Checked} {os : Os} {f : FuncId} {fn : Func} {s : ChangeSpec} {α : Type} {ok : α → Prop} {g : α → List V} {rt : TypeId} (own : ownKnob C.prog.godebug = none) (started : os.Started) (noInit : C.prog.inits.idxOf? f = none) (hfn : C.prog.funcs[f]? = some fn)
    (hl:laidOutB C.prog=true) (hts:(fn.params.toList.all fun t=>C.prog.readableRec t&&decide (t<C.prog.types.size))=true) (hrt:fn.resultTypes=#[rt]) (hbool:C.prog.underlying rt=some .bool) (hvars:s.vars=[])
    (hspec:∀ (H:Type) (ds:List (DataW H)),ds.length=fn.params.size->s.fn H ds={ results:=[.lit (.bool true)],args:=ds }) {H:Type} {enc:TypeId × Value->H} {conds:List PathCond}
    (witness:∃ (w:World) (tape:Tape) (i:Input),w.os=os/\(w.forCall tape i).Shaped C.prog/\i.vars=[]/\Input.okWide C.prog (w.forCall tape i) .any w.heap.size f i ∧
      s.pre6 enc C.prog fn conds false (w.forCall tape i).memory i.args/\Assume.holds {} C.prog (lone (Frame.enter C.prog f i.args .normal) [] (w.forCall tape i)))
    (ha:ArgsAs C.prog fn.params.toList ok g) (hp:∀ a,ok a->Pf C.prog f (g a) (.val (.bool true))) :
    ReturnsInHanded {} C os f .any (s.pre6 enc C.prog fn conds false) (s.post enc C.prog fn false true false false):=by
  refine returnsInHanded_of_change_sized own started noInit hfn witness ?_
  intro W base args ds gs before hval hW _ _ _
  have hW':=hW
  obtain ⟨p,q,hA,hV,rfl,hfz,hnd⟩:=hW
  rw [hvars] at hV
  obtain ⟨rfl,rfl,rfl⟩:=trodVars_none hV
  obtain ⟨a,hok,hv⟩:=ha.imp hA fun j t v h1 h2=>⟨base,hval j t v (by simpa using h1) (by simpa using h2)⟩
  refine ((hp a hok).calls noN No W args.toList (fun _ h=>False.elim h) hv).mono ?_
  rintro e W' ⟨cv,he,hr,h1,h2,h3,h4,h5⟩
  have hcv:cv=.bool true:=by cases hr;rfl
  subst hcv
  have bel:Below W.heap.size W W':=⟨h1,h2.1,h3,h4,fun k hk=>h5 k hk⟩
  have hlen:=y3 hA
  have hs:=hspec H ds (by simpa using hlen)
  refine ⟨_,he,ds,[],p++[],[],p,[],hW',?_,?_,?_,bel.frame _,fun h=>by cases h⟩
  . rw [hrt,append_nil,hs]
    exact trodAll_mk1 (shut_bool hbool _)
  . rw [append_nil,hs]
    exact ZY_ hl bel hts hA
  rw [append_nil,hs,hvars]
  rfl
end Go.Sl
namespace Go.Sl
theorem UB_:∀ (t:List (Nat × V)) (i:Nat),get t i=.any\/(i,get t i)∈t
 | [],_=>.inl rfl
 | (j,v)::r,i=>by
  by_cases h:i=j
  .subst h;right;simp [get]
  rcases UB_ r i with h'|h'
  .left;simp [get,h,h']
  right;simp only [get,h,if_false];exact mem_cons_of_mem _ h'
variable {b:Bool} {c:Code} {α:Type}
theorem M3 {β:Type} (f:α->β) {l:List α} (h:(l.map f).Nodup):l.Nodup:=(List.pairwise_map.1 h).imp fun {a b} h e=>h (congrArg f e)
theorem Weaker.drop {N k:Nat} {t:List (Nat × V)} {H:A8}:∀ G:A8,Weaker ⟨N,t,G++H,k⟩ ⟨N,t,H,k⟩
 | []=>Weaker.refl _
 | p::r=>by
  have h:=Weaker.del (N:=N) (k:=k) (t:=t) (H:=(p::r)++H) p.1
  simp only [cons_append,Sl.del,if_true] at h
  exact h.trans (Weaker.drop r)
theorem Weaker.of {N k:Nat} {H H':A8} {t t':List (Nat × V)} (ht:∀ p∈t',get t p.1=p.2) (hn:(H'.map Prod.fst).Nodup) (hH:∀ p∈H',look p.1 H=some p.2):Weaker ⟨N,t,H,k⟩ ⟨N,t',H',k⟩:=by
 refine (Weaker.tmps (t':=t') fun i=>?_).trans ⟨fun F ι a w hh=>?_⟩
 .rcases UB_ t' i with h|h
  .exact .inl h
  exact .inr (ht _ h).symm
 have hN:=hh.rep.names
 simp only [] at hN
 have hnd:H.Nodup:=M3 _ hN
 have hnd':H'.Nodup:=M3 _ hn
 have p1:(H.filter fun p=>decide (p.1∈H'.map Prod.fst)).Perm H':=by
  rw [perm_ext_iff_of_nodup (hnd.filter _) hnd']
  intro p
  simp only [List.mem_filter,decide_eq_true_eq]
  constructor
  .rintro ⟨h1,h2⟩
   obtain ⟨q,hq,he⟩:=List.mem_map.1 h2
   have e1:=hH q hq
   have e2:=I1 (n:=p.1) (b:=p.2) hN h1
   rw [<-he,e1] at e2
   have e3:=Option.some.inj e2
   have:q=p:=Prod.ext he e3
   exact this▸hq
  intro h
  exact ⟨D6 (hH p h),mem_map_of_mem h⟩
 have p2:H.Perm ((H.filter fun p=>!decide (p.1∈H'.map Prod.fst))++H'):=by
  refine ((filter_append_perm (fun p=>decide (p.1∈H'.map Prod.fst)) H).symm.trans ?_)
  exact (perm_append_comm).trans (p1.append_left _)
 exact ((Weaker.perm p2).trans (Weaker.drop _)).h F ι a w hh
theorem ze8 {P:Program} {Q:Exit->St->Prop} {σ:St} (S:α->St) (μ:α->Nat) (a0:α) (h0:Weaker σ (S a0)) (round:∀ a,Tr P c (zSb (fun σ'=>∃ a',μ a'<μ a/\Weaker σ' (S a')) Q) (S a)):Tr P (.loop c) Q σ :=
 zU8 (fun n σ=>∃ a,μ a=n/\Weaker σ (S a)) (μ a0) ⟨a0,rfl,h0⟩ fun n σ ⟨a,ha,hw⟩ =>
  Tr.weaken hw ((round a).mono fun e σ' h=>by
   cases e with
   | normal=>obtain ⟨a',h1,h2⟩:=h;exact ⟨μ a',by omega,a',rfl,h2⟩
   | _=>exact h)
theorem A9 {P:Program} {Q:Exit->St->Prop} {σ:St} (S:α->St) (I:α->Prop) (μ:α->Nat) (a0:α) (hI:I a0) (h0:Weaker σ (S a0)) (round:∀ a,I a->Tr P c (zSb (fun σ'=>∃ a',I a'/\μ a'<μ a/\Weaker σ' (S a')) Q) (S a)):Tr P (.loop c) Q σ :=
 ze8 (α:={ a // I a }) (fun a=>S a.1) (fun a=>μ a.1) ⟨a0,hI⟩ h0 fun a=>(round a.1 a.2).mono fun e σ' h=>by
  cases e with
  | normal=>obtain ⟨a',h1,h2,h3⟩:=h;exact ⟨⟨a',h1⟩,h2,h3⟩
  | _=>exact h
theorem zCl {P:Program} {T:Tab} {Q:Exit → St → Prop} (hT : J9 P T) {id : Nat} {l : List Oper} {N k : Nat} {t : List (Nat × V)} {H : A8} (hN : R8 l N = true)
    (h:∀ K:St->Prop,(∀ σ',Q .normal σ'->K σ')->vcL T P l N l K t H k):Tr P (.region id l.toArray false) Q ⟨N,t,H,k⟩:=QV_ hT hN (h _ fun _ h=>h)
theorem rK {P:Program} {T:Tab} [Tq P T] {Q:Exit->St->Prop} {id:Nat} {l:List Oper} {y:Code} {N k:Nat} {t:List (Nat × V)} {H:A8}
 (h:∀ K:St->Prop,(∀ σ',Tr P y Q σ'->K σ')->vcL T P l N l K t H k) (hN:R8 l N=true:=by decide):Tr P (.seq (.region id l.toArray false) y) Q ⟨N,t,H,k⟩:=V5_ Tq.ok hN h
theorem rE {P:Program} {T:Tab} [Tq P T] {Q:Exit->St->Prop} {id:Nat} {l:List Oper} {N k:Nat} {t:List (Nat × V)} {H:A8}
 (h:∀ K:St->Prop,(∀ σ',Q .normal σ'->K σ')->vcL T P l N l K t H k) (hN:R8 l N=true:=by decide):Tr P (.region id l.toArray false) Q ⟨N,t,H,k⟩:=zCl Tq.ok hN h
theorem rG {P:Program} {T:Tab} [Tq P T] {Q:Exit->St->Prop} {id:Nat} {l:List Oper} {y:Code} {N k:Nat} {t:List (Nat × V)} {H:A8} {σ':St}
 (h2:Tr P y Q σ') (h:∀ K:St->Prop,K σ'->vcL T P l N l K t H k:=by intro K h;simp [go_sem];exact h) (hN:R8 l N=true:=by decide):Tr P (.seq (.region id l.toArray false) y) Q ⟨N,t,H,k⟩:=V5_ Tq.ok hN fun K hK=>h K (hK _ h2)
theorem rF {P:Program} {T:Tab} [Tq P T] {Q:Exit->St->Prop} {id:Nat} {l:List Oper} {N k:Nat} {t:List (Nat × V)} {H:A8} {σ':St}
 (h2:Q .normal σ') (h:∀ K:St->Prop,K σ'->vcL T P l N l K t H k:=by intro K h;simp [go_sem];exact h) (hN:R8 l N=true:=by decide):Tr P (.region id l.toArray false) Q ⟨N,t,H,k⟩:=zCl Tq.ok hN fun K hK=>h K (hK _ h2)
theorem cK {P:Program} {Q:Exit->St->Prop} {σ:St} {c:Operand} {x y:Code} (ht:b=true->Tr P x Q σ) (hf:b=false->Tr P y Q σ) (hc:A7 σ.t c=.val (.bool b):=by rfl):Tr P (.cond c x y) Q σ:=QW_ hc ht hf
theorem A4 {P:Program} {Q:Exit->St->Prop} {σ:St} {A:Prop} (h:A) (hq:A->Q .ret σ:=by intro h;exact ⟨.inr rfl,h⟩):Tr P .ret Q σ:=zH7 (hq h)
theorem dK {P:Program} {T:Tab} [Tq P T] {Q:Exit->St->Prop} {id:Nat} {l:List Oper} {y:Code} {N k:Nat} {t:List (Nat × V)} {H:A8} (m:Nat) (tbl:List (List Nat))
 (h:∀ K:St->Prop,(∀ σ',Tr P y Q σ'->K σ')->vcD T P l N k (l.take m) (fun t' H' lg=>Wz_ [] lg/\vcL T P l N (l.drop m) K t' H' (k+m)) t H []) (hN:R8 l N=true:=by decide) (hd:YY_ l tbl m=true:=by decide) (hp:ZB_ l tbl [] m=true:=by decide):Tr P (.seq (.region id l.toArray true) y) Q ⟨N,t,H,k⟩:=S8 Tq.ok (Tq.mx (P:=P) (T:=T)) m tbl [] hN hd hp h
theorem cJ {P:Program} {Q:Exit->St->Prop} {σ:St} {c:Operand} {x y:Code} (hf:b=false->Tr P y Q σ) (ht:b=true->Tr P x Q σ) (hc:A7 σ.t c=.val (.bool b):=by rfl):Tr P (.cond c x y) Q σ:=QW_ hc ht hf
theorem Y9 {P:Program} {T:Tab} {Q:Exit → St → Prop} (hT : J9 P T) (hm : P.follows .mixedOrders = true) {id : Nat} {l : List Oper} {N k : Nat} {t : List (Nat × V)} {H : A8} (m : Nat) (tbl : List (List Nat)) (prs : List (Nat × Nat)) (hN : R8 l N = true) (hd : YY_ l tbl m = true) (hp : ZB_ l tbl prs m = true)
    (h:∀ K:St->Prop,(∀ σ',Q .normal σ'->K σ')->vcD T P l N k (l.take m) (fun t' H' lg=>Wz_ prs lg/\vcL T P l N (l.drop m) K t' H' (k+m)) t H []) :
    Tr P (.region id l.toArray true) Q ⟨N,t,H,k⟩:=zHz hT hm tbl prs hN hd hp (h _ fun _ h=>h)
theorem zmc {P:Program} {Q:Exit->St->Prop} {σ:St} {id:Nat} (h:∀ K:St->Prop,(∀ σ',Q .normal σ'->K σ')->Tr P c (XS_ id fun e=>match e with|.normal=>K|e=>Q e) σ):Tr P (.block id c) Q σ :=
 A0 ((h (Q .normal) fun _ h=>h).mono fun e σ' h=>by
  cases e with
  | exit i=>simp only [XS_] at h ⊢;split<;>simp_all
  | _=>exact h)
theorem H6 (w n:Nat):BitVec.ofInt w (n:Int)=BitVec.ofNat w n:=BitVec.ofInt_natCast w n
theorem w16 (n:Nat) (h:n<65536):IntKind.u16.wrap (n:Int)=n:=IntWalk.u16_in _ (by omega)
theorem w64 (n:Nat) (h:n<18446744073709551616):IntKind.u64.wrap (n:Int)=n:=IntWalk.u64_in _ (by omega)
section
variable {m n:Nat}
theorem zmd (hm:m<65536) (hn:n<65536):(BitVec.ofInt 16 (m:Int) &&& BitVec.ofInt 16 (n:Int)).toNat=m &&& n:=by
 rw [H6,H6,BitVec.toNat_and,BitVec.toNat_ofNat,BitVec.toNat_ofNat,Nat.mod_eq_of_lt (show m<2 ^ 16 from hm),Nat.mod_eq_of_lt (show n<2 ^ 16 from hn)]
theorem zqb (hm:m<65536) (hn:n<65536):(BitVec.ofInt 16 (m:Int) ||| BitVec.ofInt 16 (n:Int)).toNat=m ||| n:=by
 rw [H6,H6,BitVec.toNat_or,BitVec.toNat_ofNat,BitVec.toNat_ofNat,Nat.mod_eq_of_lt (show m<2 ^ 16 from hm),Nat.mod_eq_of_lt (show n<2 ^ 16 from hn)]
theorem Xl_ (w m n:Nat):BitVec.ofNat w m &&& ~~~BitVec.ofNat w n=BitVec.ofNat w m ^^^ (BitVec.ofNat w m &&& BitVec.ofNat w n):=by
 ext i hi
 simp only [BitVec.getElem_and,BitVec.getElem_not,BitVec.getElem_xor]
 cases (BitVec.ofNat w m)[i]<;>cases (BitVec.ofNat w n)[i]<;>rfl
theorem zOn (hm:m<65536) (hn:n<65536):(BitVec.ofInt 16 (m:Int) &&& ~~~BitVec.ofInt 16 (n:Int)).toNat=m ^^^ (m &&& n):=by
 rw [H6,H6,Xl_,BitVec.toNat_xor,BitVec.toNat_and,BitVec.toNat_ofNat,BitVec.toNat_ofNat,Nat.mod_eq_of_lt (show m<2 ^ 16 from hm),Nat.mod_eq_of_lt (show n<2 ^ 16 from hn)]
theorem ze9 (hm:m<18446744073709551616) (hn:n<18446744073709551616):(BitVec.ofInt 64 (m:Int) &&& BitVec.ofInt 64 (n:Int)).toNat=m &&& n:=by
 rw [H6,H6,BitVec.toNat_and,BitVec.toNat_ofNat,BitVec.toNat_ofNat,Nat.mod_eq_of_lt (show m<2 ^ 64 from hm),Nat.mod_eq_of_lt (show n<2 ^ 64 from hn)]
theorem zo2 (hm:m<18446744073709551616) (hn:n<18446744073709551616):(BitVec.ofInt 64 (m:Int) ||| BitVec.ofInt 64 (n:Int)).toNat=m ||| n:=by
 rw [H6,H6,BitVec.toNat_or,BitVec.toNat_ofNat,BitVec.toNat_ofNat,Nat.mod_eq_of_lt (show m<2 ^ 64 from hm),Nat.mod_eq_of_lt (show n<2 ^ 64 from hn)]
theorem zme (hm:m<18446744073709551616) (hn:n<18446744073709551616):(BitVec.ofInt 64 (m:Int) ^^^ BitVec.ofInt 64 (n:Int)).toNat=m ^^^ n:=by
 rw [H6,H6,BitVec.toNat_xor,BitVec.toNat_ofNat,BitVec.toNat_ofNat,Nat.mod_eq_of_lt (show m<2 ^ 64 from hm),Nat.mod_eq_of_lt (show n<2 ^ 64 from hn)]
theorem zOo (hm:m<18446744073709551616) (hn:n<18446744073709551616):(BitVec.ofInt 64 (m:Int) &&& ~~~BitVec.ofInt 64 (n:Int)).toNat=m ^^^ (m &&& n):=by
 rw [H6,H6,Xl_,BitVec.toNat_xor,BitVec.toNat_and,BitVec.toNat_ofNat,BitVec.toNat_ofNat,Nat.mod_eq_of_lt (show m<2 ^ 64 from hm),Nat.mod_eq_of_lt (show n<2 ^ 64 from hn)]
end
section
variable {k:IntKind} {x y:Int} {K:V->Prop}
theorem zea:L3 .add k x y K=K (.val (.int k (k.wrap (x+y)))):=rfl
theorem zeb:L3 .sub k x y K=K (.val (.int k (k.wrap (x-y)))):=rfl
theorem zec:L3 .mul k x y K=K (.val (.int k (k.wrap (x*y)))):=rfl
theorem zed:L3 .quo k x y K=(y≠0/\K (.val (.int k (k.wrap (x.tdiv y))))):=rfl
theorem zee:L3 .rem k x y K=(y≠0/\K (.val (.int k (x.tmod y)))):=rfl
theorem zef:L3 .eql k x y K=K (.val (.bool (x==y))):=rfl
theorem zeg:L3 .neq k x y K=K (.val (.bool (x != y))):=rfl
theorem zeh:L3 .lss k x y K=K (.val (.bool (decide (x<y)))):=rfl
theorem zei:L3 .leq k x y K=K (.val (.bool (decide (x<=y)))):=rfl
theorem zej:L3 .gtr k x y K=K (.val (.bool (decide (x > y)))):=rfl
theorem zek:L3 .geq k x y K=K (.val (.bool (decide (x>=y)))):=rfl
theorem zOp (h1:0<=x) (h2:x<65536) (h3:0<=y) (h4:y<65536):L3 .and .u16 x y K=K (.val (.int .u16 ((x.toNat &&& y.toNat:Nat):Int))):=by
 obtain ⟨m,rfl⟩:=Int.eq_ofNat_of_zero_le h1
 obtain ⟨n,rfl⟩:=Int.eq_ofNat_of_zero_le h3
 show K (.val (.int .u16 (IntKind.u16.wrap (((BitVec.ofInt 16 (m:Int) &&& BitVec.ofInt 16 (n:Int)).toNat:Nat):Int))))=_
 rw [zmd (by omega) (by omega),w16 _ (Nat.lt_of_le_of_lt Nat.and_le_left (by omega))];rfl
theorem zWe (h1:0<=x) (h2:x<65536) (h3:0<=y) (h4:y<65536):L3 .or .u16 x y K=K (.val (.int .u16 ((x.toNat ||| y.toNat:Nat):Int))):=by
 obtain ⟨m,rfl⟩:=Int.eq_ofNat_of_zero_le h1
 obtain ⟨n,rfl⟩:=Int.eq_ofNat_of_zero_le h3
 show K (.val (.int .u16 (IntKind.u16.wrap (((BitVec.ofInt 16 (m:Int) ||| BitVec.ofInt 16 (n:Int)).toNat:Nat):Int))))=_
 rw [zqb (by omega) (by omega),w16 _ (Nat.or_lt_two_pow (n:=16) (by omega) (by omega))];rfl
theorem zA9 (h1:0<=x) (h2:x<65536) (h3:0<=y) (h4:y<65536):L3 .andNot .u16 x y K=K (.val (.int .u16 ((x.toNat ^^^ (x.toNat &&& y.toNat):Nat):Int))):=by
 obtain ⟨m,rfl⟩:=Int.eq_ofNat_of_zero_le h1
 obtain ⟨n,rfl⟩:=Int.eq_ofNat_of_zero_le h3
 show K (.val (.int .u16 (IntKind.u16.wrap (((BitVec.ofInt 16 (m:Int) &&& ~~~BitVec.ofInt 16 (n:Int)).toNat:Nat):Int))))=_
 rw [zOn (by omega) (by omega),w16 _ (Nat.xor_lt_two_pow (n:=16) (by omega) (Nat.lt_of_le_of_lt Nat.and_le_left (by omega)))];rfl
theorem zOq (h1:0<=y) (h2:y<=x) (h3:x<65536):L3 .sub .u16 x y K=K (.val (.int .u16 ((x.toNat-y.toNat:Nat):Int))):=by
 show K (.val (.int .u16 (IntKind.u16.wrap (x-y))))=_
 rw [show x-y=((x.toNat-y.toNat:Nat):Int) by omega,w16 _ (by omega)]
theorem zOr (h1:0<=x) (h2:x<18446744073709551616) (h3:0<=y) (h4:y<18446744073709551616):L3 .and .u64 x y K=K (.val (.int .u64 ((x.toNat &&& y.toNat:Nat):Int))):=by
 obtain ⟨m,rfl⟩:=Int.eq_ofNat_of_zero_le h1
 obtain ⟨n,rfl⟩:=Int.eq_ofNat_of_zero_le h3
 show K (.val (.int .u64 (IntKind.u64.wrap (((BitVec.ofInt 64 (m:Int) &&& BitVec.ofInt 64 (n:Int)).toNat:Nat):Int))))=_
 rw [ze9 (by omega) (by omega),w64 _ (Nat.lt_of_le_of_lt Nat.and_le_left (by omega))];rfl
theorem zWf (h1:0<=x) (h2:x<18446744073709551616) (h3:0<=y) (h4:y<18446744073709551616):L3 .or .u64 x y K=K (.val (.int .u64 ((x.toNat ||| y.toNat:Nat):Int))):=by
 obtain ⟨m,rfl⟩:=Int.eq_ofNat_of_zero_le h1
 obtain ⟨n,rfl⟩:=Int.eq_ofNat_of_zero_le h3
 show K (.val (.int .u64 (IntKind.u64.wrap (((BitVec.ofInt 64 (m:Int) ||| BitVec.ofInt 64 (n:Int)).toNat:Nat):Int))))=_
 rw [zo2 (by omega) (by omega),w64 _ (Nat.or_lt_two_pow (n:=64) (by omega) (by omega))];rfl
theorem zOs (h1:0<=x) (h2:x<18446744073709551616) (h3:0<=y) (h4:y<18446744073709551616):L3 .xor .u64 x y K=K (.val (.int .u64 ((x.toNat ^^^ y.toNat:Nat):Int))):=by
 obtain ⟨m,rfl⟩:=Int.eq_ofNat_of_zero_le h1
 obtain ⟨n,rfl⟩:=Int.eq_ofNat_of_zero_le h3
 show K (.val (.int .u64 (IntKind.u64.wrap (((BitVec.ofInt 64 (m:Int) ^^^ BitVec.ofInt 64 (n:Int)).toNat:Nat):Int))))=_
 rw [zme (by omega) (by omega),w64 _ (Nat.xor_lt_two_pow (n:=64) (by omega) (by omega))];rfl
theorem zAa (h1:0<=x) (h2:x<18446744073709551616) (h3:0<=y) (h4:y<18446744073709551616):L3 .andNot .u64 x y K=K (.val (.int .u64 ((x.toNat ^^^ (x.toNat &&& y.toNat):Nat):Int))):=by
 obtain ⟨m,rfl⟩:=Int.eq_ofNat_of_zero_le h1
 obtain ⟨n,rfl⟩:=Int.eq_ofNat_of_zero_le h3
 show K (.val (.int .u64 (IntKind.u64.wrap (((BitVec.ofInt 64 (m:Int) &&& ~~~BitVec.ofInt 64 (n:Int)).toNat:Nat):Int))))=_
 rw [zOo (by omega) (by omega),w64 _ (Nat.xor_lt_two_pow (n:=64) (by omega) (Nat.lt_of_le_of_lt Nat.and_le_left (by omega)))];rfl
theorem zOt (h1:0<=y) (h2:y<=x) (h3:x<18446744073709551616):L3 .sub .u64 x y K=K (.val (.int .u64 ((x.toNat-y.toNat:Nat):Int))):=by
 show K (.val (.int .u64 (IntKind.u64.wrap (x-y))))=_
 rw [show x-y=((x.toNat-y.toNat:Nat):Int) by omega,w64 _ (by omega)]
theorem zI2 (h1:0<x) (h2:x<18446744073709551616):IntKind.u64.wrap (0-x)=((18446744073709551616-x.toNat:Nat):Int):=by
 simp [IntKind.wrap,IntKind.bits,IntKind.signed];omega
theorem zOu (h1:0<x) (h2:x<18446744073709551616):IntKind.u64.wrap (-x)=((18446744073709551616-x.toNat:Nat):Int):=by
 rw [<-zI2 h1 h2,Int.zero_sub]
def pw (n:Nat):Nat:=2 ^ n
theorem zel (n:Nat):0<pw n:=Nat.two_pow_pos n
theorem zI3 {n m:Nat} (h:n<m):pw n<2 ^ m:=Nat.pow_lt_pow_right (by omega) h
theorem Z6_ (n i:Nat):(pw n).testBit i=decide (n=i):=Nat.testBit_two_pow
theorem zem (h1:0<=y) (h2:y<16):zHh .shl .u16 1 y K=K (.val (.int .u16 ((pw y.toNat:Nat):Int))):=by
 unfold pw
 obtain ⟨n,rfl⟩:=Int.eq_ofNat_of_zero_le h1
 have e:min ((n:Int)).toNat IntKind.u16.bits=n:=by simp [IntKind.bits];omega
 show (0<=(n:Int)/\K (.val (.int .u16 (IntKind.u16.wrap (1*2 ^ (min ((n:Int)).toNat IntKind.u16.bits))))))=_
 rw [e,Int.one_mul,show ((2:Int) ^ n)=((2 ^ n:Nat):Int) by simp,w16 _ (Nat.pow_lt_pow_right (by omega) (show n<16 by omega))]
 simp
def shr (m n:Nat):Nat:=m >>> n
theorem zen (h1:0<=y) (h2:y<16) (h3:0<=x):zHh .shr .u16 x y K=K (.val (.int .u16 ((shr x.toNat y.toNat:Nat):Int))):=by
 unfold shr
 obtain ⟨n,rfl⟩:=Int.eq_ofNat_of_zero_le h1
 obtain ⟨m,rfl⟩:=Int.eq_ofNat_of_zero_le h3
 have e:min ((n:Int)).toNat IntKind.u16.bits=n:=by simp [IntKind.bits];omega
 show (0<=(n:Int)/\K (.val (.int .u16 (Int.fdiv (m:Int) (2 ^ (min ((n:Int)).toNat IntKind.u16.bits))))))=_
 rw [e,Int.toNat_natCast,Int.toNat_natCast,Nat.shiftRight_eq_div_pow,show ((2:Int) ^ n)=((2 ^ n:Nat):Int) by simp,Int.natCast_ediv,Int.fdiv_eq_ediv_of_nonneg _ (Int.natCast_nonneg _)]
 simp
theorem E4 (h:-9223372036854775808<=x) (h':x<=9223372036854775807):IntKind.i64.wrap x=x:=IntWalk.i64_in _ ⟨h,h'⟩
theorem zCm (h:0<=x) (h':x<18446744073709551616):IntKind.u64.wrap x=x:=IntWalk.u64_in _ (by omega)
theorem zOv (h:0<=x) (h':x<65536):IntKind.u16.wrap x=x:=IntWalk.u16_in _ (by omega)
theorem zWg (h:0<=x) (h':x<256):IntKind.u8.wrap x=x:=IntWalk.u8_in _ (by omega)
end
@[go_sem low] theorem zI4 (n:Nat) (cs:List V) (j:Nat):F5 false n cs j=cs.getD j .any:=rfl
@[go_sem low] theorem zeo (n:Nat) (cs:List V) (j:Nat):F5 true n cs j=.agg (cut j n cs):=rfl
@[go_sem] theorem zis (v:Value):V.fits 1 (.val v)=true:=rfl
@[go_sem] theorem zit (n i j:Nat):V.fits 1 (.ptr n i j)=true:=rfl
@[go_sem] theorem zmf (n i l:Nat):V.fits 1 (.sl n i l)=true:=rfl
@[go_sem] theorem zmg (n:Nat) (l:List V):V.fits 1 (.ro n l)=true:=rfl
@[go_sem] theorem zmh (l:List V) (j:Nat):V.fits 1 (.rp l j)=true:=rfl
@[go_sem] theorem ziu (n i j z l:Nat):V.fits 1 (.sub n i j z l)=true:=rfl
@[go_sem] theorem ziv (n:Nat):V.fits 1 (.map n)=true:=rfl
attribute [go_sem ↓] zea zeb zec zed zee zef zeg zeh zei zej zek zOp zWe zA9 zOr zWf zOs zAa zem zen
attribute [go_sem] zI2 zOu E4 zCm zOv zWg
attribute [go_sem ↓ high] zOq zOt
end Go.Sl
namespace Go.Proofs.YtmpbalepefpllaaGreat
open Go Go.Sl Go.Proofs.Tryz
def QZ_ (v:Nat):Nat:=if h:v=0 then 0 else v % 2+QZ_ (v / 2)
termination_by v
decreasing_by omega
theorem o8:QZ_ 0=0:=by unfold QZ_;simp
theorem ZZ_ (v:Nat):QZ_ v=v % 2+QZ_ (v / 2):=by
 by_cases h:v=0
 .subst h;simp [o8]
 rw [QZ_];simp [h]
theorem UC_:∀ (k v:Nat),v<2 ^ k->QZ_ v<=k
 | 0,v,h=>by simp at h;subst h;simp [o8]
 | k+1,v,h=>by
  rw [ZZ_]
  have:=UC_ k (v / 2) (by rw [Nat.pow_succ] at h;omega)
  omega
theorem Qa_ (v:Nat) (h:0<v):QZ_ (v &&& (v-1))+1=QZ_ v:=by
 induction v using Nat.strongRecOn with
 | _ v ih =>
  rw [ZZ_ v,ZZ_ (v &&& (v-1))]
  have hd:(v &&& (v-1)) / 2=(v / 2) &&& ((v-1) / 2):=by
   have:=Nat.shiftRight_and_distrib (a:=v) (b:=v-1) (i:=1)
   simpa [Nat.shiftRight_eq_div_pow] using this
  have hm:(v &&& (v-1)) % 2=(v % 2) &&& ((v-1) % 2):=by
   rw [show (2:Nat)=2 ^ 1 by rfl,Nat.and_mod_two_pow]
  rw [hd,hm]
  rcases Nat.mod_two_eq_zero_or_one v with h0|h1
  .have e:(v-1) / 2=v / 2-1:=by omega
   have:=ih (v / 2) (by omega) (by omega)
   rw [e,h0,Nat.zero_and];omega
  have e:(v-1) / 2=v / 2:=by omega
  have e2:(v-1) % 2=0:=by omega
  rw [e,e2,h1,Nat.and_zero,Nat.and_self];omega
theorem zAb (v:Nat) (h:0<v):v &&& (v-1)<v:=Nat.lt_of_le_of_lt Nat.and_le_right (by omega)
def Za_ (v:Nat):Nat:=if h:v=0 then 0 else if v % 2=1 then 0 else Za_ (v / 2)+1
termination_by v
decreasing_by omega
variable {q q':Nat->Bool} {v:Nat}
theorem zCn (h:v % 2=1):Za_ v=0:=by rw [Za_];simp [h]
theorem Qb_ (h:v % 2=0) (h0:0<v):Za_ v=Za_ (v / 2)+1:=by rw [Za_];simp [h,Nat.pos_iff_ne_zero.1 h0]
theorem o9 (v:Nat) (h:0<v):v.testBit (Za_ v)=true:=by
 induction v using Nat.strongRecOn with
 | _ v ih =>
  rcases Nat.mod_two_eq_zero_or_one v with h0|h1
  .rw [Qb_ h0 h,Nat.testBit_succ];exact ih _ (by omega) (by omega)
  rw [zCn h1];simp [h1]
theorem zAc {k:Nat} (h:0<v) (hk:v<2 ^ k):Za_ v<k:=by
 refine Nat.lt_of_not_le fun hle=>?_
 have:=o9 v h
 rw [Nat.testBit_lt_two_pow (Nat.lt_of_lt_of_le hk (Nat.pow_le_pow_right (by omega) hle))] at this
 cases this
theorem Ya_ (v i:Nat) (h:0<v):(v &&& (v-1)).testBit i=(v.testBit i&&i != Za_ v):=by
 induction v using Nat.strongRecOn generalizing i with
 | _ v ih =>
  rw [Nat.testBit_and]
  rcases Nat.mod_two_eq_zero_or_one v with h0|h1
  .rw [Qb_ h0 h]
   cases i with
   | zero=>simp [h0]
   | succ i =>
    have:=ih (v / 2) (by omega) i (by omega)
    rw [Nat.testBit_and] at this
    rw [Nat.testBit_succ,Nat.testBit_succ,show (v-1) / 2=v / 2-1 by omega,this]
    simp
  rw [zCn h1]
  cases i with
  | zero=>simp;omega
  | succ i=>rw [Nat.testBit_succ,Nat.testBit_succ,show (v-1) / 2=v / 2 by omega];simp
theorem zWh (w v:Nat) (h:0<v) (hw:v<2 ^ w):v &&& (2 ^ w-v)=2 ^ Za_ v:=by
 refine Nat.eq_of_testBit_eq fun i=>?_
 rw [Nat.testBit_and,show 2 ^ w-v=2 ^ w-(v-1+1) by omega,Nat.testBit_two_pow_sub_succ (by omega)]
 have:=Ya_ v i h
 rw [Nat.testBit_and] at this
 have hl:=o9 v h
 rw [Nat.testBit_two_pow]
 by_cases hi:i=Za_ v
 .subst hi
  have h2:=zAc h hw
  rw [hl] at this ⊢
  have h3:(v-1).testBit (Za_ v)=false:=by simpa using this
  simp [h3,h2]
 have hb:(i != Za_ v)=true:=by simpa using hi
 rw [hb] at this
 cases hv:v.testBit i
 .simp [Ne.symm hi]
 rw [hv] at this
 have h3:(v-1).testBit i=true:=by simpa using this
 simp [h3,Ne.symm hi]
theorem zI5 (k:Nat):QZ_ (2 ^ k-1)=k:=by
 induction k with
 | zero=>simp [o8]
 | succ k ih =>
  rw [ZZ_,show (2 ^ (k+1)-1) % 2=1 by rw [Nat.pow_succ];have:=Nat.two_pow_pos k;omega,show (2 ^ (k+1)-1) / 2=2 ^ k-1 by rw [Nat.pow_succ];have:=Nat.two_pow_pos k;omega,ih]
  omega
def mk:Nat->(Nat->Bool)->Nat
 | 0,_=>0
 | n+1,q=>mk n q ||| (if q n then pw n else 0)
theorem zep:∀ (n:Nat) (q:Nat->Bool),mk n q<2 ^ n
 | 0,_=>by simp [mk]
 | n+1,q=>by
  have h:=zep n q
  have h2:=zI3 (Nat.lt_succ_self n)
  have h3:(2:Nat) ^ (n+1)=2 ^ n*2:=Nat.pow_succ ..
  refine Nat.or_lt_two_pow (n:=n+1) (by omega) ?_
  split
  .exact h2
  exact Nat.two_pow_pos _
theorem VG_:∀ (n:Nat) (q:Nat->Bool) (i:Nat),(mk n q).testBit i=(decide (i<n)&&q i)
 | 0,_,i=>by simp [mk]
 | n+1,q,i=>by
  rw [mk,Nat.testBit_or,VG_ n q i]
  by_cases h:i=n
  .subst h
   cases hq:q i<;>simp [Z6_]
  have:(if q n=true then pw n else 0).testBit i=false:=by
   split
   .rw [Z6_];simp [Ne.symm h]
   exact Nat.zero_testBit i
  rw [this,Bool.or_false]
  congr 1
  exact decide_eq_decide.2 (by omega)
def F3 (q:Nat->Bool):Nat:=mk 16 q
theorem U5 (q:Nat->Bool):F3 q<65536:=zep 16 q
theorem D4 (q:Nat->Bool) (i:Nat):(F3 q).testBit i=(decide (i<16)&&q i):=VG_ 16 q i
theorem N0 (h:∀ i,i<16->q i=q' i):F3 q=F3 q':=Nat.eq_of_testBit_eq fun i=>by
 rw [D4,D4]
 by_cases hi:i<16
 .simp [hi,h i hi]
 simp [hi]
theorem u5 (q q':Nat->Bool):F3 q &&& F3 q'=F3 fun i=>q i&&q' i:=Nat.eq_of_testBit_eq fun i=>by
 rw [Nat.testBit_and,D4,D4,D4];cases decide (i<16)<;>cases q i<;>cases q' i<;>rfl
theorem Y0 (q q':Nat->Bool):F3 q ||| F3 q'=F3 fun i=>q i||q' i:=Nat.eq_of_testBit_eq fun i=>by
 rw [Nat.testBit_or,D4,D4,D4];cases decide (i<16)<;>cases q i<;>cases q' i<;>rfl
theorem Qc_ (q q':Nat->Bool):F3 q ^^^ F3 (fun i=>q i&&q' i)=F3 fun i=>q i&&!q' i:=Nat.eq_of_testBit_eq fun i=>by
 rw [Nat.testBit_xor,D4,D4,D4];cases decide (i<16)<;>cases q i<;>cases q' i<;>rfl
theorem Xm_ {n:Nat} (h:n<16):pw n=F3 fun i=>i==n:=Nat.eq_of_testBit_eq fun i=>by
 rw [D4,Z6_]
 by_cases e:n=i
 .subst e;simp [h]
 simp [e,Ne.symm e]
theorem zI6:(0:Nat)=F3 fun _=>false:=by decide
theorem F2:F3 q=0↔∀ i,i<16->q i=false:=by
 constructor
 .intro h i hi
  have:=D4 q i
  rw [h,Nat.zero_testBit] at this
  simpa [hi] using this.symm
 intro h
 rw [zI6];exact N0 h
theorem C7 {n:Nat} (h:n<16):shr (F3 q) n &&& 1=(q n).toNat:=by
 unfold shr
 have h1:=D4 q n
 simp only [Nat.testBit,h,decide_true,Bool.true_and] at h1
 rw [Nat.and_comm] at h1
 cases hq:q n<;>rw [hq] at h1<;>simp at h1 ⊢<;>omega
def B6 (p:Nat->Nat->Bool):List V:=(List.range 16).map fun a=>.val (.int .u16 (F3 (p a)))
@[go_sem] theorem zWi (p:Nat->Nat->Bool):(B6 p).length=16:=Eq.trans rfl rfl
theorem F6 {p q:Nat->Nat->Bool} (h:∀ a,a<16->∀ b,b<16->p a b=q a b):B6 p=B6 q:=map_congr_left fun a ha=>by rw [N0 (h a (List.mem_range.1 ha))]
@[go_sem] theorem zeq (p:Nat->Nat->Bool):V.fits 16 (.agg (B6 p))=true:=Eq.trans rfl rfl
theorem D9 (p:Nat->Nat->Bool):NLs (B6 p):=fun v hv=>by
 obtain ⟨a,_,rfl⟩:=List.mem_map.1 hv
 exact .val _
@[go_sem] theorem zOw (p:Nat->Nat->Bool) {a:Nat} (h:a<16):(B6 p).getD a .any=.val (.int .u16 (F3 (p a))):=by
 simp [B6,List.getD,List.getElem?_map,List.getElem?_range h]
@[go_sem] theorem zer (p:Nat->Nat->Bool) {a:Nat} (h:a<16):F5 false 1 (B6 p) a=.val (.int .u16 (F3 (p a))):=by
 simp only [F5,Bool.false_eq_true,if_false];exact zOw p h
@[go_sem] theorem zSo (p:Nat->Nat->Bool):F5 true 16 (B6 p) 0=.agg (B6 p):=Eq.trans rfl rfl
@[go_sem] theorem ziw (p:Nat->Nat->Bool) {a:Nat} {q:Nat->Bool} (h:a<16):B2 (.agg (B6 p)) a (.val (.int .u16 (F3 q)))=.agg (B6 fun x=>if x=a then q else p x):=by
 simp only [B2,splice,V.cells]
 congr 1
 apply List.ext_getElem?
 intro i
 simp only [length_singleton]
 have hl:((B6 p).take a).length=a:=by simp [B6];omega
 by_cases h1:i<a
 .rw [List.getElem?_append_left (by omega),List.getElem?_take,if_pos h1]
  simp [B6,List.getElem?_map,List.getElem?_range (show i<16 by omega),show i≠a by omega]
 rw [List.getElem?_append_right (by omega),hl]
 by_cases h2:i=a
 .subst h2
  simp [B6,List.getElem?_map,List.getElem?_range h]
 rw [List.getElem?_append_right (by simp;omega),List.getElem?_drop]
 simp only [length_singleton]
 rw [show a+1+(i-a-1)=i by omega]
 by_cases h3:i<16
 .simp [B6,List.getElem?_map,List.getElem?_range h3,h2]
 simp [B6,h3]
@[go_sem] theorem zWj (p q:Nat->Nat->Bool):B2 (.agg (B6 p)) 0 (.agg (B6 q))=.agg (B6 q):=Eq.trans rfl rfl
@[go_sem] theorem zmi (q:Nat->Bool):((F3 q:Nat):Int)<65536:=by have:=U5 q;omega
@[go_sem] theorem zes (q:Nat->Bool):((F3 q:Nat):Int)<18446744073709551616:=by have:=U5 q;omega
theorem Xn_ (h:¬ F3 q=0):(1:Int)<=((F3 q:Nat):Int):=by omega
@[go_sem] theorem zWk (q:Nat->Bool):((F3 q-1:Nat):Int)<65536:=by have:=U5 q;omega
theorem Zb_ (h:¬ F3 q=0):F3 q &&& (F3 q-1)=F3 fun b=>q b&&b != Za_ (F3 q):=Nat.eq_of_testBit_eq fun i=>by
 rw [Ya_ _ _ (by omega),D4,D4]
 cases decide (i<16)<;>simp
theorem zCo (h:¬ F3 q=0):Za_ (F3 q)<16/\q (Za_ (F3 q))=true:=by
 have h1:=zAc (k:=16) (show 0<F3 q by omega) (U5 q)
 have h2:=o9 (F3 q) (by omega)
 rw [D4] at h2
 exact ⟨h1,by simpa [h1] using h2⟩
theorem zAd {a:Int} (h:¬ F3 (fun i=>decide ((i:Int)=a))=0):∃ n:Nat,a=n/\n<16:=by
 refine Classical.byContradiction fun hn=>h (F2.2 fun i hi=>decide_eq_false fun e=>hn ⟨i,e.symm,hi⟩)
theorem Qd_ {n:Nat} (h:n<16):¬ F3 (fun i=>decide ((i:Int)=(n:Int)))=0:=fun e=>by
 have:=F2.1 e n h
 simp at this
theorem Qe_ (q:Nat->Bool) (b:Int):(F3 (fun i=>q i&&decide ((i:Int)=b))=0)↔(decide (0<=b/\b<16)&&q b.toNat)=false:=by
 rw [F2]
 constructor
 .intro h
  by_cases hb:0<=b/\b<16
  .have:=h b.toNat (by omega)
   simpa [hb,Int.toNat_of_nonneg hb.1] using this
  simp [hb]
 intro h i hi
 by_cases e:(i:Int)=b
 .subst e
  have:(i:Int)<16:=by omega
  simpa [this] using h
 simp [e]
theorem zAe (q:Nat->Bool) (b:Int):(((F3 fun i=>q i&&decide ((i:Int)=b):Nat):Int) != 0)=(decide (0<=b)&&decide (b<16)&&q b.toNat):=by
 have h:=Qe_ q b
 rw [<-Bool.decide_and]
 by_cases e:F3 (fun i=>q i&&decide ((i:Int)=b))=0
 .rw [h.1 e,e];rfl
 have e2:(decide (0<=b/\b<16)&&q b.toNat)=true:=by
  cases hh:(decide (0<=b/\b<16)&&q b.toNat)
  .exact absurd (h.2 hh) e
  rfl
 rw [e2];simpa using e
@[go_sem] theorem zWl (q:Nat->Bool) (n:Nat):((shr (F3 q) n:Nat):Int)<65536:=by
 unfold shr
 have:=U5 q
 have h2:F3 q >>> n<=F3 q:=by rw [Nat.shiftRight_eq_div_pow];exact Nat.div_le_self _ _
 omega
@[go_sem] theorem zet (b:Bool):(((b.toNat:Nat):Int)==1)=b:=by cases b<;>rfl
@[go_sem] theorem zeu (b:Bool):(((b.toNat:Nat):Int)==0)=!b:=by cases b<;>rfl
def m3 (q:Nat->Bool):Bool:=(List.range 16).any q
theorem G2:m3 q=true↔∃ b,b<16/\q b=true:=by simp only [m3,any_eq_true,mem_range]
@[simp] theorem zSp:(m3 fun _=>false)=false:=rfl
theorem zFn (h:∀ b,b<16->q b=q' b):m3 q=m3 q':=by
 rw [Bool.eq_iff_iff,G2,G2]
 exact exists_congr fun b=>and_congr_right fun hb=>by rw [h b hb]
def th (p q:Nat->Nat->Bool) (a c:Nat):Bool:=m3 fun b=>p a b&&q b c
theorem zOx {p s:Nat->Bool} {f:Nat} (hf:f<16) (hp:p f=true) (hs:s f=true):(m3 fun b=>p b&&!(s b&&b != f)&&q b)=((m3 fun b=>p b&&!s b&&q b)||q f):=by
 rw [Bool.eq_iff_iff]
 simp only [G2,Bool.and_eq_true,Bool.or_eq_true,Bool.not_eq_true',Bool.and_eq_false_iff,bne_eq_false_iff_eq]
 constructor
 .rintro ⟨b,hb,⟨h1,h2⟩,h3⟩
  rcases h2 with h2|h2
  .exact .inl ⟨b,hb,⟨h1,h2⟩,h3⟩
  subst h2;exact .inr h3
 rintro (⟨b,hb,⟨h1,h2⟩,h3⟩|h)
 .exact ⟨b,hb,⟨h1,.inl h2⟩,h3⟩
 exact ⟨f,hf,⟨hp,.inr rfl⟩,h⟩
def wN (p:Nat->Nat->Bool):Nat->Nat->Nat->Bool
 | 0,a,b=>p a b
 | n+1,a,b=>wN p n a b||(wN p n a n&&wN p n n b)
def cl (p:Nat->Nat->Bool):Nat->Nat->Bool:=wN p 16
def Zc_ (p:Nat->Nat->Bool):Bool:=m3 fun a=>cl p a a
def Jt_ (p:Nat->Nat->Bool):Nat->Nat
 | 0=>0
 | n+1=>Jt_ p n+QZ_ (F3 (p n))
theorem zI7 (p:Nat->Nat->Bool):∀ n,Jt_ p n<=16*n
 | 0=>Nat.le_refl _
 | n+1=>by have:=zI7 p n;have:=UC_ 16 _ (U5 (p n));simp only [Jt_];omega
def free (p:Nat->Nat->Bool) (s:Nat->Bool) (a:Nat):Bool:=s a&&(((F3 fun b=>p b a&&s b:Nat):Int)==0)
def inL (L:List Nat) (i x:Nat):Bool:=(L.take i).contains x
theorem zCp (v:Nat) (hv:v<18446744073709551616):Pf Tryz.prog 104 [.val (.int .u64 v)] (.val (.int .i64 (QZ_ v))):=by
 refine Pf.of_fn (.cons (.val _) .nil) (.val _) ?_
 refine B7 T_ok func104 rfl rfl ntmps104 rfl (by simp) ?_
 refine rG ?_
 refine rG ?_
 refine A3 fun K hK=>?_
 apply A0
 refine A9 (α:=Nat × Nat) (fun a=>⟨13,[(0,.val (.int .u64 a.1)),(3,.val (.int .i64 a.2))],[],0⟩) (fun a=>a.1<18446744073709551616/\a.2+QZ_ a.1=QZ_ v) (fun a=>a.1) (v,0) ⟨hv,by simp⟩ ?_ ?_
 .exact Weaker.of (by simp [Sl.get]) (by simp) (by simp)
 rintro ⟨x,n⟩ ⟨hx,hp⟩
 dsimp only at hx hp ⊢
 have hle:=UC_ 64 v hv
 refine A3 fun K1 hK1=>?_
 refine rG ?_
 refine QW_ rfl (fun h=>A1 (hK1 _ ?_)) (fun h=>A6 (hK _ ?_))
 .clear hK1 K1
  simp at h
  refine A3 fun K1 hK1=>?_
  apply A0
  refine rE fun K hK=>?_
  simp (disch:=omega) [go_sem]
  refine hK _ (hK1 _ ?_);clear hK K hK1 K1
  refine rE fun K hK=>?_
  simp (disch:=omega) [go_sem]
  refine hK _ ⟨(x &&& (x-1),n+1),⟨Nat.lt_of_le_of_lt Nat.and_le_left hx,?_⟩,zAb x (by omega),Weaker.of (by simp [Sl.get]) (by simp) (by simp)⟩
  have:=Qa_ x (by omega)
  dsimp only;omega
 refine rK fun K hK=>?_
 simp [go_sem]
 refine hK _ ?_
 refine A4 ?_
 simp at h
 subst h
 simp [o8] at hp
 simp [go_sem,hp]
theorem zCq (v:Nat) (h0:0<v) (hv:v<18446744073709551616):Pf Tryz.prog 147 [.val (.int .u64 v)] (.val (.int .i64 (Za_ v))):=by
 refine Pf.of_fn (.cons (.val _) .nil) (.val _) ?_
 refine B7 T_ok func147 rfl rfl ntmps147 rfl (by simp) ?_
 refine rG ?_
 refine A3 fun K1 hK1=>?_
 refine rG ?_
 refine QW_ rfl (fun h=>?_) (fun h=>A1 (hK1 _ ?_))
 .simp at h;omega
 clear hK1 K1
 have e:=zWh 64 v h0 hv
 simp only [Nat.reducePow] at e
 have hl:=zAc (k:=64) h0 hv
 have hp:=zI3 hl
 have hp0:=zel (Za_ v)
 have e2:=zI5 (Za_ v)
 rw [<-pw] at e e2
 refine rK fun K hK=>?_
 simp (disch:=omega) [go_sem,e]
 refine A2 (zCp _ (by omega)) ?_
 rw [e2]
 simp [go_sem]
 refine hK _ (zH7 ⟨.inr rfl,?_⟩)
 simp [go_sem]
end Go.Proofs.YtmpbalepefpllaaGreat
namespace Go.Sl
def Q5 (g:V->V):V->V
 | .agg cs=>.agg (cs.map g)
 | v=>g v
def frz (S:List Nat) (H:A8):Nat->V->V
 | 0,v=>v
 | d+1,v =>
  match v with
  | .sl n q len =>
   if n∈S then v else
   match look n H with
   | some (.rows sz es)=>if q+len<=es.length then .ro sz (((es.drop q).take len).map (Q5 (frz S H d))) else v
   | _=>v
  | .ptr n i j =>
   if n∈S then v else
   match look n H with
   | some (.rows _ es)=>if i<es.length then .rp ((es.getD i .any).cells.map (frz S H d)) j else v
   | _=>v
  | .sub n i j z len =>
   if n∈S\/z≠1 then v else
   match look n H with
   | some (.rows _ es)=>if i<es.length/\j+len<=(es.getD i .any).cells.length then .ro 1 ((((es.getD i .any).cells.drop j).take len).map (frz S H d)) else v
   | _=>v
  | .agg cs=>.agg (cs.map (frz S H d))
  | .tup vs=>.tup (vs.map (frz S H d))
  | v=>v
def U9_ (S:List Nat) (H:A8) (d:Nat):B->B
 | .rows sz es=>.rows sz (es.map (Q5 (frz S H d)))
 | .map es=>.map es
 | .iter m done n=>.iter m done n
variable {v:V}
theorem zWm {S:List Nat} {H:A8} {d:Nat} (h:∀ cs,v≠.agg cs):∀ cs,frz S H d v≠.agg cs:=by
 intro cs
 cases d with
 | zero=>exact h cs
 | succ d =>
  unfold frz
  split
  .split
   .exact h cs
   split
   .split
    .simp
    exact h cs
   exact h cs
  .split
   .exact h cs
   split
   .split
    .simp
    exact h cs
   exact h cs
  .split
   .exact h cs
   split
   .split
    .simp
    exact h cs
   exact h cs
  .rename_i cs' ;exact absurd rfl (h cs')
  .simp
  exact h cs
theorem Qf_ (h:∀ cs,v≠.agg cs):v.cells=[v]:=by
 cases v<;>first|rfl|exact absurd rfl (h _)
theorem Xo_ {S:List Nat} {H:A8} {d:Nat} (v:V):(Q5 (frz S H d) v).cells=v.cells.map (frz S H d):=by
 by_cases h:∃ cs,v=.agg cs
 .obtain ⟨cs,rfl⟩:=h;rfl
 have h':∀ cs,v≠.agg cs:=fun cs e=>h ⟨cs,e⟩
 have e:Q5 (frz S H d) v=frz S H d v:=by
  cases v<;>first|rfl|exact absurd rfl (h' _)
 rw [e,Qf_ (zWm h'),Qf_ h'];rfl
theorem zAf {S:List Nat} {H:A8} {d:Nat} (h:v.one=true):(frz S H d v).one=true:=by
 cases d with
 | zero=>exact h
 | succ d =>
  unfold frz
  split
  .split
   .exact h
   split
   .split
    .rfl
    exact h
   exact h
  .split
   .exact h
   split
   .split
    .rfl
    exact h
   exact h
  .split
   .exact h
   split
   .split
    .rfl
    exact h
   exact h
  .cases h
  .cases h
  exact h
theorem VH_ {S:List Nat} {H:A8} {d sz:Nat} (h:v.fits sz=true):(Q5 (frz S H d) v).fits sz=true:=by
 rw [C9] at h ⊢
 rw [Xo_]
 refine ⟨by simpa using h.1,fun c hc=>?_⟩
 obtain ⟨c',hc',rfl⟩:=List.mem_map.1 hc
 exact zAf (h.2 c' hc')
theorem VI_ {S:List Nat} {H:A8} {d:Nat} (es:List V):(es.map (Q5 (frz S H d))).flatMap V.cells=(es.flatMap V.cells).map (frz S H d):=by
 induction es with
 | nil=>rfl
 | cons e es ih=>simp only [map_cons,flatMap_cons,map_append,ih,Xo_]
section
variable {F:Nat->Prop} {ι ι':E3} {O O':Nat->Prop} {H H':A8} {w w':World} {S:List Nat}
theorem VRels.mapF {g:V->V} (h:∀ v x,VRel ι O w v x->VRel ι O' w (g v) x):∀ {vs:List V} {xs:List Value},VRels ι O w vs xs->VRels ι O' w (vs.map g) xs
 | _,_,.nil=>.nil
 | _,_,.cons h1 hs=>.cons (h _ _ h1) (VRels.mapF h hs)
variable {K':V->A8->Nat->Prop} {args cs cs':List V} {f:FuncId} {k':Nat} {op:Op} {r:V} {t':List (Nat × V)}
theorem VJ_ {P:Program} {H:A8} {k:Nat} {K:V->A8->Nat->Prop} (h:@x4 P f args H k ⟨K⟩) (hk:∀ v H k,K v H k->K' v H k):@x4 P f args H k ⟨K'⟩:=Fn.mono h hk
theorem zCr {T:Tab} {P:Program} {t:List (Nat × V)} {H:A8} {k:Nat} {K:V->A8->Nat->Prop} (h:opV T P t H k op K) (hk:∀ v H k,K v H k->K' v H k):opV T P t H k op K':=by
 cases hc:Xd_ op with
 | false =>
  obtain ⟨v,H',k',h1,h2⟩:=zSn hc K h
  exact h2 K' (hk _ _ _ h1)
 | true =>
  unfold Xd_ at hc
  split at hc
  .rename_i f args ts
   unfold opV at h ⊢
   dsimp only at h ⊢
   split at h
   .rename_i g fs cs hf
    first|exact VJ_ h hk|(simp only [hf];exact VJ_ h hk)
   exact h.elim
  cases hc
theorem Xp_ {ops:List Oper} {t:List (Nat × V)} {g:Option (Nat × Bool)} {p q p' q':Prop} (h:o6 ops t g p q) (hp:p->p') (hq:q->q'):o6 ops t g p' q':=by
 cases g with
 | none=>exact hp h
 | some g =>
  obtain ⟨j,want⟩:=g
  unfold o6 at h ⊢
  dsimp only at h ⊢
  cases hd:(ops[j]?).bind (·.dst) with
  | none=>rw [hd] at h;exact h.elim
  | some d =>
   rw [hd] at h
   dsimp only at h ⊢
   cases hg:get t d with
   | val v =>
    rw [hg] at h
    cases v with
    | bool b =>
     dsimp only at h ⊢
     by_cases e:b=want
     .rw [if_pos e] at h ⊢;exact hp h
     rw [if_neg e] at h ⊢;exact hq h
    | _=>exact h.elim
   | tup vs =>
    rw [hg] at h
    cases vs with
    | nil=>exact hq h
    | cons=>exact h.elim
   | _=>rw [hg] at h;exact h.elim
theorem Y4_ {T:Tab} {P:Program} {ops:List Oper} {N:Nat} {K K':St->Prop}:∀ {l:List Oper} {t:List (Nat × V)} {H:A8} {k:Nat},vcL T P ops N l K t H k->(∀ σ,K σ->K' σ)->vcL T P ops N l K' t H k
 | [],_,_,_,h,hk=>hk _ h
 | _::_,_,_,_,h,hk=>⟨h.1,Xp_ h.2 (fun h=>zCr h fun _ _ _ h=>Y4_ h hk) fun h=>Y4_ h hk⟩
theorem zI8 {T:Tab} {P:Program} {t:List (Nat × V)} {H:A8} {k:Nat} {K:V->A8->Nat->Prop} (h:zOj T P t H k op K) (hk:∀ v H k,K v H k->K' v H k):zOj T P t H k op K':=by
 unfold zOj at h ⊢
 split
 .rename_i f args ts
  dsimp only at h
  split at h
  .rename_i hf
   obtain ⟨r,h1,h2⟩:=h
   first|exact ⟨r,h1,hk _ _ _ h2⟩|(simp only [hf];exact ⟨r,h1,hk _ _ _ h2⟩)
  exact h.elim
 rename_i hno
 split at h
 .rename_i f args ts;exact absurd rfl (hno f args ts)
 exact zCr h hk
theorem UD_ {T:Tab} {P:Program} {ops:List Oper} {N:Nat} {K K':List (Nat × V)->A8->List (List Nat × List Nat)->Prop}:∀ {l:List Oper} {κ:Nat} {t:List (Nat × V)} {H:A8} {lg:List (List Nat × List Nat)},vcD T P ops N κ l K t H lg->(∀ t H lg,K t H lg->K' t H lg)->vcD T P ops N κ l K' t H lg
 | [],_,_,_,_,h,hk=>hk _ _ _ h
 | _::_,_,_,_,_,h,hk=>⟨h.1,Xp_ h.2 (fun h=>zI8 h fun _ _ _ h=>⟨h.1,UD_ h.2 hk⟩) fun h=>UD_ h hk⟩
structure Less (ι:E3) (S:List Nat) (H H':A8):Prop where
 sub:∀ n B,(n,B)∈H'->n∈S/\∃ C,(n,C)∈H
theorem Less.own (L:Less ι S H H') {b:Nat} (h:Own F ι H' b):F b\/∃ n C l,n∈S/\(n,C)∈H/\ι n=some l/\l.ghost=false/\l.b=b:=by
 rcases h with h|⟨n,B,l,hm,hl,hg,hb⟩
 .exact .inl h
 obtain ⟨h1,C,h2⟩:=L.sub n B hm
 exact .inr ⟨n,C,l,h1,h2,hl,hg,hb⟩
theorem Less.stays (L:Less ι S H H'):Stays ι (Own F ι H) w ι (Own F ι H') w :=
 ⟨fun _ _ h=>h,Nat.le_refl _,fun b _ hn=>⟨fun h=>hn (by
  rcases L.own h with h|⟨n,C,l,_,h2,hl,hg,hb⟩
  .exact .inl h
  exact .inr ⟨n,C,l,h2,hl,hg,hb⟩),rfl⟩⟩
theorem Less.free (L:Less ι S H H') (R:Rep F ι H w) {n:Nat} {B:B} {l:Loc} (hn:look n H=some B) (hS:n∉S) (hl:ι n=some l) (hg:l.ghost=false) (hF:¬ F l.b):¬ Own F ι H' l.b:=by
 intro h
 rcases L.own h with h|⟨m,C,l',h1,h2,hl',hg',hb⟩
 .exact hF h
 exact R.apart m C n B l' l h2 (D6 hn) (fun e=>hS (e▸h1)) hl' hl hg' hg hb
theorem Qg_ (L:Less ι S H H') (R:Rep F ι H w):∀ (d:Nat) (v:V) (x:Value),VRel ι (Own F ι H) w v x->VRel ι (Own F ι H') w (frz S H d v) x
 | 0,v,x,h=>h.stays L.stays
 | d+1,v,x,h=>by
  have ih:=Qg_ L R d
  unfold frz
  split
  .rename_i n q len
   split
   .exact h.stays L.stays
   rename_i hS
   split
   .rename_i sz es hn
    split
    .rename_i hl
     have hlen:((es.drop q).take len).length=len:=by rw [length_take,length_drop];omega
     cases h with
     | sl0 h=>simpa using VRel.ro0
     | sl hl' hg hm hoff hc0 hlc hcm hs =>
      rename_i off cap l
      obtain ⟨e1,e2,e3,e4,e5,c,e,hw,hc,hlo,hv⟩:=R.block hn hl' hg
      have hcl:∀ v∈es,v.cells.length=sz:=fun v hv=>(C9.1 (e3 v hv)).1
      have hmul:(q+len)*sz<=es.length*sz:=Nat.mul_le_mul_right _ hl
      rw [Nat.add_mul] at hmul
      have hv':=(hv.drop (q*sz)).take (len*sz)
      rw [M2 hcl,O5 (fun v hv=>hcl v (mem_of_mem_drop hv))] at hv'
      have hlist:(((c.toList.drop l.o).take (es.length*sz)).drop (q*sz)).take (len*sz)=(c.toList.drop off).take (((es.drop q).take len).length*sz):=by
       rw [hlen]
       apply List.ext_getElem?
       intro p
       simp only [List.getElem?_take,List.getElem?_drop]
       by_cases hq:p<len*sz
       .simp only [hq,if_true,show q*sz+p<es.length*sz by omega]
        congr 1;rw [hoff,e1];omega
       simp [hq]
      rw [hlist] at hv'
      refine .ro e4 (L.free R hn hS hl' hg e5) hw (fun v hv=>?_) (by rw [length_map,hlen]) hlc ?_ rfl ?_
      .obtain ⟨v',hv',rfl⟩:=List.mem_map.1 hv
       exact VH_ (e3 v' (mem_of_mem_drop (mem_of_mem_take hv')))
      .rw [length_map,hlen,hoff,e1];omega
      rw [VI_,length_map];exact hv'.mapF ih
    exact h.stays L.stays
   exact h.stays L.stays
  .rename_i n i j
   split
   .exact h.stays L.stays
   rename_i hS
   split
   .rename_i sz es hn
    split
    .rename_i hl
     cases h with
     | ptr hl' hg hm hoff =>
      rename_i off l
      obtain ⟨e1,e2,e3,e4,e5,c,e,hw,hc,hlo,hv⟩:=R.block hn hl' hg
      have hcl:∀ v∈es,v.cells.length=sz:=fun v hv=>(C9.1 (e3 v hv)).1
      obtain ⟨v,hvi⟩:∃ v,es[i]?=some v:=⟨_,List.getElem?_eq_getElem hl⟩
      have hd:es.getD i .any=v:=by simp [List.getD,hvi]
      have hvf:=C9.1 (e3 v (List.mem_of_getElem? hvi))
      have hmul:i*sz+sz<=es.length*sz:=by rw [<-Nat.succ_mul];exact Nat.mul_le_mul_right _ hl
      have hel:=(hv.drop (i*sz)).take sz
      rw [J1 hcl hvi] at hel
      have hlist:(((c.toList.drop l.o).take (es.length*sz)).drop (i*sz)).take sz=(c.toList.drop (l.o+i*sz)).take v.cells.length:=by
       rw [hvf.1]
       apply List.ext_getElem?
       intro p
       simp only [List.getElem?_take,List.getElem?_drop]
       by_cases hq:p<sz
       .simp only [hq,if_true,show i*sz+p<es.length*sz by omega]
        congr 1;omega
       simp [hq]
      rw [hlist] at hel
      rw [hd]
      refine VRel.rp (off:=l.o+i*sz) e4 (L.free R hn hS hl' hg e5) hw ?_ (by rw [length_map,hvf.1];omega) rfl (by rw [length_map];exact hel.mapF ih) (by rw [hoff,e1])
      rw [all_eq_true]
      intro c hc
      obtain ⟨c',hc',rfl⟩:=List.mem_map.1 hc
      exact zAf (hvf.2 c' hc')
    exact h.stays L.stays
   exact h.stays L.stays
  .rename_i n i j z len
   split
   .exact h.stays L.stays
   rename_i hSz
   obtain ⟨hS,hz⟩:=not_or.1 hSz
   have hz:=Decidable.not_not.1 hz
   subst hz
   split
   .rename_i sz es hn
    split
    .rename_i hl
     obtain ⟨hl,hjl⟩:=hl
     cases h with
     | sub hl' hg hm hoff hlc hcm hs =>
      rename_i off cap l
      obtain ⟨e1,e2,e3,e4,e5,c,e,hw,hc,hlo,hv⟩:=R.block hn hl' hg
      have hcl:∀ v∈es,v.cells.length=sz:=fun v hv=>(C9.1 (e3 v hv)).1
      obtain ⟨v,hvi⟩:∃ v,es[i]?=some v:=⟨_,List.getElem?_eq_getElem hl⟩
      have hd:es.getD i .any=v:=by simp [List.getD,hvi]
      have hvf:=C9.1 (e3 v (List.mem_of_getElem? hvi))
      rw [hd] at hjl ⊢
      rw [hvf.1] at hjl
      have hmul:i*sz+sz<=es.length*sz:=by rw [<-Nat.succ_mul];exact Nat.mul_le_mul_right _ hl
      have hel:=((((hv.drop (i*sz)).take sz).drop j).take len)
      rw [J1 hcl hvi] at hel
      have hll:((v.cells.drop j).take len).length=len:=by rw [length_take,length_drop,hvf.1];omega
      have hlist:(((((c.toList.drop l.o).take (es.length*sz)).drop (i*sz)).take sz).drop j).take len=(c.toList.drop off).take len:=by
       apply List.ext_getElem?
       intro p
       simp only [List.getElem?_take,List.getElem?_drop]
       by_cases hq:p<len
       .simp only [hq,if_true,show j+p<sz by omega,show i*sz+(j+p)<es.length*sz by omega]
        congr 1;rw [hoff,e1];omega
       simp [hq]
      rw [hlist] at hel
      have hone:∀ u∈((v.cells.drop j).take len).map (frz S H d),u.one=true:=fun u hu=>by
       obtain ⟨c',hc',rfl⟩:=List.mem_map.1 hu
       exact zAf (hvf.2 c' (mem_of_mem_drop (mem_of_mem_take hc')))
      have hcells:∀ u:V,u.one=true->u.cells=[u]:=fun u hu=>by cases u<;>first|rfl|cases hu
      have hflat:(((v.cells.drop j).take len).map (frz S H d)).flatMap V.cells=((v.cells.drop j).take len).map (frz S H d):=by
       generalize ((v.cells.drop j).take len).map (frz S H d)=q at hone
       induction q with
       | nil=>rfl
       | cons a q ihq=>rw [flatMap_cons,hcells a (hone a (by simp)),ihq fun u hu=>hone u (by simp [hu])];rfl
      have hcs:off+len<=c.size:=by rw [hc];omega
      refine VRel.ro (vs:=(c.toList.drop off).take len) e4 (L.free R hn hS hl' hg e5) hw (fun u hu=>?_) (by rw [length_map,hll]) hlc (by rw [length_map,hll];omega) (by rw [length_map,hll,Nat.mul_one]) (by rw [hflat];exact hel.mapF ih)
      rw [C9,hcells u (hone u hu)]
      exact ⟨rfl,fun c' hc'=>by simp at hc';subst hc';exact hone _ hu⟩
    exact h.stays L.stays
   exact h.stays L.stays
  .cases h with
   | agg h=>exact .agg (h.mapF ih)
  .cases h with
   | tup h=>exact .tup (h.mapF ih)
  exact h.stays L.stays
theorem zI9 (L:Less ι S H H') (R:Rep F ι H w) (d:Nat) {l:Loc} {B:B} (h:BRel ι (Own F ι H) w l B):BRel ι (Own F ι H') w l (U9_ S H d B):=by
 have ih:=Qg_ L R d
 cases B with
 | rows sz es =>
  obtain ⟨h1,h2,h3,h4⟩:=h
  refine ⟨h1,h2,fun v hv=>?_,?_⟩
  .obtain ⟨v',hv',rfl⟩:=List.mem_map.1 hv
   exact VH_ (h3 v' hv')
  rcases h4 with ⟨h4,h5⟩|⟨h4,c,e,h5,h6,h7,h8⟩
  .subst h5;exact .inl ⟨h4,rfl⟩
  refine .inr ⟨h4,c,e,h5,h6,by simpa using h7,?_⟩
  rw [VI_,length_map];exact h8.mapF ih
 | map es =>
  obtain ⟨h1,h2,mes,h3,h4,h5,h6⟩:=h
  exact ⟨h1,h2,mes,h3,VRels.stays L.stays h4,VRels.stays L.stays h5,h6⟩
 | iter m done n=>exact h
theorem Weaker.fz {N k:Nat} {t:List (Nat × V)} (d dh : Nat) (ht : ∀ p ∈ t', frz (H'.map Prod.fst) H d (get t p.1) = p.2) (hn : (H'.map Prod.fst).Nodup)
    (hH:∀ p∈H',∃ B,look p.1 H=some B/\U9_ (H'.map Prod.fst) H dh B=p.2):Weaker ⟨N,t,H,k⟩ ⟨N,t',H',k⟩ :=
  ⟨fun F ι a w hh=>by
    have R:=hh.rep
    simp only [] at R
    have L:Less ι (H'.map Prod.fst) H H':=⟨fun n B hm=>⟨mem_map_of_mem (f:=Prod.fst) hm,by
      obtain ⟨C,hC,_⟩:=hH _ hm
      exact ⟨C,D6 hC⟩⟩⟩
    have hno:∀ b,¬ OwnH ι H b->¬ OwnH ι H' b:=fun b hb ⟨n,B,l,hm,hl,hg,he⟩=>by
      obtain ⟨C,hC,_⟩:=hH _ hm
      exact hb ⟨n,C,l,D6 hC,hl,hg,he⟩
    have K:Kept ι H w ι H' w:=⟨fun _ _ h=>h,rfl,Tp.refl _,rfl,Nat.le_refl _,fun _ _ _=>rfl,fun b _ h=>Classical.byContradiction fun hc=>hno b hc h⟩
    refine ⟨ι,⟨hh.defers,hh.size,fun i=>?_,⟨R.frame,hn,fun n B hm=>?_,fun n B m C l l' h1 h2=>?_⟩,hh.fresh⟩,K,Nat.le_refl _,fun _ _=>rfl,fun n h=>?_⟩
    . rcases UB_ t' i with h|h
      . simp only [];rw [h];exact .any _
      have h1:=ht _ h
      simp only [] at h1 ⊢
      rw [<-h1]
      exact Qg_ L R d _ _ (hh.tmps i)
    . obtain ⟨C,hC,hB⟩:=hH _ hm
      obtain ⟨l,hl,hr,hg⟩:=R.own n C (D6 hC)
      refine ⟨l,hl,?_,hg⟩
      have:=zI9 L R dh hr
      rw [hB] at this;exact this
    . obtain ⟨B',hB',_⟩:=hH _ h1
      obtain ⟨C',hC',_⟩:=hH _ h2
      exact R.apart n B' m C' l l' (D6 hB') (D6 hC')
    obtain ⟨p,hp,rfl⟩:=List.mem_map.1 h
    obtain ⟨C,hC,_⟩:=hH _ hp
    exact .inl (List.mem_map.2 ⟨(p.1,C),D6 hC,rfl⟩)⟩
theorem Weaker.up {N k:Nat} {t:List (Nat × V)} (hk:k<=k'):Weaker ⟨N,t,H,k⟩ ⟨N,t,H,k'⟩ :=
 ⟨fun F ι a w hh=>⟨ι,⟨hh.defers,hh.size,hh.tmps,hh.rep,fun n hn h=>hh.fresh n hn (Nat.le_trans hk h)⟩,⟨Kept.refl _ _ _,hk,fun _ _=>rfl,fun _ h=>.inl h⟩⟩⟩
theorem Weaker.fzk {N k:Nat} {t:List (Nat × V)} (d dh : Nat) (hk : k ≤ k') (ht : ∀ p ∈ t', frz (H'.map Prod.fst) H d (get t p.1) = p.2) (hn : (H'.map Prod.fst).Nodup)
    (hH:∀ p∈H',∃ B,look p.1 H=some B/\U9_ (H'.map Prod.fst) H dh B=p.2):Weaker ⟨N,t,H,k⟩ ⟨N,t',H',k'⟩:=(Weaker.up hk).trans (Weaker.fz d dh ht hn hH)
theorem wI (n:Nat) (h:n<9223372036854775807:=by omega):IntKind.i64.wrap ((n:Nat)+1)=(n:Nat)+1:=E4 (by omega) (by omega)
theorem dE {P:Program} {T:Tab} [Tq P T] {Q:Exit->St->Prop} {id:Nat} {l:List Oper} {N k:Nat} {t:List (Nat × V)} {H:A8} (m:Nat) (tbl:List (List Nat))
 (h:∀ K:St->Prop,(∀ σ',Q .normal σ'->K σ')->vcD T P l N k (l.take m) (fun t' H' lg=>Wz_ [] lg/\vcL T P l N (l.drop m) K t' H' (k+m)) t H []) (hN:R8 l N=true:=by decide) (hd:YY_ l tbl m=true:=by decide) (hp:ZB_ l tbl [] m=true:=by decide):Tr P (.region id l.toArray true) Q ⟨N,t,H,k⟩:=Y9 Tq.ok (Tq.mx (P:=P) (T:=T)) m tbl [] hN hd hp h
theorem Weaker.fw {H H':A8} {N k:Nat} {t:List (Nat × V)} (d dh:Nat) (ht:∀ p∈t',frz (H'.map Prod.fst) H d (get t p.1)=p.2)
 (hH:∀ p∈H',∃ B,look p.1 H=some B/\U9_ (H'.map Prod.fst) H dh B=p.2) (hn:(H'.map Prod.fst).Nodup:=by first|(simp;done)|(simp;omega)):Weaker ⟨N,t,H,k⟩ ⟨N,t',H',k⟩:=Weaker.fz d dh ht hn hH
theorem Weaker.fy {H H':A8} {N k:Nat} {t:List (Nat × V)} (d dh:Nat) (ht:∀ p∈t',frz (H'.map Prod.fst) H d (get t p.1)=p.2)
 (hH:∀ p∈H',∃ B,look p.1 H=some B/\U9_ (H'.map Prod.fst) H dh B=p.2) (hk:k<=k':=by first|omega|(dsimp only;omega)) (hn:(H'.map Prod.fst).Nodup:=by first|(simp;done)|(simp;omega)):Weaker ⟨N,t,H,k⟩ ⟨N,t',H',k'⟩:=Weaker.fzk d dh hk ht hn hH
inductive NilTos (m:Nat):List V->List V->Prop
 | nil:NilTos m [] []
 | same {c:V} {cs ds:List V} (h:NilTos m cs ds):NilTos m (c::cs) (c::ds)
 | to {cs ds:List V} (h:NilTos m cs ds):NilTos m (.val (.slice none 0 0)::cs) (.sl m 0 0::ds)
theorem NilTos.rels {m:Nat} {l:Loc} (hm:ι m=some l) {cs ds:List V} (h:NilTos m cs ds) {xs:List Value} (hv:VRels ι O w cs xs):VRels ι O w ds xs:=by
 induction h generalizing xs with
 | nil=>exact hv
 | same _ ih=>cases hv with|cons a b=>exact .cons a (ih b)
 | to _ ih=>cases hv with|cons a b=>cases a;exact .cons (.sl0 hm) (ih b)
theorem Weaker.ghostH {N k sz:Nat} {t:List (Nat × V)} (n s : Nat) {es : List V} (es' : List V) (hn : look n H = some (.rows sz es)) (h0 : es ≠ []) (hl : es'.length = es.length) (hf : ∀ v ∈ es', v.fits sz = true) (hc : NilTos k (es.flatMap V.cells) (es'.flatMap V.cells)) :
    Weaker ⟨N,t,H,k⟩ ⟨N,t,(k,.rows s [])::put n (.rows sz es') H,k+1⟩ :=
  ⟨fun F ι a w hh=>by
    have hk:=hh.fresh k trivial (Nat.le_refl _)
    obtain ⟨R,K⟩:=hh.rep.ghost hk s
    have hkn:n≠k:=fun e=>by
      obtain ⟨l,hl,_⟩:=hh.rep.own n _ (D6 hn)
      rw [e,hk] at hl;cases hl
    simp only [] at R K
    have hmem:(n,B.rows sz es)∈(k,B.rows s [])::H:=mem_cons_of_mem _ (D6 hn)
    obtain ⟨l,hιl,hB,_⟩:=R.own n _ hmem
    have hg:l.ghost=false:=by
      obtain ⟨_,_,_,h4⟩:=hB
      rcases h4 with ⟨_,h5⟩|⟨h4,_⟩
      . exact absurd h5 h0
      exact h4
    have hkk:upd ι k ⟨0,0,s,0,true,false⟩ k=some ⟨0,0,s,0,true,false⟩:=B4 _ _ _
    have R2:=R.put (b':=.rows sz es') hmem hιl hg rfl (Tp.refl _) rfl (Nat.le_refl _) (fun _ _ _=>rfl) (fun O' S=>by
      obtain ⟨h1,h2,h3,h4⟩:=hB
      refine ⟨h1,h2,hf,?_⟩
      rcases h4 with ⟨h4,_⟩|⟨h4,c,e,h5,h6,h7,h8⟩
      . rw [hg] at h4;cases h4
      exact .inr ⟨h4,c,e,h5,h6,by rw [hl];exact h7,by rw [hl];exact hc.rels hkk (h8.stays S)⟩)
    have K2:=f9 (b':=.rows sz es') hmem hιl hg R.names (w:=w) (w':=w) rfl (Tp.refl _) rfl (Nat.le_refl _) (fun _ _ _=>rfl)
    have he:put n (.rows sz es') ((k,.rows s [])::H)=(k,.rows s [])::put n (.rows sz es') H:=by simp [Sl.put,hkn]
    rw [he] at R2 K2
    have K3:=K.trans K2
    refine ⟨_,⟨hh.defers,hh.size,fun j=>(hh.tmps j).stays K3.stays,R2,fun q _ hq=>?_⟩,K3,Nat.le_succ _,fun q hq=>F9 _ _ _ _ (by have:=hq trivial;simp only [] at this;omega),fun q hq=>?_⟩
    . simp only [] at hq
      rw [F9 _ _ _ _ (by omega)]
      exact hh.fresh q trivial (by simp only [];omega)
    simp only [map_cons,mem_cons,T8] at hq
    rcases hq with hq|hq
    . exact .inr ⟨trivial,by simp only [];omega⟩
    exact .inl hq⟩
theorem View.fz (d:Nat) (v:V):View H v [] (frz [] H d v):=fun F ι w cv R hv=>by
 have L:Less ι [] H []:=⟨fun n B hm=>by simp at hm⟩
 obtain ⟨R',K,N,_⟩:=View.nil (H:=H) v F ι w cv R hv
 exact ⟨R',K,N,Qg_ L R d v cv hv⟩
def SeenAs (v v':V):Prop:=∀ ι O w x,VRel ι O w v x->VRel ι O w v' x
theorem SeenAs.refl (v:V):SeenAs v v:=fun _ _ _ _ h=>h
theorem zFo {α:Type} (sz:Nat) (el:α->V) (o:Option (List α)):SeenAs (zI0 sz el o) (.ro sz ((o.getD []).map el)):=by
 cases o with
 | none=>intro ι O w x h;cases h;exact .ro0
 | some l=>exact SeenAs.refl _
inductive SeenAll:List V->List V->Prop
 | nil:SeenAll [] []
 | cons {v v':V} {vs vs':List V} (h:SeenAs v v') (hs:SeenAll vs vs'):SeenAll (v::vs) (v'::vs')
theorem SeenAll.rels {vs vs':List V} (h:SeenAll vs vs') {xs:List Value} (hv:VRels ι O w vs xs):VRels ι O w vs' xs:=by
 induction h generalizing xs with
 | nil=>exact hv
 | cons h1 _ ih=>cases hv with|cons a b=>exact .cons (h1 _ _ _ _ a) (ih b)
theorem zCs (sz:Nat):SeenAs (.val (.slice none 0 0)) (.ro sz []):=fun ι O w x h=>by cases h;exact .ro0
theorem zOy (h:SeenAll cs cs'):SeenAs (.agg cs) (.agg cs'):=fun ι O w x hv=>by cases hv with|agg hv=>exact .agg (h.rels hv)
theorem SeenAll.len (h:SeenAll cs cs'):cs.length=cs'.length:=by induction h with|nil=>rfl|cons _ _ ih=>simp [ih]
theorem SeenAll.refl:∀ cs:List V,SeenAll cs cs
 | []=>.nil
 | _::cs=>.cons (SeenAs.refl _) (SeenAll.refl cs)
theorem zmj {j:Nat} (h:SeenAll cs cs') (h1:cs'.all V.one=true):SeenAs (.rp cs j) (.rp cs' j):=fun ι O w x hv=>by
 cases hv with
 | rp hb hO hw hsz hin hvs hr ho=>exact .rp hb hO hw h1 (by rw [<-h.len];exact hin) (by rw [<-h.len];exact hvs) (h.rels hr) ho
theorem Pf.seen {P:Program} {args':List V} (h:SeenAll args args') (p:Pf P f args' r):Pf P f args r :=
 ⟨p.enters,fun ι O w cargs hO hv=>p.calls ι O w cargs hO (h.rels hv)⟩
theorem Pf.of_fz {P:Program} (d:Nat) (ha:NLs args) (hr:NL r) (h:Fn P f args [] 0 fun v H _=>frz [] H d v=r):Pf P f args r :=
 Pf.of_fn ha hr (Fn.view (h.mono fun v H k e=>⟨[],r,e▸View.fz d v,rfl⟩))
theorem Y5_:Q5 id=id:=by
 funext v
 cases v<;>simp [Q5]
theorem zIa:Q5 (fun x=>x)=id:=Y5_
theorem UE_ (S:List Nat) (H:A8):frz S H 0=id:=by funext v;rfl
@[go_sem] theorem zqc (n j:Nat):(n=n+j+1)=False:=eq_false (by omega)
@[go_sem] theorem zqd (n j:Nat):(n+j+1=n)=False:=eq_false (by omega)
@[go_sem] theorem zqe (n j:Nat):(n=n+j+1+1)=False:=eq_false (by omega)
@[go_sem] theorem zqf (n j:Nat):(n+j+1+1=n)=False:=eq_false (by omega)
@[go_sem] theorem zqg (n j:Nat):(n=n+j+1+1+1)=False:=eq_false (by omega)
@[go_sem] theorem zqh (n j:Nat):(n+j+1+1+1=n)=False:=eq_false (by omega)
@[go_sem] theorem zqi (n j:Nat):(n=n+j+1+1+1+1)=False:=eq_false (by omega)
@[go_sem] theorem zqj (n j:Nat):(n+j+1+1+1+1=n)=False:=eq_false (by omega)
@[go_sem] theorem zqk (n j:Nat):(n=n+j+1+1+1+1+1)=False:=eq_false (by omega)
@[go_sem] theorem zql (n j:Nat):(n+j+1+1+1+1+1=n)=False:=eq_false (by omega)
@[go_sem] theorem zqm (n j:Nat):(n=n+j+1+1+1+1+1+1)=False:=eq_false (by omega)
@[go_sem] theorem zqn (n j:Nat):(n+j+1+1+1+1+1+1=n)=False:=eq_false (by omega)
@[go_sem] theorem zqo (n j:Nat):(n=n+j+1+1+1+1+1+1+1)=False:=eq_false (by omega)
@[go_sem] theorem zqp (n j:Nat):(n+j+1+1+1+1+1+1+1=n)=False:=eq_false (by omega)
@[go_sem] theorem zqq (n j:Nat):(n=n+j+1+1+1+1+1+1+1+1)=False:=eq_false (by omega)
@[go_sem] theorem zqr (n j:Nat):(n+j+1+1+1+1+1+1+1+1=n)=False:=eq_false (by omega)
@[go_sem] theorem zqs (n j:Nat):(n=n+j+1+1+1+1+1+1+1+1+1)=False:=eq_false (by omega)
@[go_sem] theorem zqt (n j:Nat):(n+j+1+1+1+1+1+1+1+1+1=n)=False:=eq_false (by omega)
@[go_sem] theorem zo3 (n j:Nat):(n=n+j+1+1+1+1+1+1+1+1+1+1)=False:=eq_false (by omega)
@[go_sem] theorem zo4 (n j:Nat):(n+j+1+1+1+1+1+1+1+1+1+1=n)=False:=eq_false (by omega)
@[go_sem] theorem zo5 (n j:Nat):(n=n+j+1+1+1+1+1+1+1+1+1+1+1)=False:=eq_false (by omega)
@[go_sem] theorem zo6 (n j:Nat):(n+j+1+1+1+1+1+1+1+1+1+1+1=n)=False:=eq_false (by omega)
@[go_sem] theorem zo7 (n j:Nat):(n=n+j+1+1+1+1+1+1+1+1+1+1+1+1)=False:=eq_false (by omega)
@[go_sem] theorem zo8 (n j:Nat):(n+j+1+1+1+1+1+1+1+1+1+1+1+1=n)=False:=eq_false (by omega)
theorem Z0 {P:Program} {x y:Code} {Q:Exit->St->Prop} {σ:St} (σ':St) (h:Tr P x (zSb (fun σ=>Weaker σ σ') Q) σ) (hy:Tr P y Q σ'):Tr P (.seq x y) Q σ :=
 W7_ (h.mono fun e σ'' hq=>by
  cases e with
  | normal=>exact Tr.weaken hq hy
  | _=>exact hq)
theorem D8 {P:Program} {T:Tab} {Q:Exit → St → Prop} (hT : J9 P T) {id : Nat} {l : List Oper} {y : Code} {N k : Nat} {t : List (Nat × V)} {H : A8} (hN : R8 l N = true) (σ' : St)
    (h:vcL T P l N l (fun σ=>Weaker σ σ') t H k) (hy:Tr P y Q σ'):Tr P (.seq (.region id l.toArray false) y) Q ⟨N,t,H,k⟩ :=
  V5_ hT hN fun K hK=>Y4_ h fun σ hw=>hK _ (Tr.weaken hw hy)
theorem Q6 {P:Program} {T:Tab} {Q:Exit → St → Prop} (hT : J9 P T) (hm : P.follows .mixedOrders = true) {id : Nat} {l : List Oper} {y : Code} {N k : Nat} {t : List (Nat × V)} {H : A8} (m : Nat) (tbl : List (List Nat)) (prs : List (Nat × Nat)) (hN : R8 l N = true) (hd : YY_ l tbl m = true) (hp : ZB_ l tbl prs m = true) (σ' : St)
    (h:vcD T P l N k (l.take m) (fun t' H' lg=>Wz_ prs lg/\vcL T P l N (l.drop m) (fun σ=>Weaker σ σ') t' H' (k+m)) t H []) (hy:Tr P y Q σ'):Tr P (.seq (.region id l.toArray true) y) Q ⟨N,t,H,k⟩ :=
  S8 hT hm m tbl prs hN hd hp fun K hK=>UD_ h fun t' H' lg hc=>⟨hc.1,Y4_ hc.2 fun σ hw=>hK _ (Tr.weaken hw hy)⟩
end
section
variable {S:List Nat} {H:A8} {d:Nat}
variable {cs:List V} {i j len:Nat}
@[go_sem] theorem zo9 {n q:Nat}:frz S H (d+1) (.sl n q len)=if n∈S then .sl n q len else (match look n H with|some (.rows sz es)=>if q+len<=es.length then .ro sz (((es.drop q).take len).map (Q5 (frz S H d))) else .sl n q len|_=>.sl n q len):=by rw [frz]
@[go_sem] theorem zmk {n:Nat}:frz S H (d+1) (.ptr n i j)=if n∈S then .ptr n i j else (match look n H with|some (.rows _ es)=>if i<es.length then .rp ((es.getD i .any).cells.map (frz S H d)) j else .ptr n i j|_=>.ptr n i j):=by rw [frz]
@[go_sem] theorem zix:frz S H (d+1) (.agg cs)=.agg (cs.map (frz S H d)):=by rw [frz]
@[go_sem] theorem zml:frz S H (d+1) (.tup cs)=.tup (cs.map (frz S H d)):=by rw [frz]
@[go_sem] theorem UF_ {v:Value}:frz S H d (.val v)=.val v:=by cases d<;>simp [frz]
@[go_sem] theorem zmm:frz S H d .any=.any:=by cases d<;>simp [frz]
@[go_sem] theorem zoa {sz:Nat} {es:List V}:frz S H d (.ro sz es)=.ro sz es:=by cases d<;>simp [frz]
@[go_sem] theorem zob:frz S H d (.rp cs j)=.rp cs j:=by cases d<;>simp [frz]
@[go_sem] theorem zmn {n:Nat}:frz S H d (.map n)=.map n:=by cases d<;>simp [frz]
@[go_sem] theorem zoc {f:Go.Fn} {fs:List V}:frz S H d (.fn f fs cs)=.fn f fs cs:=by cases d<;>simp [frz]
@[go_sem] theorem zmo {n z:Nat}:frz S H (d+1) (.sub n i j z len)=if n∈S\/z≠1 then .sub n i j z len else (match look n H with|some (.rows _ es)=>if i<es.length/\j+len<=(es.getD i .any).cells.length then .ro 1 ((((es.getD i .any).cells.drop j).take len).map (frz S H d)) else .sub n i j z len|_=>.sub n i j z len):=by rw [frz]
end
attribute [go_sem] Y5_ zIa U9_ UE_ Q5 V.isAny
variable {cs es:List V} {f:Go.Fn} {i j l q z:Nat} {u:V}
@[go_sem] theorem zqu {x:Value}:V.one (.val x)=true:=rfl
@[go_sem] theorem zqv {n:Nat}:V.one (.ptr n i j)=true:=rfl
@[go_sem] theorem zqw {n:Nat}:V.one (.sl n i j)=true:=rfl
@[go_sem] theorem zqx {n:Nat}:V.one (.sub n i j z l)=true:=rfl
@[go_sem] theorem zqy {n:Nat}:V.one (.ro n es)=true:=rfl
@[go_sem] theorem zqz {n:Nat}:V.one (.rp es n)=true:=rfl
@[go_sem] theorem zr0 {n:Nat}:V.one (.map n)=true:=rfl
@[go_sem] theorem zr1:V.one (.fn f es cs)=true:=rfl
@[go_sem] theorem zr2 {x:Value}:B2 (.val x) q u=u:=rfl
@[go_sem] theorem zr3 {n:Nat}:B2 (.ptr n i j) q u=u:=rfl
@[go_sem] theorem zr4 {n:Nat}:B2 (.sl n i j) q u=u:=rfl
@[go_sem] theorem zr5 {n:Nat}:B2 (.sub n i j z l) q u=u:=rfl
@[go_sem] theorem zr6 {n:Nat}:B2 (.ro n es) q u=u:=rfl
@[go_sem] theorem zr7 {n:Nat}:B2 (.rp es n) q u=u:=rfl
@[go_sem] theorem zr8 {n:Nat}:B2 (.map n) q u=u:=rfl
@[go_sem] theorem zr9:B2 (.fn f es cs) q u=u:=rfl
@[go_sem] theorem zra:B2 .any q u=u:=rfl
@[go_sem low] theorem ziy (sz:Nat) (v:V):v.fits sz=(v.cells.length==sz&&v.cells.all V.one):=rfl
@[go_sem low] theorem zmp (cs:List V) (j:Nat) (u:V):B2 (.agg cs) j u=.agg (splice cs j u.cells):=rfl
@[go_sem low] theorem zbo (cs us:List V) (o:Nat):splice cs o us=cs.take o++(us++cs.drop (o+us.length)):=rfl
@[go_sem low] theorem zmq (j n:Nat) (cs:List V):cut j n cs=(cs.drop j).take n:=rfl
@[go_sem low] theorem zev (d:D) (n b:Nat) (z:List Value):TI.zeroV ⟨d,n,b,z⟩=if TI.agg ⟨d,n,b,z⟩ then .agg (z.map .val) else (z.map V.val).headD .any:=rfl
end Go.Sl
namespace Go.Proofs.YtmpbalepefpllaaGreat
open Go Go.Sl
abbrev iV (n:Int):V:=.val (.int .i64 n)
abbrev uV (n:Int):V:=.val (.int .u64 n)
abbrev bV (b:Bool):V:=.val (.bool b)
structure Ins where
 op:Int
 rd:Int
 loc:Int
 aR:Bool
 aN:Int
 bR:Bool
 bN:Int
 acq:Bool
 rel:Bool
 dep:Int
 pred:Int
 succ:Int
 skip:Int
def Ins.cs (x:Ins):List V:=[iV x.op,iV x.rd,iV x.loc,bV x.aR,uV x.aN,bV x.bR,uV x.bN,bV x.acq,bV x.rel,iV x.dep,iV x.pred,iV x.succ,iV x.skip]
def B5 (x:Ins):V:=.agg x.cs
structure Ini where
 name:ByteArray
 v:Int
def Ini.cs (x:Ini):List V:=[.val (.string x.name),uV x.v]
def Wp_ (x:Ini):V:=.agg x.cs
structure Atm where
 th:Int
 at_:Int
 v:Int
def Atm.cs (x:Atm):List V:=[iV x.th,iV x.at_,uV x.v]
def y4 (x:Atm):V:=.agg x.cs
structure Tst where
 locs:List Ini
 ths:List (List Ins)
 asks:List Atm
def Y1 (l:List Ins):List V:=l.map B5
def Z1 (l:List Ini):List V:=l.map Wp_
def W0_ (l:List Atm):List V:=l.map y4
def O3 (l:List (List Ins)):List V:=l.map fun x=>.ro 13 (Y1 x)
def Tst.cs (t:Tst):List V:=[.ro 2 (Z1 t.locs),.ro 1 (O3 t.ths),.ro 3 (W0_ t.asks)]
theorem y5 (x:Ins):NLs x.cs:=by
 unfold Ins.cs
 exact .cons (.val _) (.cons (.val _) (.cons (.val _) (.cons (.val _) (.cons (.val _) (.cons (.val _) (.cons (.val _) (.cons (.val _) (.cons (.val _) (.cons (.val _) (.cons (.val _) (.cons (.val _) (.cons (.val _) .nil))))))))))))
theorem p6 (x:Ins):NL (B5 x):=.agg (y5 x)
theorem zCt (x:Atm):NLs x.cs:=by unfold Atm.cs;exact .cons (.val _) (.cons (.val _) (.cons (.val _) .nil))
theorem zAg (x:Atm):NL (y4 x):=.agg (zCt x)
theorem zIb (x:Ini):NLs x.cs:=by unfold Ini.cs;exact .cons (.val _) (.cons (.val _) .nil)
theorem zIc (l:List Ins):NL (.ro 13 (Y1 l)):=.ro fun v hv=>by
 obtain ⟨a,_,rfl⟩:=List.mem_map.1 hv
 exact y5 a
theorem zId (l:List Ini):NL (.ro 2 (Z1 l)):=.ro fun v hv=>by
 obtain ⟨a,_,rfl⟩:=List.mem_map.1 hv
 exact zIb a
theorem zWn (l:List Atm):NL (.ro 3 (W0_ l)):=.ro fun v hv=>by
 obtain ⟨a,_,rfl⟩:=List.mem_map.1 hv
 exact zCt a
theorem zIe (l:List (List Ins)):NL (.ro 1 (O3 l)):=.ro fun v hv=>by
 obtain ⟨a,_,rfl⟩:=List.mem_map.1 hv
 exact .cons (zIc a) .nil
theorem Yb_ (t:Tst):NLs t.cs:=.cons (zId _) (.cons (zIe _) (.cons (zWn _) .nil))
theorem x5 (t:Tst):NL (.rp t.cs 0):=.rp (Yb_ t)
theorem zWo (a b:Bool):NL (.agg [bV a,bV b]):=.agg (.cons (.val _) (.cons (.val _) .nil))
@[go_sem] theorem ziz (l:List Ins):(Y1 l).length=l.length:=length_map ..
@[go_sem] theorem zj0 (l:List Ini):(Z1 l).length=l.length:=length_map ..
@[go_sem] theorem zj1 (l:List Atm):(W0_ l).length=l.length:=length_map ..
@[go_sem] theorem zOz (l:List (List Ins)):(O3 l).length=l.length:=length_map ..
@[go_sem] theorem zj2 (l:List Ins) (i:Nat) (h:i<(Y1 l).length):(Y1 l)[i]=B5 (l[i]'(by simpa [Y1] using h)):=by simp [Y1]
@[go_sem] theorem zj3 (l:List Ini) (i:Nat) (h:i<(Z1 l).length):(Z1 l)[i]=Wp_ (l[i]'(by simpa [Z1] using h)):=by simp [Z1]
@[go_sem] theorem zj4 (l:List Atm) (i:Nat) (h:i<(W0_ l).length):(W0_ l)[i]=y4 (l[i]'(by simpa [W0_] using h)):=by simp [W0_]
@[go_sem] theorem zj5 (l:List (List Ins)) (i:Nat) (h:i<(O3 l).length):(O3 l)[i]=.ro 13 (Y1 (l[i]'(by simpa [O3] using h))):=by simp [O3]
theorem E0 {α:Type} {l:List α} {i:Nat} (h:i<l.length):∃ x,l[i]?=some x/\l[i]=x:=⟨_,List.getElem?_eq_getElem h,rfl⟩
theorem N6 {α:Type} {l:List α} {i:Nat} {x:α} (h:l[i]?=some x):l.take (i+1)=l.take i++[x]:=by
 rw [take_add_one,h];rfl
def rdB (op:Int):Bool:=decide (op=9)||decide (op=13)||decide (op=11)||decide (op=12)
def wrB (op:Int):Bool:=decide (op=10)||decide (op=14)||decide (op=11)||decide (op=12)
def G4 (op:Int):Bool:=rdB op||wrB op
def Xq_ (op:Int):Bool:=decide (op>=1)&&(decide (op<=14)&&decide (op≠10))
def Yq_ (r:Bool) (n:Int):Bool:=!r||decide (n<8)
def p7 (a b:Atm):Bool:=if a.th≠b.th then decide (b.th<0)||(decide (a.th>=0)&&decide (a.th<b.th)) else decide (a.at_<b.at_)
def p8 (t:Tst) (a:Atm):Int:=if 0<=a.th then 8 else (t.locs.length:Int)
def Z2 (t:Tst) (a:Atm):Bool:=decide (a.th < -1)||(decide ((t.ths.length:Int)<=a.th)||(decide (a.at_<0)||decide (p8 t a<=a.at_)))
def Zd_ (t:Tst) (a:Atm):Int:=if Z2 t a then 11 else 0
def evt (x:Ins):Nat:=(rdB x.op).toNat+(wrB x.op).toNat
def evL (l:List Ins):Nat:=(l.map evt).sum
def I6 (l:List (List Ins)):Nat:=(l.map evL).sum
variable {b i:Nat} {kd:IntKind} {s:ByteArray} {α:Type}
theorem zCu {l:List Ins} {x:Ins} (h:l[i]?=some x):evL (l.take (i+1))=evL (l.take i)+evt x:=by
 simp [evL,N6 h]
theorem Xr_ {l:List (List Ins)} {x:List Ins} (h:l[i]?=some x):I6 (l.take (i+1))=I6 (l.take i)+evL x:=by
 simp [I6,N6 h]
theorem zCv (f:α->Nat) (l:List α) (i:Nat):((l.take i).map f).sum<=(l.map f).sum:=by
 conv=>rhs;rw [<-take_append_drop i l]
 rw [map_append,sum_append];omega
theorem zIf {l:List (List Ins)} {x:List Ins} (h:l[i]?=some x) {j:Nat} {y:Ins} (hy:x[j]?=some y):I6 (l.take i)+evL (x.take j)+evt y<=I6 l:=by
 have h1:I6 (l.take (i+1))<=I6 l:=zCv evL l (i+1)
 have h2:evL (x.take (j+1))<=evL x:=zCv evt x (j+1)
 rw [Xr_ h] at h1
 rw [zCu hy] at h2
 omega
def evP (t:List (List Ins)) (i:Nat) (l:List Ins) (b:Nat):Nat:=I6 (t.take i)+evL (l.take b)
theorem zP0 (t:List (List Ins)) (i:Nat) (l:List Ins):evP t i l 0=I6 (t.take i):=by simp [evP,evL]
theorem zCw {t:List (List Ins)} {l:List Ins} {x:Ins} (h:l[b]?=some x):evP t i l (b+1)=evP t i l b+(rdB x.op).toNat+(wrB x.op).toNat:=by unfold evP;rw [zCu h];unfold evt;omega
theorem zWp {t:List (List Ins)} {l:List Ins} (h:t[i]?=some l):evP t i l l.length=I6 (t.take (i+1)):=by unfold evP;rw [take_length,Xr_ h]
theorem zew {t:List (List Ins)} {l:List Ins} {x:Ins} (h:t[i]?=some l) (hx:l[b]?=some x):evP t i l b+(rdB x.op).toNat+(wrB x.op).toNat<=I6 t:=by have:=zIf h hx;unfold evt at this;unfold evP;omega
theorem zex (x:Ins):evt x<=2:=by unfold evt;cases rdB x.op<;>cases wrB x.op<;>simp
theorem zWq (l:List Ins):evL l<=2*l.length:=by
 induction l with
 | nil=>simp [evL]
 | cons x l ih =>
  have:=zex x
  have e:evL (x::l)=evt x+evL l:=by simp [evL]
  rw [e,length_cons];omega
theorem zFp {n:Nat} (l:List (List Ins)) (h:∀ x∈l,x.length<=n):I6 l<=2*n*l.length:=by
 induction l with
 | nil=>simp [I6]
 | cons x l ih =>
  have h1:=ih fun y hy=>h y (by simp [hy])
  have h2:=zWq x
  have h3:=h x (by simp)
  have e:I6 (x::l)=evL x+I6 l:=by simp [I6]
  rw [e,length_cons,Nat.mul_add];omega
def Qh_ (t:Tst):Bool:=decide ((4:Int)<(t.ths.length:Nat))||(decide ((8:Int)<(t.locs.length:Nat))||decide ((40:Int)<(t.asks.length:Nat)))
def U6 (t:Tst):Int :=
 if t.ths=[] then 15 else if Qh_ t=true then 12 else if ¬ (∀ x∈t.ths,x.length<=8) then 12 else if 8<I6 t.ths then 12 else 0
def fe {α:Type} (f:Nat->α->Int):Nat->List α->Int
 | _,[]=>0
 | i,x::l=>if f i x≠0 then f i x else fe f (i+1) l
theorem VK_ {α:Type} {f:Nat->α->Int} {l:List α} {i:Nat} {x:α} (h:l[i]?=some x) (hf:f i x≠0):fe f i (l.drop i)=f i x:=by
 have hlt:=(List.getElem?_eq_some_iff.1 h).1
 have e:l[i]=x:=(List.getElem?_eq_some_iff.1 h).2
 rw [drop_eq_getElem_cons hlt,e,fe,if_pos hf]
theorem UG_ {α:Type} {f:Nat->α->Int} {l:List α} {i:Nat} {x:α} (h:l[i]?=some x) (hf:f i x=0):fe f i (l.drop i)=fe f (i+1) (l.drop (i+1)):=by
 have hlt:=(List.getElem?_eq_some_iff.1 h).1
 have e:l[i]=x:=(List.getElem?_eq_some_iff.1 h).2
 rw [drop_eq_getElem_cons hlt,e,fe,if_neg (by simp [hf])]
theorem zCx {α:Type} {f:Nat->α->Int} {l:List α}:fe f l.length (l.drop l.length)=0:=by rw [drop_length];rfl
theorem Z7_ {α:Type} {f:Nat->α->Int}:∀ (l:List α) (i:Nat),fe f i l=0↔∀ (j:Nat) (x:α),l[j]?=some x->f (i+j) x=0
 | [],i=>by simp [fe]
 | x::l,i=>by
  rw [fe]
  constructor
  .intro h j y hj
   split at h
   .rename_i h1;exact absurd h h1
   rename_i h1
   cases j with
   | zero=>simp at hj;subst hj;simpa using h1
   | succ j =>
    have:=(Z7_ l (i+1)).1 h j y (by simpa using hj)
    rw [show i+(j+1)=i+1+j by omega];exact this
  intro h
  have h0:=h 0 x rfl
  rw [Nat.add_zero] at h0
  rw [if_neg (by simp [h0])]
  exact (Z7_ l (i+1)).2 fun j y hj=>by
   have:=h (j+1) y (by simpa using hj)
   rw [show i+(j+1)=i+1+j by omega] at this;exact this
def chI (s:ByteArray) (i:Nat):Int:=((s.data.toList.getD i 0).toNat:Int)
@[go_sem high] theorem zbp {T:Tab} {K:V->Prop} (h:i<s.size):X0 T .string (.val (.string s)) (.val (.int kd (i:Int))) K=K (.val (.int .u8 (chI s i))):=by
 simp [X0,chI,h]
@[go_sem high] theorem zWr {T:Tab} {K:V->Prop} (h:0<s.size):X0 T .string (.val (.string s)) (.val (.int kd 0)) K=K (.val (.int .u8 (chI s 0))):=by
 simp [X0,chI,h]
@[go_sem high] theorem zWs {T:Tab} {K:V->Prop} (h:1<s.size):X0 T .string (.val (.string s)) (.val (.int kd 1)) K=K (.val (.int .u8 (chI s 1))):=by
 have h':(1:Int)<(s.size:Int):=by omega
 simp [X0,chI,h']
def okC (i:Nat) (c:Int):Bool:=decide (97<=c)&&decide (c<=122)||decide (0<i)&&(decide (48<=c)&&decide (c<=57))
def zWt (s:ByteArray):Nat->Bool
 | 0=>true
 | i+1=>zWt s i&&okC i (chI s i)
theorem zP1 {n:Nat} (h:i<n) (hc:okC i (chI s i)=false):zWt s n=false:=by
 induction n with
 | zero=>omega
 | succ n ih =>
  simp only [zWt]
  by_cases e:i=n
  .subst e;rw [hc,Bool.and_false]
  rw [ih (by omega),Bool.false_and]
def zbq (s:ByteArray):Bool:=decide (s.size=2)&&(decide (chI s 0=114)&&decide (chI s 1<=57))
def nmB (s:ByteArray):Bool:=zWt s s.size&&(!zbq s&&(decide (s.size≠0)&&decide (s.size<=16)))
open Go.Proofs.Tryz
theorem p9 (x:Ins):Pf Tryz.prog 50 [B5 x] (.agg [bV (rdB x.op),bV (wrB x.op)]):=by
 refine Pf.of_fn (.cons (p6 x) .nil) (zWo _ _) ?_
 refine B7 T_ok func50 rfl rfl ntmps50 rfl (by simp) ?_
 refine rG ?_ fun K h=>by simp [go_sem,B5,Ins.cs];exact h
 refine A3 fun K1 hK1=>?_
 refine rG ?_ fun K h=>by simp [go_sem,B5,Ins.cs];exact h
 apply A0
 refine A3 fun K2 hK2=>?_
 refine rG ?_
 refine cK (fun h=>?_) fun h=>?_
 .simp at h
  have h9:=h
  clear h
  apply A1
  apply hK2
  refine cJ (fun h=>?_) fun h=>?_
  .simp at h
   exact absurd h9 h
  clear h
  refine rG ?_
  refine A4 ?_
  simp [go_sem,rdB,wrB,h9]
 simp at h
 have h9:=h
 clear h
 refine rF ?_
 apply hK2
 refine cK (fun h=>?_) fun h=>?_
 .simp at h
  have h13:=h
  clear h
  refine rG ?_
  refine A4 ?_
  simp [go_sem,rdB,wrB,h13]
 simp at h
 have h13:=h
 clear h
 refine A3 fun K3 hK3=>?_
 refine rG ?_
 refine cK (fun h=>?_) fun h=>?_
 .simp at h
  have h10:=h
  clear h
  apply A1
  apply hK3
  refine cJ (fun h=>?_) fun h=>?_
  .simp at h
   exact absurd h10 h
  clear h
  refine rG ?_
  refine A4 ?_
  simp [go_sem,rdB,wrB,h9,h13,h10]
 simp at h
 have h10:=h
 clear h
 refine rF ?_
 apply hK3
 refine cK (fun h=>?_) fun h=>?_
 .simp at h
  have h14:=h
  clear h
  refine rG ?_
  refine A4 ?_
  simp [go_sem,rdB,wrB,h9,h13,h14]
 simp at h
 have h14:=h
 clear h
 refine A3 fun K4 hK4=>?_
 refine rG ?_
 refine cK (fun h=>?_) fun h=>?_
 .simp at h
  have h11:=h
  clear h
  apply A1
  apply hK4
  refine cJ (fun h=>?_) fun h=>?_
  .simp at h
   exact absurd h11 h
  clear h
  refine rG ?_
  refine A4 ?_
  simp [go_sem,rdB,wrB,h9,h13,h10,h14,h11]
 simp at h
 have h11:=h
 clear h
 refine rF ?_
 apply hK4
 refine cK (fun h=>?_) fun h=>?_
 .simp at h
  have h12:=h
  clear h
  refine rG ?_
  refine A4 ?_
  simp [go_sem,rdB,wrB,h9,h13,h10,h14,h12]
 simp at h
 have h12:=h
 clear h
 apply A1
 apply hK1
 refine rG ?_
 refine A4 ?_
 simp [go_sem,rdB,wrB,h9,h13,h10,h14,h11,h12]
theorem P0 (x:Ins):Pf Tryz.prog 69 [B5 x] (bV (G4 x.op)):=by
 refine Pf.of_fn (.cons (p6 x) .nil) (.val _) ?_
 refine B7 T_ok func69 rfl rfl ntmps69 rfl (by simp) ?_
 refine rG ?_ fun K h=>by simp [go_sem,B5,Ins.cs];exact h
 refine rK fun K hK=>?_
 simp [go_sem,B5,Ins.cs]
 refine A2 (p9 x) ?_
 simp [go_sem]
 apply hK
 refine A4 ?_
 simp [go_sem,G4]
 try (cases rdB x.op<;>cases wrB x.op<;>rfl)
theorem zIg (x:Ins):Pf Tryz.prog 152 [B5 x] (bV (Xq_ x.op)):=by
 refine Pf.of_fn (.cons (p6 x) .nil) (.val _) ?_
 refine B7 T_ok func152 rfl rfl ntmps152 rfl (by simp) ?_
 refine rG ?_ fun K h=>by simp [go_sem,B5,Ins.cs];exact h
 refine D8 T_ok (by decide) ⟨16,[(2,bV (Xq_ x.op))],[],1⟩ ?_ ?_
 .by_cases c1:1<=x.op
  .by_cases c2:x.op<=14
   .by_cases c3:x.op=10
    .simp [go_sem,c1,c2,c3,B5,Ins.cs]
     refine Weaker.fw 1 0 ?_ ?_<;>simp [go_sem,c1,c2,c3,Xq_]
    simp [go_sem,c1,c2,c3,B5,Ins.cs]
    refine Weaker.fw 1 0 ?_ ?_<;>simp [go_sem,c1,c2,c3,Xq_]
   simp [go_sem,c1,c2,B5,Ins.cs]
   refine Weaker.fw 1 0 ?_ ?_<;>simp [go_sem,c1,c2,Xq_]
  simp [go_sem,c1,B5,Ins.cs]
  refine Weaker.fw 1 0 ?_ ?_<;>simp [go_sem,c1,Xq_]
 skip
 refine A4 ?_
 simp [go_sem]
theorem N3 (r:Bool) (n:Int):Pf Tryz.prog 157 [.agg [bV r,uV n]] (bV (Yq_ r n)):=by
 refine Pf.of_fn (.cons (.agg (.cons (.val _) (.cons (.val _) .nil))) .nil) (.val _) ?_
 refine B7 T_ok func157 rfl rfl ntmps157 rfl (by simp) ?_
 refine rG ?_
 refine D8 T_ok (by decide) ⟨11,[(2,bV (Yq_ r n))],[],1⟩ ?_ ?_
 .by_cases c1:r=true
  .simp [go_sem,c1]
   refine Weaker.fw 1 0 ?_ ?_<;>simp [go_sem,c1,Yq_]
  simp [go_sem,c1]
  refine Weaker.fw 1 0 ?_ ?_<;>simp [go_sem,c1,Yq_]
 skip
 refine A4 ?_
 simp [go_sem]
theorem zIh (a b:Atm):Pf Tryz.prog 125 [y4 a,y4 b] (bV (p7 a b)):=by
 refine Pf.of_fn (.cons (zAg a) (.cons (zAg b) .nil)) (.val _) ?_
 refine B7 T_ok func125 rfl rfl ntmps125 rfl (by simp) ?_
 refine rG ?_ fun K h=>by simp [go_sem,y4,Atm.cs];exact h
 refine A3 fun K1 hK1=>?_
 refine rG ?_ fun K h=>by simp [go_sem,y4,Atm.cs];exact h
 refine cJ (fun h=>?_) fun h=>?_
 .simp at h
  have hne:=h
  apply A1
  apply hK1
  refine rG ?_ fun K h=>by simp [go_sem,y4,Atm.cs];exact h
  refine A4 ?_
  simp [go_sem,p7,hne]
 simp at h
 have hne:=h
 refine D8 T_ok (by decide) ⟨30,[(4,bV (p7 a b))],[],2⟩ ?_ ?_
 .by_cases c1:b.th<0
  .simp [go_sem,c1,y4,Atm.cs]
   refine Weaker.fw 1 0 ?_ ?_<;>simp [go_sem,c1,p7,hne]
  by_cases c2:0<=a.th
  .by_cases c3:a.th<b.th
   .simp [go_sem,c1,c2,c3,y4,Atm.cs]
    refine Weaker.fw 1 0 ?_ ?_<;>simp [go_sem,c1,c2,c3,p7,hne]
   simp [go_sem,c1,c2,c3,y4,Atm.cs]
   refine Weaker.fw 1 0 ?_ ?_<;>simp [go_sem,c1,c2,c3,p7,hne]
  simp [go_sem,c1,c2,y4,Atm.cs]
  refine Weaker.fw 1 0 ?_ ?_<;>simp [go_sem,c1,c2,p7,hne]
 skip
 refine A4 ?_
 simp [go_sem]
theorem zAh (t:Tst) (a:Atm):Pf Tryz.prog 124 [.rp t.cs 0,y4 a] (iV (Zd_ t a)):=by
 refine Pf.of_fn (.cons (x5 t) (.cons (zAg a) .nil)) (.val _) ?_
 refine B7 T_ok func124 rfl rfl ntmps124 rfl (by simp) ?_
 refine rG ?_ fun K h=>by simp [go_sem,y4,Atm.cs,Tst.cs];exact h
 refine rG ?_ fun K h=>by simp [go_sem,y4,Atm.cs,Tst.cs];exact h
 refine A3 fun K1 hK1=>?_
 refine rG ?_ fun K h=>by simp [go_sem,y4,Atm.cs,Tst.cs];exact h
 refine cK (fun h=>?_) fun h=>?_
 .simp at h
  have hth:=h
  refine rF ?_
  apply hK1
  refine A3 fun K2 hK2=>?_
  refine Q6 T_ok (by kernel_rfl) 22 [[],[0],[0,1],[0,1,2],[0,1,2,3],[0,1,2,3,4],[0,1,2,3],[0,1,2,3,6],[0,1,2,3,6,7],[0,1,2,3,6,7,8],[0,1,2,3,6,7,8,9],[0,1,2,3,4,5,6,7,8,9,10],[0,1,2,3,4,5,6,7,8,9,10,11],[0,1,2,3,4,5,6,7,8,9,10,11,12],[0,1,2,3,4,5,6,7,8,9,10,11,12,13],[0,1,2,3,4,5,6,7,8,9,10,11,12,13,14],[0,1,2,3,4,5,6,7,8,9,10,11,12,13,14,15],[0,1,2,3,4,5,6,7,8,9,10,11,12,13,14,15,16],[0,1,2,3,4,5,6,7,8,9,10,11,12,13,14,15,16,17],[0,1,2,3,4,5,6,7,8,9,10,11,12,13,14,15,16,17,18],[0,1,2,3,4,5,6,7,8,9,10,11,12,13,14,15,16,17,18,19],[0,1,2,3,4,5,6,7,8,9,10,11,12,13,14,15,16,17,18],[0,1,2,3,4,5,6,7,8,9,10,11,12,13,14,15,16,17,18,19,20,21],[0,1,2,3,4,5,6,7,8,9,10,11,12,13,14,15,16,17,18,19,20,21,22]] [] (by decide) (by decide) (by decide) ⟨38,[(37,bV (Z2 t a))],[],23⟩ ?_ ?_
  .first|dsimp only [List.take,List.drop]|dsimp [List.take,List.drop]
   by_cases c1:a.th < -1
   .simp [go_sem,c1,y4,Atm.cs,Tst.cs]
    refine Weaker.fw 1 0 ?_ ?_<;>simp [go_sem,c1,Z2,p8,hth]
   by_cases c2:(t.ths.length:Int)<=a.th
   .simp [go_sem,c1,c2,y4,Atm.cs,Tst.cs]
    refine Weaker.fw 1 0 ?_ ?_<;>simp [go_sem,c1,c2,Z2,p8,hth]
   by_cases c3:a.at_<0
   .simp [go_sem,c1,c2,c3,y4,Atm.cs,Tst.cs]
    refine Weaker.fw 1 0 ?_ ?_<;>simp [go_sem,c1,c2,c3,Z2,p8,hth]
   by_cases c4:8<=a.at_
   .simp [go_sem,c1,c2,c3,c4,y4,Atm.cs,Tst.cs]
    refine Weaker.fw 1 0 ?_ ?_<;>simp [go_sem,c1,c2,c3,c4,Z2,p8,hth]
   simp [go_sem,c1,c2,c3,c4,y4,Atm.cs,Tst.cs]
   refine Weaker.fw 1 0 ?_ ?_<;>simp [go_sem,c1,c2,c3,c4,Z2,p8,hth]
  skip
  refine cK (fun h=>?_) fun h=>?_
  .have hb:=h
   refine rG ?_
   refine A4 ?_
   simp [go_sem,Zd_,hb]
  have hb:=h
  apply A1
  apply hK2
  refine rG ?_
  refine A4 ?_
  simp [go_sem,Zd_,hb]
 simp at h
 have hth:¬ 0<=a.th:=by omega
 apply A1
 apply hK1
 refine A3 fun K3 hK3=>?_
 refine Q6 T_ok (by kernel_rfl) 22 [[],[0],[0,1],[0,1,2],[0,1,2,3],[0,1,2,3,4],[0,1,2,3],[0,1,2,3,6],[0,1,2,3,6,7],[0,1,2,3,6,7,8],[0,1,2,3,6,7,8,9],[0,1,2,3,4,5,6,7,8,9,10],[0,1,2,3,4,5,6,7,8,9,10,11],[0,1,2,3,4,5,6,7,8,9,10,11,12],[0,1,2,3,4,5,6,7,8,9,10,11,12,13],[0,1,2,3,4,5,6,7,8,9,10,11,12,13,14],[0,1,2,3,4,5,6,7,8,9,10,11,12,13,14,15],[0,1,2,3,4,5,6,7,8,9,10,11,12,13,14,15,16],[0,1,2,3,4,5,6,7,8,9,10,11,12,13,14,15,16,17],[0,1,2,3,4,5,6,7,8,9,10,11,12,13,14,15,16,17,18],[0,1,2,3,4,5,6,7,8,9,10,11,12,13,14,15,16,17,18,19],[0,1,2,3,4,5,6,7,8,9,10,11,12,13,14,15,16,17,18],[0,1,2,3,4,5,6,7,8,9,10,11,12,13,14,15,16,17,18,19,20,21],[0,1,2,3,4,5,6,7,8,9,10,11,12,13,14,15,16,17,18,19,20,21,22]] [] (by decide) (by decide) (by decide) ⟨38,[(37,bV (Z2 t a))],[],23⟩ ?_ ?_
 .first|dsimp only [List.take,List.drop]|dsimp [List.take,List.drop]
  by_cases c1:a.th < -1
  .simp [go_sem,c1,y4,Atm.cs,Tst.cs]
   refine Weaker.fw 1 0 ?_ ?_<;>simp [go_sem,c1,Z2,p8,hth]
  by_cases c2:(t.ths.length:Int)<=a.th
  .simp [go_sem,c1,c2,y4,Atm.cs,Tst.cs]
   refine Weaker.fw 1 0 ?_ ?_<;>simp [go_sem,c1,c2,Z2,p8,hth]
  by_cases c3:a.at_<0
  .simp [go_sem,c1,c2,c3,y4,Atm.cs,Tst.cs]
   refine Weaker.fw 1 0 ?_ ?_<;>simp [go_sem,c1,c2,c3,Z2,p8,hth]
  by_cases c4:(t.locs.length:Int)<=a.at_
  .simp [go_sem,c1,c2,c3,c4,y4,Atm.cs,Tst.cs]
   refine Weaker.fw 1 0 ?_ ?_<;>simp [go_sem,c1,c2,c3,c4,Z2,p8,hth]
  simp [go_sem,c1,c2,c3,c4,y4,Atm.cs,Tst.cs]
  refine Weaker.fw 1 0 ?_ ?_<;>simp [go_sem,c1,c2,c3,c4,Z2,p8,hth]
 skip
 refine cK (fun h=>?_) fun h=>?_
 .have hb:=h
  refine rG ?_
  refine A4 ?_
  simp [go_sem,Zd_,hb]
 have hb:=h
 apply A1
 apply hK3
 refine rG ?_
 refine A4 ?_
 simp [go_sem,Zd_,hb]
theorem zIi (t:Tst) (ht:t.ths.length<=1000) (hl:∀ x∈t.ths,x.length<=1000) (he:I6 t.ths<=1000000):Pf Tryz.prog 155 [.rp t.cs 0] (iV (I6 t.ths:Nat)):=by
 refine Pf.of_fn (.cons (x5 t) .nil) (.val _) ?_
 refine B7 T_ok func155 rfl rfl ntmps155 rfl (by simp) ?_
 refine rG ?_
 refine rG ?_
 refine A3 fun K1 hK1=>?_
 refine rG ?_ fun K h=>by simp [go_sem,Tst.cs];exact h
 apply A0
 refine A9 (α:=Nat × Nat) (fun a=>⟨37,[(3,iV (I6 (t.ths.take a.1):Nat)),(12,.ro 1 (O3 t.ths)),(13,iV (t.ths.length:Nat)),(14,iV (a.1:Nat))],[],a.2⟩) (fun a=>a.1<=t.ths.length) (fun a=>t.ths.length-a.1) (0,0) ?_ ?_ ?_
 .dsimp only;omega
 .refine Weaker.fw 1 0 ?_ ?_
  .simp [go_sem,I6]
  simp [go_sem]
 rintro ⟨i,j⟩ hi
 dsimp only at hi ⊢
 refine rG ?_
 refine A3 fun K2 hK2=>?_
 refine cJ (fun h=>?_) fun h=>?_
 .simp at h
  obtain rfl:i=t.ths.length:=by omega
  apply A6
  apply hK1
  refine rG ?_
  refine A4 ?_
  simp [go_sem]
 simp at h
 have hI:=h
 clear h
 have h':i<(t.ths).length:=by omega
 obtain ⟨l,hx,hx'⟩:=E0 h'
 have hi0:(0:Int)<=(i:Nat):=by omega
 have hw:=wI i
 have hll:=hl l (List.mem_of_getElem? hx)
 apply A1
 apply hK2
 refine A3 fun K3 hK3=>?_
 apply A0
 refine rG ?_ fun K h=>by simp [go_sem,hI,hx,hx',hi0,h'];exact h
 refine rG ?_ fun K h=>by simp [go_sem,hI,hx,hx',hi0,h'];exact h
 apply A0
 refine A9 (α:=Nat × Nat) (fun b=>⟨37,[(3,iV (evP t.ths i l b.1:Nat)),(12,.ro 1 (O3 t.ths)),(13,iV (t.ths.length:Nat)),(14,iV (i:Nat)),(18,.ro 13 (Y1 l)),(19,iV (l.length:Nat)),(20,iV (b.1:Nat))],[],b.2⟩) (fun b=>b.1<=l.length) (fun b=>l.length-b.1) (0,j) ?_ ?_ ?_
 .dsimp only;omega
 .refine Weaker.fw 1 0 ?_ ?_
  .simp [go_sem,zP0]
  simp [go_sem]
 rintro ⟨b,c⟩ hib
 dsimp only at hib ⊢
 refine rG ?_
 refine A3 fun K4 hK4=>?_
 refine cJ (fun h=>?_) fun h=>?_
 .simp at h
  obtain rfl:b=l.length:=by omega
  apply A6
  apply hK3
  refine rF ?_ fun K h=>by simp [go_sem,hw];exact h
  refine ⟨(i+1,c),?_,?_,?_⟩
  .dsimp only;omega
  .dsimp only;omega
  refine Weaker.fw 1 0 ?_ ?_
  .simp [go_sem,zWp hx]
  simp [go_sem]
 simp at h
 have hIb:=h
 clear h
 have h'b:b<(l).length:=by omega
 obtain ⟨x,hxb,hx'b⟩:=E0 h'b
 have hi0b:(0:Int)<=(b:Nat):=by omega
 have hwb:=wI b
 have hle:=zew hx hxb
 apply A1
 apply hK4
 refine A3 fun K5 hK5=>?_
 apply A0
 refine rG ?_ fun K h=>by simp [go_sem,hIb,hxb,hx'b,hi0b,h'b,B5,Ins.cs];exact h
 refine rK fun K hK=>?_
 simp [go_sem,B5,Ins.cs]
 refine A2 (p9 x) ?_
 simp [go_sem]
 apply hK
 refine Z0 ⟨37,[(3,iV (evP t.ths i l b+(rdB x.op).toNat:Nat)),(8,.ptr (c+1) 0 0),(12,.ro 1 (O3 t.ths)),(13,iV (t.ths.length:Nat)),(14,iV (i:Nat)),(18,.ro 13 (Y1 l)),(19,iV (l.length:Nat)),(20,iV (b:Nat))],[(c+1,.rows 2 [.agg [bV (rdB x.op),bV (wrB x.op)]])],c+2⟩ ?_ ?_
 .skip
  refine rG ?_
  refine cJ (fun h=>?_) fun h=>?_
  .have hr:=h
   have hwr:True:=trivial
   apply A1
   refine Weaker.fy 1 0 ?_ ?_<;>simp [go_sem,hr]
  have hr:=h
  rw [hr] at hle
  simp only [Bool.toNat_true] at hle
  have hwr:IntKind.i64.wrap (((evP t.ths i l b:Nat):Int)+1)=((evP t.ths i l b:Nat):Int)+1:=E4 (by omega) (by omega)
  refine rF ?_ fun K h=>by simp [go_sem,hwr];exact h
  refine Weaker.fy 1 0 ?_ ?_<;>simp [go_sem,hr]
 skip
 refine rG ?_
 refine cJ (fun h=>?_) fun h=>?_
 .have hw2:=h
  apply A1
  apply hK5
  refine rF ?_ fun K h=>by simp [go_sem,hwb];exact h
  refine ⟨(b+1,c+2),?_,?_,?_⟩
  .dsimp only;omega
  .dsimp only;omega
  refine Weaker.fw 1 0 ?_ ?_
  .simp [go_sem,zCw hxb,hw2]
  simp [go_sem]
 have hw2:=h
 rw [hw2] at hle
 simp only [Bool.toNat_true] at hle
 have hwr2:IntKind.i64.wrap (((evP t.ths i l b:Nat):Int)+(((rdB x.op).toNat:Nat):Int)+1)=((evP t.ths i l b:Nat):Int)+(((rdB x.op).toNat:Nat):Int)+1:=E4 (by omega) (by omega)
 refine rF ?_ fun K h=>by simp [go_sem,hwr2];exact h
 apply hK5
 refine rF ?_ fun K h=>by simp [go_sem,hwb];exact h
 refine ⟨(b+1,c+2),?_,?_,?_⟩
 .dsimp only;omega
 .dsimp only;omega
 refine Weaker.fw 1 0 ?_ ?_
 .simp [go_sem,zCw hxb,hw2]
 simp [go_sem]
@[go_sem high] theorem zey (x:Ins):F5 false 1 x.cs 0=iV x.op:=Eq.trans rfl rfl
@[go_sem high] theorem zez (x:Ins):F5 false 1 x.cs 1=iV x.rd:=Eq.trans rfl rfl
@[go_sem high] theorem zf0 (x:Ins):F5 false 1 x.cs 2=iV x.loc:=Eq.trans rfl rfl
@[go_sem high] theorem zf1 (x:Ins):F5 false 1 x.cs 3=bV x.aR:=Eq.trans rfl rfl
@[go_sem high] theorem zf2 (x:Ins):F5 false 1 x.cs 4=uV x.aN:=Eq.trans rfl rfl
@[go_sem high] theorem zf3 (x:Ins):F5 false 1 x.cs 7=bV x.acq:=Eq.trans rfl rfl
@[go_sem high] theorem zf4 (x:Ins):F5 false 1 x.cs 8=bV x.rel:=Eq.trans rfl rfl
@[go_sem high] theorem zf5 (x:Ins):F5 false 1 x.cs 9=iV x.dep:=Eq.trans rfl rfl
@[go_sem high] theorem zbr (x:Ins):F5 false 1 x.cs 10=iV x.pred:=Eq.trans rfl rfl
@[go_sem high] theorem zbs (x:Ins):F5 false 1 x.cs 11=iV x.succ:=Eq.trans rfl rfl
@[go_sem high] theorem zbt (x:Ins):F5 false 1 x.cs 12=iV x.skip:=Eq.trans rfl rfl
@[go_sem high] theorem zf6 (x:Ins):F5 true 2 x.cs 3=.agg [bV x.aR,uV x.aN]:=Eq.trans rfl rfl
@[go_sem high] theorem zf7 (x:Ins):F5 true 2 x.cs 5=.agg [bV x.bR,uV x.bN]:=Eq.trans rfl rfl
@[go_sem high] theorem zf8 (x:Ins):F5 true 13 x.cs 0=.agg x.cs:=Eq.trans rfl rfl
@[go_sem high] theorem zCy (x:Ins):(B5 x).fits 13=true:=Eq.trans rfl rfl
@[go_sem high] theorem zf9 (x:Ins):(V.agg x.cs).fits 13=true:=Eq.trans rfl rfl
@[go_sem high] theorem zIj (x:Ins):x.cs.length=13:=Eq.trans rfl rfl
theorem G8 (a b:Int):(a==b)=decide (a=b):=by rw [Bool.eq_iff_iff,beq_iff_eq,decide_eq_true_eq]
def Qi_ (op:Int):Bool:=decide (2<=op)&&decide (op<=8)||(decide (op=16)||decide (op=17))
def zP2 (op:Int):Bool:=decide (op=1)||wrB op
def zIk (op:Int):Bool:=zP2 op||Qi_ op
def zIl (op:Int):Bool:=!zP2 op&&Qi_ op
def VL_ (op:Int):Bool:=decide (op=16)||decide (op=17)
def zCz (x:Ins):Ins :=
  { op:=x.op,rd:=if Xq_ x.op then x.rd else 0,loc:=if G4 x.op then x.loc else 0,aR:=zIk x.op&&x.aR,aN:=if zIk x.op then x.aN else 0,bR:=zIl x.op&&x.bR,bN:=if zIl x.op then x.bN else 0,
    acq:=G4 x.op&&x.acq,rel:=G4 x.op&&x.rel,dep:=if G4 x.op then x.dep else 0,pred:=if x.op=15 then x.pred else 0,succ:=if x.op=15 then x.succ else 0,skip:=if VL_ x.op then x.skip else 0 }
def zfa (a b:Ins):Bool:=(E7 [.int,.int,.int,.bool,.int,.bool,.int,.bool,.bool,.int,.int,.int,.int] a.cs b.cs).getD false
@[go_sem high] theorem zod (a b:Ins):E7 [.int,.int,.int,.bool,.int,.bool,.int,.bool,.bool,.int,.int,.int,.int] a.cs b.cs=some (zfa a b):=Eq.trans rfl rfl
def zP3 (x:Ins):Bool:=decide (x.op<1)||(decide (17<x.op)||!zfa (zCz x) x)
def zD0 (x:Ins):Bool:=decide (x.rd<0)||(decide (8<=x.rd)||(!Yq_ x.aR x.aN||(!Yq_ x.bR x.bN||(decide (x.dep<0)||decide (8<x.dep)))))
def zAi (n:Nat) (x:Ins):Bool:=G4 x.op&&(decide (x.loc<0)||decide ((n:Int)<=x.loc))
def zP4 (x:Ins):Bool:=decide (x.op=1)&&x.aR
def zFq (x:Ins):Bool:=decide (x.op=15)&&(decide (x.pred<1)||(decide (3<x.pred)||(decide (x.succ<1)||decide (3<x.succ))))
def zIm (x:Ins):Bool:=x.acq&&!rdB x.op||x.rel&&!wrB x.op
def zP5 (x:Ins) (left:Int):Bool:=decide (x.skip<0)||decide (left<x.skip)
def P1 (n:Nat) (left:Int) (x:Ins):Int :=
 if zP3 x then 3 else if zD0 x then 11 else if zAi n x then 11 else if zP4 x then 3 else if zFq x then 3 else if zIm x then 3 else if zP5 x left then 13 else 0
def zWu (a b:ByteArray):Bool:=Op.bytesLess a.toList b.toList||a.toList==b.toList
def zD1 (t:Tst) (i:Nat) (l:Ini):Bool:=decide (0<i)&&(match t.locs[i-1]? with|some p=>zWu l.name p.name|none=>false)
def Z3 (t:Tst) (i:Nat) (l:Ini):Int:=if nmB l.name=false then 11 else if zD1 t i l=true then 16 else 0
def Yc_ (t:Tst) (_:Nat) (l:List Ins):Int:=fe (fun i x=>P1 t.locs.length ((l.length:Int)-i-1) x) 0 l
def UH_ (t:Tst) (i:Nat) (a:Atm):Bool:=decide (0<i)&&(match t.asks[i-1]? with|some p=>!p7 p a|none=>false)
def S7 (t:Tst) (i:Nat) (a:Atm):Int:=if Zd_ t a≠0 then Zd_ t a else if UH_ t i a=true then 16 else 0
def I7 (t:Tst):Int :=
 if U6 t≠0 then U6 t else if fe (Z3 t) 0 t.locs≠0 then fe (Z3 t) 0 t.locs else if fe (Yc_ t) 0 t.ths≠0 then fe (Yc_ t) 0 t.ths else fe (S7 t) 0 t.asks
theorem O6 {t:Tst} (h:U6 t=0):t.ths≠[]/\t.ths.length<=4/\t.locs.length<=8/\t.asks.length<=40/\(∀ x∈t.ths,x.length<=8)/\I6 t.ths<=8:=by
 unfold U6 at h
 split at h
 .cases h
 rename_i h0
 split at h
 .cases h
 rename_i h1
 split at h
 .cases h
 rename_i h2
 split at h
 .cases h
 rename_i h3
 unfold Qh_ at h1
 simp at h1
 exact ⟨h0,by omega,by omega,by omega,Classical.byContradiction h2,by omega⟩
def Yd_ (x:Ins):Bool:=decide (x.op=13)||decide (x.op=14)
def R4 (l:List (List Ins)):Bool:=l.any fun x=>x.any Yd_
theorem Y6_ {α:Type} {f:α->Bool} {l:List α} {i:Nat} {x:α} (h:l[i]?=some x) (h0:(l.take i).any f=false) (hx:f x=false):(l.take (i+1)).any f=false:=by
 rw [N6 h,any_append,h0];simp [hx]
theorem zSq {α:Type} {f:α->Bool} {l:List α} {i:Nat} {x:α} (h:l[i]?=some x) (hx:f x=true):l.any f=true:=List.any_eq_true.2 ⟨x,List.mem_of_getElem? h,hx⟩
def zbu (s:ByteArray) (n:Nat):ByteArray:=if n<s.size then s.extract 0 n else s
theorem zWv (s:ByteArray) (n:Nat):(zbu s n).size<=n:=by
 unfold zbu
 split
 .rw [ByteArray.size_extract];omega
 omega
def zI:Ins:={ op:=0,rd:=0,loc:=0,aR:=false,aN:=0,bR:=false,bN:=0,acq:=false,rel:=false,dep:=0,pred:=0,succ:=0,skip:=0 }
def passing:Tst :=
 { locs:=[⟨⟨#[120]⟩,0⟩,⟨⟨#[121]⟩,0⟩],ths:=[[{ zI with op:=10,aN:=1 },{ zI with op:=10,loc:=1,aN:=1 }],[{ zI with op:=9,loc:=1 },{ zI with op:=9,rd:=1 }]],asks:=[] }
def Q0 (f:Nat->Bool):List V:=(List.range 8).map fun r=>bV (f r)
theorem VM_ {f g:Nat->Bool} (h:∀ r,r<8->f r=g r):Q0 f=Q0 g:=map_congr_left fun r hr=>by rw [h r (List.mem_range.1 hr)]
@[go_sem] theorem zWw:[V.val (.bool false),.val (.bool false),.val (.bool false),.val (.bool false),.val (.bool false),.val (.bool false),.val (.bool false),.val (.bool false)]=Q0 fun _=>false:=Eq.trans rfl rfl
@[go_sem high] theorem zbv (f:Nat->Bool):(Q0 f).length=8:=Eq.trans rfl rfl
@[go_sem high] theorem zbw (f:Nat->Bool):F5 true 8 (Q0 f) 0=.agg (Q0 f):=Eq.trans rfl rfl
@[go_sem high] theorem zWx (f:Nat->Bool) {r:Nat} (h:r<8):F5 false 1 (Q0 f) r=bV (f r):=by
 simp [F5,Q0,List.getD,List.getElem?_map,List.getElem?_range h]
@[go_sem high] theorem zbx (f:Nat->Bool) {n:Nat} {b:Bool} (h:n<8):B2 (.agg (Q0 f)) n (bV b)=.agg (Q0 fun r=>if r=n then b else f r):=by
 simp only [B2,splice,V.cells]
 congr 1
 apply List.ext_getElem?
 intro i
 simp only [length_singleton]
 have hl:((Q0 f).take n).length=n:=by simp [Q0];omega
 by_cases h1:i<n
 .rw [List.getElem?_append_left (by omega),List.getElem?_take,if_pos h1]
  simp [Q0,List.getElem?_map,List.getElem?_range (show i<8 by omega),show i≠n by omega]
 rw [List.getElem?_append_right (by omega),hl]
 by_cases h2:i=n
 .subst h2
  simp [Q0,List.getElem?_map,List.getElem?_range h]
 rw [List.getElem?_append_right (by simp;omega),List.getElem?_drop]
 simp only [length_singleton]
 rw [show n+1+(i-n-1)=i by omega]
 by_cases h3:i<8
 .simp [Q0,List.getElem?_map,List.getElem?_range h3,h2]
 simp [Q0,h3]
def Wq_ (l:List Ins) (r:Nat):Bool:=l.any fun x=>Xq_ x.op&&decide (x.rd=(r:Int))
theorem zP6:Wq_ []=fun _=>false:=rfl
theorem Qj_ {l:List Ins} {x:Ins} (h:l[i]?=some x) (r:Nat):Wq_ (l.take (i+1)) r=(Wq_ (l.take i) r||(Xq_ x.op&&decide (x.rd=(r:Int)))):=by
 simp [Wq_,N6 h]
def R5 (l:List Nat):List V:=l.map fun n:Nat=>iV (n:Int)
@[go_sem] theorem zj6 (l:List Nat):(R5 l).length=l.length:=length_map ..
@[go_sem] theorem zfb (l:List Nat) (n:Nat):(R5 l).take n=R5 (l.take n):=(map_take ..).symm
@[go_sem] theorem zfc (l:List Nat) (n:Nat):(R5 l).drop n=R5 (l.drop n):=(map_drop ..).symm
theorem zD2 (n:Nat):R5 [n]=[iV n]:=rfl
theorem Xs_ (l m:List Nat):R5 (l++m)=R5 l++R5 m:=map_append ..
theorem zWy (l:List Nat):NL (.ro 1 (R5 l)):=.ro fun v hv=>by
 obtain ⟨a,_,rfl⟩:=List.mem_map.1 hv
 exact .cons (.val _) .nil
def Xt_ (f:Nat->Bool) (n:Nat):List Nat:=(List.range n).filter f
theorem zD3 {f:Nat->Bool} {n:Nat} (h:f n=true):Xt_ f (n+1)=Xt_ f n++[n]:=by simp [Xt_,range_succ,h]
theorem zWz {f:Nat->Bool} {n:Nat} (h:f n=false):Xt_ f (n+1)=Xt_ f n:=by simp [Xt_,range_succ,h]
theorem Y7_ (f:Nat->Bool) (n:Nat):(Xt_ f n).length<=n:=by have:=length_filter_le f (List.range n);rw [length_range] at this;exact this
def zj7 (x:Ini):Ini:=⟨zbu x.name 20,x.v⟩
def few (t:Tst):Tst:={ locs:=(t.locs.take 12).map zj7,ths:=(t.ths.take 6).map fun l=>l.take 12,asks:=t.asks.take 50 }
def Ju_ (l:List Ini) (i:Nat):List Ini:=(l.take i).map zj7
theorem Qk_ (l:List Ini):Ju_ l 0=[]:=by simp [Ju_]
theorem Ql_ {l:List Ini} {x:Ini} (h:l[i]?=some x):Ju_ l (i+1)=Ju_ l i++[zj7 x]:=by simp [Ju_,N6 h]
theorem zP7 (l:List Ini) (i:Nat):(Ju_ l i).length<=i:=by simp [Ju_];omega
theorem zP8 {l:List Ini} (h:l.length<=12):Ju_ l l.length=Ju_ l 12:=by simp [Ju_,take_of_length_le h]
def thP (l:List (List Ins)) (i:Nat):List (List Ins):=(l.take i).map fun x=>x.take 12
theorem zD4 (l:List (List Ins)):thP l 0=[]:=by simp [thP]
theorem Y8_ {l:List (List Ins)} {x:List Ins} (h:l[i]?=some x):thP l (i+1)=thP l i++[x.take 12]:=by simp [thP,N6 h]
theorem zX0 (l:List (List Ins)) (i:Nat):(thP l i).length<=i:=by simp [thP];omega
theorem zX1 {l:List (List Ins)} (h:l.length<=6):thP l l.length=thP l 6:=by simp [thP,take_of_length_le h]
theorem zP9 (x:Ini):Z1 [x]=[Wp_ x]:=rfl
theorem zPa:Z1 []=[]:=rfl
theorem Y9_ (x:List Ins):O3 [x]=[.ro 13 (Y1 x)]:=rfl
theorem zPb:O3 []=[]:=rfl
theorem zSr (t:Tst):(few t).cs=[.ro 2 (Z1 (Ju_ t.locs 12)),.ro 1 (O3 (thP t.ths 6)),.ro 3 (W0_ (t.asks.take 50))]:=rfl
theorem zAj (l m:List Ini):Z1 (l++m)=Z1 l++Z1 m:=map_append ..
theorem i9 (l m:List (List Ins)):O3 (l++m)=O3 l++O3 m:=map_append ..
@[go_sem] theorem zfd (l:List Ini) (n:Nat):(Z1 l).take n=Z1 (l.take n):=(map_take ..).symm
@[go_sem] theorem zfe (l:List (List Ins)) (n:Nat):(O3 l).take n=O3 (l.take n):=(map_take ..).symm
@[go_sem] theorem zff (l:List Ins) (n:Nat):(Y1 l).take n=Y1 (l.take n):=(map_take ..).symm
@[go_sem] theorem zfg (l:List Atm) (n:Nat):(W0_ l).take n=W0_ (l.take n):=(map_take ..).symm
@[go_sem high] theorem zj8 (l:List (List Ins)) (S:List Nat) (H:A8):(O3 l).map (Q5 (frz S H 1))=O3 l:=by
 unfold O3;rw [map_map];exact map_congr_left fun x _=>rfl
@[go_sem high] theorem zj9 (l:List Ini) (S:List Nat) (H:A8):(Z1 l).map (Q5 (frz S H 1))=Z1 l:=by
 unfold Z1;rw [map_map];exact map_congr_left fun x _=>rfl
theorem Q7 {t:Tst}:I7 t=0↔U6 t=0/\fe (Z3 t) 0 t.locs=0/\fe (Yc_ t) 0 t.ths=0/\fe (S7 t) 0 t.asks=0:=by
 unfold I7
 constructor
 .intro h
  split at h
  .rename_i h1;exact absurd h h1
  rename_i h1
  split at h
  .rename_i h2;exact absurd h h2
  rename_i h2
  split at h
  .rename_i h3;exact absurd h h3
  rename_i h3
  exact ⟨by simpa using h1,by simpa using h2,by simpa using h3,h⟩
 rintro ⟨h1,h2,h3,h4⟩
 rw [if_neg (by simp [h1]),if_neg (by simp [h2]),if_neg (by simp [h3])];exact h4
theorem ZC_ {n:Nat} {left:Int} {x:Ins}:P1 n left x=0↔zP3 x=false/\zD0 x=false/\zAi n x=false/\zP4 x=false/\zFq x=false/\zIm x=false/\zP5 x left=false:=by
 unfold P1
 cases zP3 x<;>cases zD0 x<;>cases zAi n x<;>cases zP4 x<;>cases zFq x<;>cases zIm x<;>cases zP5 x left<;>simp
theorem Pf.seen_res' {P:Program} {f:FuncId} {args:List V} {r r':V} (h:SeenAs r r') (p:Pf P f args r):Pf P f args r' :=
 ⟨p.enters,fun ι O w cargs hO hv=>(p.calls ι O w cargs hO hv).mono fun e w' ⟨cv,he,hr,h1⟩=>⟨cv,he,h _ _ _ _ hr,h1⟩⟩
theorem ZD_ (t:Tst) (ht:t.ths.length<=1000) (hl:∀ x∈t.ths,x.length<=1000):Pf Tryz.prog 22 [.rp t.cs 0] (bV (R4 t.ths)):=by
 refine Pf.of_fn (.cons (x5 t) .nil) (.val _) ?_
 refine B7 T_ok func22 rfl rfl ntmps22 rfl (by simp) ?_
 refine rG ?_
 refine A3 fun K1 hK1=>?_
 refine rG ?_ fun K h=>by simp [go_sem,Tst.cs];exact h
 apply A0
 refine A9 (α:=Nat × Nat) (fun a=>⟨32,[(10,.ro 1 (O3 t.ths)),(11,iV (t.ths.length:Nat)),(12,iV (a.1:Nat))],[],a.2⟩) (fun a=>a.1<=t.ths.length/\(t.ths.take a.1).any (fun x=>x.any Yd_)=false) (fun a=>t.ths.length-a.1) (0,0) ?_ ?_ ?_
 .exact ⟨by dsimp only;omega,rfl⟩
 .refine Weaker.fw 1 0 ?_ ?_<;>simp [go_sem]
 rintro ⟨i,j⟩ ⟨hi,hf⟩
 dsimp only at hi hf ⊢
 refine rG ?_
 refine A3 fun K2 hK2=>?_
 refine cJ (fun h=>?_) fun h=>?_
 .simp at h
  obtain rfl:i=t.ths.length:=by omega
  rw [take_length] at hf
  apply A6
  apply hK1
  refine rG ?_
  refine A4 ?_
  simp [go_sem,show R4 t.ths=false from hf]
 simp at h
 have hI:=h
 clear h
 have h':i<(t.ths).length:=by omega
 obtain ⟨l,hx,hx'⟩:=E0 h'
 have hi0:(0:Int)<=(i:Nat):=by omega
 have hw:=wI i
 have hll:=hl l (List.mem_of_getElem? hx)
 apply A1
 apply hK2
 refine A3 fun K3 hK3=>?_
 apply A0
 refine rG ?_ fun K h=>by simp [go_sem,hI,hx,hx',hi0,h'];exact h
 refine rG ?_
 apply A0
 refine A9 (α:=Nat × Nat) (fun b=>⟨32,[(10,.ro 1 (O3 t.ths)),(11,iV (t.ths.length:Nat)),(12,iV (i:Nat)),(16,.ro 13 (Y1 l)),(17,iV (l.length:Nat)),(18,iV (b.1:Nat))],[],b.2⟩) (fun b=>b.1<=l.length/\(l.take b.1).any Yd_=false) (fun b=>l.length-b.1) (0,j) ?_ ?_ ?_
 .exact ⟨by dsimp only;omega,rfl⟩
 .refine Weaker.fw 1 0 ?_ ?_<;>simp [go_sem]
 rintro ⟨b,c⟩ ⟨hib,hfb⟩
 dsimp only at hib hfb ⊢
 refine rG ?_
 refine A3 fun K4 hK4=>?_
 refine cJ (fun h=>?_) fun h=>?_
 .simp at h
  obtain rfl:b=l.length:=by omega
  rw [take_length] at hfb
  apply A6
  apply hK3
  refine rF ?_ fun K h=>by simp [go_sem,hw];exact h
  refine ⟨(i+1,c),?_,?_,?_⟩
  .exact ⟨by dsimp only;omega,Y6_ hx hf hfb⟩
  .dsimp only;omega
  refine Weaker.fw 1 0 ?_ ?_<;>simp [go_sem]
 simp at h
 have hIb:=h
 clear h
 have h'b:b<(l).length:=by omega
 obtain ⟨x,hxb,hx'b⟩:=E0 h'b
 have hi0b:(0:Int)<=(b:Nat):=by omega
 have hwb:=wI b
 apply A1
 apply hK4
 refine A3 fun K5 hK5=>?_
 apply A0
 refine rG ?_ fun K h=>by simp [go_sem,hIb,hxb,hx'b,hi0b,h'b,B5];exact h
 refine D8 T_ok (by decide) ⟨32,[(10,.ro 1 (O3 t.ths)),(11,iV (t.ths.length:Nat)),(12,iV (i:Nat)),(16,.ro 13 (Y1 l)),(17,iV (l.length:Nat)),(18,iV (b:Nat)),(29,bV (Yd_ x))],[],c+1⟩ ?_ ?_
 .by_cases c1:x.op=13
  .simp [go_sem,c1]
   refine Weaker.fw 1 0 ?_ ?_<;>simp [go_sem,c1,Yd_]
  by_cases c2:x.op=14
  .simp [go_sem,c1,c2]
   refine Weaker.fw 1 0 ?_ ?_<;>simp [go_sem,c1,c2,Yd_]
  simp [go_sem,c1,c2]
  refine Weaker.fw 1 0 ?_ ?_<;>simp [go_sem,c1,c2,Yd_]
 skip
 refine cK (fun h=>?_) fun h=>?_
 .have hp:=h
  refine rG ?_
  refine A4 ?_
  simp [go_sem,show R4 t.ths=true from zSq hx (zSq hxb hp)]
 have hp:=h
 apply A1
 apply hK5
 refine rF ?_ fun K h=>by simp [go_sem,hwb];exact h
 refine ⟨(b+1,c+1),?_,?_,?_⟩
 .exact ⟨by dsimp only;omega,Y6_ hxb hfb hp⟩
 .dsimp only;omega
 refine Weaker.fw 1 0 ?_ ?_<;>simp [go_sem]
theorem zfh (s:ByteArray) (n:Nat) (hs:s.size<=9223372036854775807):Pf Tryz.prog 64 [.val (.string s),iV (n:Nat)] (.val (.string (zbu s n))):=by
 refine Pf.of_fn (.cons (.val _) (.cons (.val _) .nil)) (.val _) ?_
 refine B7 T_ok func64 rfl rfl ntmps64 rfl (by simp) ?_
 refine rG ?_
 refine A3 fun K1 hK1=>?_
 refine rG ?_
 refine cK (fun h=>?_) fun h=>?_
 .simp at h
  have hI:=h
  have h':n<s.size:=by omega
  have g2:(0:Int)<=(n:Nat)/\(n:Int)<=(s.size:Nat)/\n<=s.size:=by and_intros<;>omega
  refine rG ?_ fun K h=>by simp [go_sem,g2];exact h
  refine A4 ?_
  simp [go_sem,zbu,h']
 simp at h
 have h':¬ n<s.size:=by omega
 apply A1
 apply hK1
 refine rG ?_
 refine A4 ?_
 simp [go_sem,zbu,h']
theorem zAk :Pf Tryz.prog 142 [] (.agg [.ro 2 (Z1 passing.locs),.ro 1 (O3 passing.ths),.val (.slice none 0 0)]):=by
 refine Pf.of_fz 3 .nil (.agg (.cons (zId _) (.cons (zIe _) (.cons (.val _) .nil)))) ?_
 refine B7 T_ok func142 rfl rfl ntmps142 rfl (by simp) ?_
 refine rG ?_
 refine rG ?_
 refine rG ?_
 refine A4 ?_
 simp [go_sem,passing,zI,Z1,Wp_,Ini.cs,O3,Y1,B5,Ins.cs]
theorem zFr:Pf Tryz.prog 142 [] (.agg passing.cs) :=
 Pf.seen_res' (zOy (.cons (SeenAs.refl _) (.cons (SeenAs.refl _) (.cons (zCs 3) .nil)))) zAk
theorem zX2 (t:Tst) (n:Nat) (l:List Ins) (hn:t.ths[n]?=some l) (hl:l.length<=1000) (hr:∀ x∈l,Xq_ x.op=true->0<=x.rd/\x.rd<8):Pf Tryz.prog 109 [.rp t.cs 0,iV (n:Nat)] (.ro 1 (R5 (Xt_ (Wq_ l) 8))):=by
 refine Pf.of_fz 1 (.cons (x5 t) (.cons (.val _) .nil)) (zWy _) ?_
 obtain ⟨hlt,hn'⟩:=List.getElem?_eq_some_iff.1 hn
 have g3:(n:Int)<(t.ths.length:Nat)/\(0:Int)<=(n:Nat):=by and_intros<;>omega
 refine B7 T_ok func109 rfl rfl ntmps109 rfl (by simp) ?_
 refine rG ?_
 refine rG ?_
 refine A3 fun K1 hK1=>?_
 refine rG ?_ fun K h=>by simp [go_sem,Tst.cs,g3,hlt,hn,hn'];exact h
 apply A0
 refine A9 (α:=Nat × Nat) (fun a=>⟨41,[(5,.ptr 0 0 0),(17,.ro 13 (Y1 l)),(18,iV (l.length:Nat)),(19,iV (a.1:Nat))],[(0,.rows 8 [.agg (Q0 (Wq_ (l.take a.1)))])],a.2+1⟩) (fun a=>a.1<=l.length) (fun a=>l.length-a.1) (0,0) ?_ ?_ ?_
 .dsimp only;omega
 .refine Weaker.fw 1 0 ?_ ?_
  .simp [go_sem]
  simp [go_sem,zP6]
 rintro ⟨i,j⟩ hi
 dsimp only at hi ⊢
 refine rG ?_
 refine A3 fun K2 hK2=>?_
 refine cK (fun h=>?_) fun h=>?_
 .simp at h
  have hI:=h
  clear h
  have h':i<(l).length:=by omega
  obtain ⟨x,hx,hx'⟩:=E0 h'
  have hi0:(0:Int)<=(i:Nat):=by omega
  have hw:=wI i
  apply A1
  apply hK2
  refine A3 fun K3 hK3=>?_
  apply A0
  refine rG ?_ fun K h=>by simp [go_sem,hI,hx,hx',hi0,h',B5];exact h
  refine rK fun K hK=>?_
  simp [go_sem,B5]
  refine A2 (zIg x) ?_
  simp [go_sem]
  apply hK
  refine cJ (fun h=>?_) fun h=>?_
  .have hs:=h
   apply A1
   apply hK3
   refine rF ?_ fun K h=>by simp [go_sem,hw];exact h
   refine ⟨(i+1,j+1),?_,?_,?_⟩
   .dsimp only;omega
   .dsimp only;omega
   refine Weaker.fw 1 0 ?_ ?_<;>simp [go_sem]
   refine VM_ fun r _=>?_
   rw [Qj_ hx,hs];simp
  have hs:=h
  obtain ⟨g1,g2⟩:=hr x (List.mem_of_getElem? hx) h
  obtain ⟨m,hm⟩:=Int.eq_ofNat_of_zero_le g1
  have g4:m<8/\(m:Int)<8/\(0:Int)<=(m:Nat)/\m+1<=8:=by and_intros<;>omega
  refine rF ?_ fun K h=>by simp [go_sem,hm,g4];exact h
  apply hK3
  refine rF ?_ fun K h=>by simp [go_sem,hw];exact h
  refine ⟨(i+1,j+1),?_,?_,?_⟩
  .dsimp only;omega
  .dsimp only;omega
  refine Weaker.fw 1 0 ?_ ?_<;>simp [go_sem]
  refine VM_ fun r _=>?_
  rw [Qj_ hx,hs]
  by_cases e:r=m
  .subst e;simp [hm]
  have:¬ x.rd=(r:Int):=by omega
  simp [e,this]
 simp at h
 obtain rfl:i=l.length:=by omega
 rw [take_length]
 apply A6
 apply hK1
 refine rG ?_
 refine A3 fun K4 hK4=>?_
 refine rG ?_
 apply A0
 refine Tr.weaken (Weaker.ghost 8 1 rfl) ?_
 refine A9 (α:=Nat × Nat × Nat) (fun b=>⟨41,[(8,.sl b.2.1 0 (Xt_ (Wq_ l) b.1).length),(29,.agg (Q0 (Wq_ l))),(30,iV (b.1:Nat))],[(b.2.1,.rows 1 (R5 (Xt_ (Wq_ l) b.1)))],b.2.1+b.2.2+1⟩) (fun b=>b.1<=8) (fun b=>8-b.1) (0,j+1,0) ?_ ?_ ?_
 .dsimp only;omega
 .refine Weaker.fw 1 0 ?_ ?_
  .simp [go_sem,Xt_]
  simp [go_sem,Xt_,R5]
 rintro ⟨b,r,c⟩ hib
 dsimp only at hib ⊢
 refine rG ?_
 refine A3 fun K5 hK5=>?_
 refine cJ (fun h=>?_) fun h=>?_
 .simp at h
  obtain rfl:b=8:=by omega
  apply A6
  apply hK4
  refine rG ?_
  refine A4 ?_
  simp [go_sem]
 simp at h
 have h':b<8:=by omega
 have hbI:=h
 clear h
 have g5:(0:Int)<=(b:Nat)/\b+1<=8:=by and_intros<;>omega
 have hbl:=Y7_ (Wq_ l) b
 have hwb:=wI b
 apply A1
 apply hK5
 refine A3 fun K6 hK6=>?_
 apply A0
 refine rG ?_ fun K h=>by simp [go_sem,h',hbI,g5];exact h
 refine rG ?_
 refine cJ (fun h=>?_) fun h=>?_
 .have hb:=h
  apply A1
  apply hK6
  refine rF ?_ fun K h=>by simp [go_sem,hwb];exact h
  refine ⟨(b+1,r,c),?_,?_,?_⟩
  .dsimp only;omega
  .dsimp only;omega
  refine Weaker.fw 1 0 ?_ ?_<;>simp [go_sem,zWz hb]
 have hb:=h
 refine rE fun K hK=>?_
 simp [go_sem]
 refine ⟨by omega,?_⟩
 apply hK
 apply hK6
 refine rF ?_ fun K h=>by simp [go_sem,hwb];exact h
 refine ⟨(b+1,r+c+2,0),?_,?_,?_⟩
 .dsimp only;omega
 .dsimp only;omega
 refine Weaker.fw 1 0 ?_ ?_
 .simp [go_sem,zD3 hb]
 simp [go_sem,zD3 hb,Xs_,zD2]
theorem zPc (x:Ins):Pf Tryz.prog 156 [B5 x] (B5 (zCz x)):=by
 refine Pf.of_fn (.cons (p6 x) .nil) (p6 _) ?_
 refine B7 T_ok func156 rfl rfl ntmps156 rfl (by simp) ?_
 refine rG ?_ fun K h=>by simp [go_sem,B5];exact h
 refine rG ?_
 refine Z0 ⟨78,[(1,.ptr 0 0 0),(2,.ptr 1 0 0),(3,.ptr 2 0 0)],[(0,.rows 13 [.agg x.cs]),(1,.rows 13 [.agg [iV 0,iV 0,iV 0,bV false,uV 0,bV false,uV 0,bV false,bV false,iV 0,iV 0,iV 0,iV 0]]),(2,.rows 13 [.agg [iV x.op,iV (if Xq_ x.op=true then x.rd else 0),iV 0,bV false,uV 0,bV false,uV 0,bV false,bV false,iV 0,iV 0,iV 0,iV 0]])],3⟩ ?_ ?_
 .skip
  refine rK fun K hK=>?_
  simp [go_sem]
  refine A2 (zIg x) ?_
  simp [go_sem]
  apply hK
  refine cK (fun h=>?_) fun h=>?_
  .have hs:=h
   refine rF ?_
   refine Weaker.fy 1 0 ?_ ?_<;>simp [go_sem,hs]
  have hs:=h
  apply A1
  refine Weaker.fy 1 0 ?_ ?_<;>simp [go_sem,hs]
 skip
 refine Z0 ⟨78,[(1,.ptr 0 0 0),(2,.ptr 1 0 0),(3,.ptr 2 0 0)],[(0,.rows 13 [.agg x.cs]),(1,.rows 13 [.agg [iV 0,iV 0,iV 0,bV false,uV 0,bV false,uV 0,bV false,bV false,iV 0,iV 0,iV 0,iV 0]]),(2,.rows 13 [.agg [iV x.op,iV (if Xq_ x.op=true then x.rd else 0),iV (if G4 x.op=true then x.loc else 0),bV false,uV 0,bV false,uV 0,bV (G4 x.op&&x.acq),bV (G4 x.op&&x.rel),iV (if G4 x.op=true then x.dep else 0),iV 0,iV 0,iV 0]])],17⟩ ?_ ?_
 .skip
  refine rK fun K hK=>?_
  simp [go_sem]
  refine A2 (P0 x) ?_
  simp [go_sem]
  apply hK
  refine cJ (fun h=>?_) fun h=>?_
  .have hm:=h
   apply A1
   refine Weaker.fy 1 0 ?_ ?_<;>simp [go_sem,hm]
  have hm:=h
  refine Y9 T_ok (by kernel_rfl) 14 [[],[0],[],[2],[],[4],[],[6],[0,1],[0,1,8],[0,1,2,3,8,9],[0,1,2,3,8,9,10],[0,1,2,3,4,5,8,9,10,11],[0,1,2,3,4,5,8,9,10,11,12],[0,1,2,3,4,5,6,7,8,9,10,11,12,13],[0,1,2,3,4,5,6,7,8,9,10,11,12,13,14]] [(2,9),(3,9),(4,9),(5,9),(6,9),(7,9),(4,11),(5,11),(6,11),(7,11),(6,13),(7,13)] (by decide) (by decide) (by decide) fun K hK=>?_
  first|dsimp only [List.take,List.drop]|dsimp [List.take,List.drop]
  simp [go_sem]
  apply hK
  refine Weaker.fy 1 0 ?_ ?_<;>simp [go_sem,hm]
 skip
 refine Z0 ⟨78,[(1,.ptr 0 0 0),(2,.ptr 1 0 0),(3,.ptr 2 0 0)],[(0,.rows 13 [.agg x.cs]),(1,.rows 13 [.agg [iV 0,iV 0,iV 0,bV false,uV 0,bV false,uV 0,bV false,bV false,iV 0,iV 0,iV 0,iV 0]]),(2,.rows 13 [.agg [iV x.op,iV (if Xq_ x.op=true then x.rd else 0),iV (if G4 x.op=true then x.loc else 0),bV (zIk x.op&&x.aR),uV (if zIk x.op=true then x.aN else 0),bV (zIl x.op&&x.bR),uV (if zIl x.op=true then x.bN else 0),bV (G4 x.op&&x.acq),bV (G4 x.op&&x.rel),iV (if G4 x.op=true then x.dep else 0),iV 0,iV 0,iV 0]])],23⟩ ?_ ?_
 .skip
  apply A0
  refine Z0 ⟨78,[(1,.ptr 0 0 0),(2,.ptr 1 0 0),(3,.ptr 2 0 0),(26,bV (zP2 x.op))],[(0,.rows 13 [.agg x.cs]),(1,.rows 13 [.agg [iV 0,iV 0,iV 0,bV false,uV 0,bV false,uV 0,bV false,bV false,iV 0,iV 0,iV 0,iV 0]]),(2,.rows 13 [.agg [iV x.op,iV (if Xq_ x.op=true then x.rd else 0),iV (if G4 x.op=true then x.loc else 0),bV false,uV 0,bV false,uV 0,bV (G4 x.op&&x.acq),bV (G4 x.op&&x.rel),iV (if G4 x.op=true then x.dep else 0),iV 0,iV 0,iV 0]])],17⟩ ?_ ?_
  .skip
   refine rG ?_
   refine cK (fun h=>?_) fun h=>?_
   .simp at h
    have h1:x.op=1:=h
    apply A1
    refine Weaker.fy 1 0 ?_ ?_<;>simp [go_sem,zP2,h1]
   simp at h
   have h1:¬ x.op=1:=h
   refine rE fun K hK=>?_
   simp [go_sem]
   refine A2 (p9 x) ?_
   simp [go_sem]
   apply hK
   refine Weaker.fy 1 0 ?_ ?_<;>simp [go_sem,zP2,h1]
  skip
  refine cK (fun h=>?_) fun h=>?_
  .have h1':zP2 x.op=true:=h
   have h1:True:=trivial
   have hab':True:=trivial
   refine rF ?_
   refine Weaker.fy 1 0 ?_ ?_<;>simp [go_sem,h1,h1',hab',zIk,zIl]
  have h1':zP2 x.op=false:=h
  have h1:True:=trivial
  refine Z0 ⟨78,[(1,.ptr 0 0 0),(2,.ptr 1 0 0),(3,.ptr 2 0 0),(36,bV (Qi_ x.op)),(26,bV (zP2 x.op))],[(0,.rows 13 [.agg x.cs]),(1,.rows 13 [.agg [iV 0,iV 0,iV 0,bV false,uV 0,bV false,uV 0,bV false,bV false,iV 0,iV 0,iV 0,iV 0]]),(2,.rows 13 [.agg [iV x.op,iV (if Xq_ x.op=true then x.rd else 0),iV (if G4 x.op=true then x.loc else 0),bV false,uV 0,bV false,uV 0,bV (G4 x.op&&x.acq),bV (G4 x.op&&x.rel),iV (if G4 x.op=true then x.dep else 0),iV 0,iV 0,iV 0]])],17⟩ ?_ ?_
  .skip
   refine D8 T_ok (by decide) ⟨78,[(1,.ptr 0 0 0),(2,.ptr 1 0 0),(3,.ptr 2 0 0),(26,bV (zP2 x.op)),(36,bV (decide (2<=x.op)&&decide (x.op<=8)))],[(0,.rows 13 [.agg x.cs]),(1,.rows 13 [.agg [iV 0,iV 0,iV 0,bV false,uV 0,bV false,uV 0,bV false,bV false,iV 0,iV 0,iV 0,iV 0]]),(2,.rows 13 [.agg [iV x.op,iV (if Xq_ x.op=true then x.rd else 0),iV (if G4 x.op=true then x.loc else 0),bV false,uV 0,bV false,uV 0,bV (G4 x.op&&x.acq),bV (G4 x.op&&x.rel),iV (if G4 x.op=true then x.dep else 0),iV 0,iV 0,iV 0]])],17⟩ ?_ ?_
   .by_cases c1:2<=x.op
    .by_cases c2:x.op<=8
     .simp [go_sem,c1,c2]
      refine Weaker.fw 1 0 ?_ ?_<;>simp [go_sem,c1,c2]
     simp [go_sem,c1,c2]
     refine Weaker.fw 1 0 ?_ ?_<;>simp [go_sem,c1,c2]
    simp [go_sem,c1]
    refine Weaker.fw 1 0 ?_ ?_<;>simp [go_sem,c1]
   skip
   refine cK (fun h=>?_) fun h=>?_
   .have hab:(decide (2<=x.op)&&decide (x.op<=8))=true:=h
    have h16:True:=trivial
    apply A1
    refine Weaker.fy 1 0 ?_ ?_<;>simp [go_sem,Qi_,hab,h16,G8]
   have hab:(decide (2<=x.op)&&decide (x.op<=8))=false:=h
   refine rG ?_
   refine cK (fun h=>?_) fun h=>?_
   .simp at h
    have h16:x.op=16:=h
    apply A1
    refine Weaker.fy 1 0 ?_ ?_<;>simp [go_sem,Qi_,hab,h16,G8]
   simp at h
   have h16:¬ x.op=16:=h
   refine rF ?_
   refine Weaker.fy 1 0 ?_ ?_<;>simp [go_sem,Qi_,hab,h16,G8]
  skip
  refine cJ (fun h=>?_) fun h=>?_
  .have hab':Qi_ x.op=false:=h
   apply A1
   refine Weaker.fy 1 0 ?_ ?_<;>simp [go_sem,h1,h1',hab',zIk,zIl]
  have hab':Qi_ x.op=true:=h
  refine Y9 T_ok (by kernel_rfl) 6 [[],[0],[],[2],[0,1],[0,1,4],[0,1,2,3,4,5],[0,1,2,3,4,5,6]] [(2,5),(3,5)] (by decide) (by decide) (by decide) fun K hK=>?_
  first|dsimp only [List.take,List.drop]|dsimp [List.take,List.drop]
  simp [go_sem]
  apply hK
  refine Weaker.fy 1 0 ?_ ?_<;>simp [go_sem,h1,h1',hab',zIk,zIl]
 skip
 refine Z0 ⟨78,[(1,.ptr 0 0 0),(2,.ptr 1 0 0),(3,.ptr 2 0 0)],[(0,.rows 13 [.agg x.cs]),(1,.rows 13 [.agg [iV 0,iV 0,iV 0,bV false,uV 0,bV false,uV 0,bV false,bV false,iV 0,iV 0,iV 0,iV 0]]),(2,.rows 13 [.agg [iV x.op,iV (if Xq_ x.op=true then x.rd else 0),iV (if G4 x.op=true then x.loc else 0),bV (zIk x.op&&x.aR),uV (if zIk x.op=true then x.aN else 0),bV (zIl x.op&&x.bR),uV (if zIl x.op=true then x.bN else 0),bV (G4 x.op&&x.acq),bV (G4 x.op&&x.rel),iV (if G4 x.op=true then x.dep else 0),iV (if x.op=15 then x.pred else 0),iV (if x.op=15 then x.succ else 0),iV 0]])],29⟩ ?_ ?_
 .skip
  refine rG ?_
  refine cJ (fun h=>?_) fun h=>?_
  .simp at h
   have hf:=h
   apply A1
   refine Weaker.fy 1 0 ?_ ?_<;>simp [go_sem,hf]
  simp at h
  have hf:=h
  refine Y9 T_ok (by kernel_rfl) 6 [[],[0],[],[2],[0,1],[0,1,4],[0,1,2,3,4,5],[0,1,2,3,4,5,6]] [(2,5),(3,5)] (by decide) (by decide) (by decide) fun K hK=>?_
  first|dsimp only [List.take,List.drop]|dsimp [List.take,List.drop]
  simp [go_sem]
  apply hK
  refine Weaker.fy 1 0 ?_ ?_<;>simp [go_sem,hf]
 skip
 refine A3 fun K1 hK1=>?_
 refine D8 T_ok (by decide) ⟨78,[(1,.ptr 0 0 0),(2,.ptr 1 0 0),(3,.ptr 2 0 0),(73,bV (VL_ x.op))],[(0,.rows 13 [.agg x.cs]),(1,.rows 13 [.agg [iV 0,iV 0,iV 0,bV false,uV 0,bV false,uV 0,bV false,bV false,iV 0,iV 0,iV 0,iV 0]]),(2,.rows 13 [.agg [iV x.op,iV (if Xq_ x.op=true then x.rd else 0),iV (if G4 x.op=true then x.loc else 0),bV (zIk x.op&&x.aR),uV (if zIk x.op=true then x.aN else 0),bV (zIl x.op&&x.bR),uV (if zIl x.op=true then x.bN else 0),bV (G4 x.op&&x.acq),bV (G4 x.op&&x.rel),iV (if G4 x.op=true then x.dep else 0),iV (if x.op=15 then x.pred else 0),iV (if x.op=15 then x.succ else 0),iV 0]])],29⟩ ?_ ?_
 .by_cases c1:x.op=16
  .simp [go_sem,c1]
   refine Weaker.fw 1 0 ?_ ?_<;>simp [go_sem,c1,VL_]
  by_cases c2:x.op=17
  .simp [go_sem,c1,c2]
   refine Weaker.fw 1 0 ?_ ?_<;>simp [go_sem,c1,c2,VL_]
  simp [go_sem,c1,c2]
  refine Weaker.fw 1 0 ?_ ?_<;>simp [go_sem,c1,c2,VL_]
 skip
 refine cK (fun h=>?_) fun h=>?_
 .have hb:=h
  refine rF ?_
  apply hK1
  refine rG ?_
  refine A4 ?_
  simp [go_sem,B5,Ins.cs,zCz,hb]
 have hb:=h
 apply A1
 apply hK1
 refine rG ?_
 refine A4 ?_
 simp [go_sem,B5,Ins.cs,zCz,hb]
theorem zPd (t:Tst) (x:Ins) (left:Int):Pf Tryz.prog 123 [.rp t.cs 0,B5 x,iV left] (iV (P1 t.locs.length left x)):=by
 refine Pf.of_fn (.cons (x5 t) (.cons (p6 x) (.cons (.val _) .nil))) (.val _) ?_
 refine B7 T_ok func123 rfl rfl ntmps123 rfl (by simp) ?_
 refine rG ?_ fun K h=>by simp [go_sem,B5];exact h
 refine A3 fun K1 hK1=>?_
 apply A0
 refine Q6 T_ok (by kernel_rfl) 12 [[],[0],[0,1],[0,1,2],[0,1,2,3],[0,1,2,3,4],[0,1,2,3,4,5],[0,1,2,3,4,5,6],[0,1,2,3,4,5,6,7],[0,1,2,3,4,5,6,7,8],[0,1,2,3,4,5,6,7,8,9],[0,1,2,3,4,5,6,7,8],[0,1,2,3,4,5,6,7,8,9,10,11],[0,1,2,3,4,5,6,7,8,9,10,11,12],[0,1,2,3,4,5,6,7,8,9,10,11,12,13]] [] (by decide) (by decide) (by decide) ⟨133,[(0,.rp t.cs 0),(2,iV left),(4,.ptr 0 0 0),(7,bV (zP3 x))],[(0,.rows 13 [.agg x.cs])],13⟩ ?_ ?_
 .first|dsimp only [List.take,List.drop]|dsimp [List.take,List.drop]
  by_cases c1:x.op<1
  .simp [go_sem,c1]
   refine Weaker.fw 1 0 ?_ ?_<;>simp [go_sem,c1,zP3]
  by_cases c2:17<x.op
  .simp [go_sem,c1,c2]
   refine Weaker.fw 1 0 ?_ ?_<;>simp [go_sem,c1,c2,zP3]
  simp [go_sem,c1,c2]
  refine A5 (zPc x) ?_
  simp [go_sem,c1,c2,B5]
  refine Weaker.fw 1 0 ?_ ?_<;>simp [go_sem,c1,c2,zP3]
 skip
 refine cK (fun h=>?_) fun h=>?_
 .have e1:=h
  refine rG ?_
  refine A4 ?_
  simp [go_sem,P1,e1]
 have e1:=h
 refine D8 T_ok (by decide) ⟨133,[(0,.rp t.cs 0),(2,iV left),(4,.ptr 0 0 0),(22,bV (zD0 x))],[(0,.rows 13 [.agg x.cs])],13⟩ ?_ ?_
 .by_cases c1:x.rd<0
  .simp [go_sem,c1]
   refine Weaker.fw 1 0 ?_ ?_<;>simp [go_sem,c1,zD0]
  by_cases c2:8<=x.rd
  .simp [go_sem,c1,c2]
   refine Weaker.fw 1 0 ?_ ?_<;>simp [go_sem,c1,c2,zD0]
  by_cases c3:Yq_ x.aR x.aN=true
  .by_cases c4:Yq_ x.bR x.bN=true
   .by_cases c5:x.dep<0
    .simp [go_sem,c1,c2,c3,c4,c5]
     refine A2 (N3 _ _) ?_
     simp [go_sem,c1,c2,c3,c4,c5]
     refine A2 (N3 _ _) ?_
     simp [go_sem,c1,c2,c3,c4,c5]
     refine Weaker.fw 1 0 ?_ ?_<;>simp [go_sem,c1,c2,c3,c4,c5,zD0]
    by_cases c6:8<x.dep
    .simp [go_sem,c1,c2,c3,c4,c5,c6]
     refine A2 (N3 _ _) ?_
     simp [go_sem,c1,c2,c3,c4,c5,c6]
     refine A2 (N3 _ _) ?_
     simp [go_sem,c1,c2,c3,c4,c5,c6]
     refine Weaker.fw 1 0 ?_ ?_<;>simp [go_sem,c1,c2,c3,c4,c5,c6,zD0]
    simp [go_sem,c1,c2,c3,c4,c5,c6]
    refine A2 (N3 _ _) ?_
    simp [go_sem,c1,c2,c3,c4,c5,c6]
    refine A2 (N3 _ _) ?_
    simp [go_sem,c1,c2,c3,c4,c5,c6]
    refine Weaker.fw 1 0 ?_ ?_<;>simp [go_sem,c1,c2,c3,c4,c5,c6,zD0]
   simp [go_sem,c1,c2,c3,c4]
   refine A2 (N3 _ _) ?_
   simp [go_sem,c1,c2,c3,c4]
   refine A2 (N3 _ _) ?_
   simp [go_sem,c1,c2,c3,c4]
   refine Weaker.fw 1 0 ?_ ?_<;>simp [go_sem,c1,c2,c3,c4,zD0]
  simp [go_sem,c1,c2,c3]
  refine A2 (N3 _ _) ?_
  simp [go_sem,c1,c2,c3]
  refine Weaker.fw 1 0 ?_ ?_<;>simp [go_sem,c1,c2,c3,zD0]
 skip
 refine cK (fun h=>?_) fun h=>?_
 .have e2:=h
  refine rG ?_
  refine A4 ?_
  simp [go_sem,P1,e1,e2]
 have e2:=h
 refine Q6 T_ok (by kernel_rfl) 14 [[],[0],[0,1],[0,1,2],[0,1,2,3],[0,1,2,3,4],[0,1,2,3,4,5],[0,1,2,3,4,5,6],[0,1,2,3,4,5,6,7],[0,1,2,3,4,5,6],[0,1,2,3,4,5,6,9],[0,1,2,3,4,5,6,9,10],[0,1,2,3,4,5,6,9,10,11],[0,1,2,3,4,5,6,9,10,11,12],[0,1,2,3,4,5,6,7,8,9,10,11,12,13],[0,1,2,3,4,5,6,7,8,9,10,11,12,13,14],[0,1,2,3,4,5,6,7,8,9,10,11,12,13,14,15],[0,1,2,3,4,5,6,7,8,9,10,11,12,13,14,15,16]] [] (by decide) (by decide) (by decide) ⟨133,[(0,.rp t.cs 0),(2,iV left),(4,.ptr 0 0 0),(53,bV (zAi t.locs.length x))],[(0,.rows 13 [.agg x.cs])],27⟩ ?_ ?_
 .first|dsimp only [List.take,List.drop]|dsimp [List.take,List.drop]
  by_cases c1:G4 x.op=true
  .by_cases c2:x.loc<0
   .simp [go_sem,c1,c2,Tst.cs]
    refine A5 (P0 x) ?_
    simp [go_sem,c1,c2,Tst.cs]
    refine Weaker.fw 1 0 ?_ ?_
    .simp [go_sem,Tst.cs,c1,c2,zAi]
    simp [go_sem,c1,c2,zAi]
   by_cases c3:(t.locs.length:Int)<=x.loc
   .simp [go_sem,c1,c2,c3,Tst.cs]
    refine A5 (P0 x) ?_
    simp [go_sem,c1,c2,c3,Tst.cs]
    refine Weaker.fw 1 0 ?_ ?_
    .simp [go_sem,Tst.cs,c1,c2,c3,zAi]
    simp [go_sem,c1,c2,c3,zAi]
   simp [go_sem,c1,c2,c3,Tst.cs]
   refine A5 (P0 x) ?_
   simp [go_sem,c1,c2,c3,Tst.cs]
   refine Weaker.fw 1 0 ?_ ?_
   .simp [go_sem,Tst.cs,c1,c2,c3,zAi]
   simp [go_sem,c1,c2,c3,zAi]
  simp [go_sem,c1,Tst.cs]
  refine A5 (P0 x) ?_
  simp [go_sem,c1,Tst.cs]
  refine Weaker.fw 1 0 ?_ ?_
  .simp [go_sem,Tst.cs,c1,zAi]
  simp [go_sem,c1,zAi]
 skip
 refine cK (fun h=>?_) fun h=>?_
 .have e3:=h
  refine rG ?_
  refine A4 ?_
  simp [go_sem,P1,e1,e2,e3]
 have e3:=h
 refine D8 T_ok (by decide) ⟨133,[(0,.rp t.cs 0),(2,iV left),(4,.ptr 0 0 0),(71,bV (zP4 x))],[(0,.rows 13 [.agg x.cs])],27⟩ ?_ ?_
 .by_cases c1:x.op=1
  .by_cases c2:x.aR=true
   .simp [go_sem,c1,c2]
    refine Weaker.fw 1 0 ?_ ?_<;>simp [go_sem,c1,c2,zP4]
   simp [go_sem,c1,c2]
   refine Weaker.fw 1 0 ?_ ?_<;>simp [go_sem,c1,c2,zP4]
  simp [go_sem,c1]
  refine Weaker.fw 1 0 ?_ ?_<;>simp [go_sem,c1,zP4]
 skip
 refine cK (fun h=>?_) fun h=>?_
 .have e4:=h
  refine rG ?_
  refine A4 ?_
  simp [go_sem,P1,e1,e2,e3,e4]
 have e4:=h
 refine D8 T_ok (by decide) ⟨133,[(0,.rp t.cs 0),(2,iV left),(4,.ptr 0 0 0),(80,bV (zFq x))],[(0,.rows 13 [.agg x.cs])],27⟩ ?_ ?_
 .by_cases c1:x.op=15
  .by_cases c2:x.pred<1
   .simp [go_sem,c1,c2]
    refine Weaker.fw 1 0 ?_ ?_<;>simp [go_sem,c1,c2,zFq]
   by_cases c3:3<x.pred
   .simp [go_sem,c1,c2,c3]
    refine Weaker.fw 1 0 ?_ ?_<;>simp [go_sem,c1,c2,c3,zFq]
   by_cases c4:x.succ<1
   .simp [go_sem,c1,c2,c3,c4]
    refine Weaker.fw 1 0 ?_ ?_<;>simp [go_sem,c1,c2,c3,c4,zFq]
   by_cases c5:3<x.succ
   .simp [go_sem,c1,c2,c3,c4,c5]
    refine Weaker.fw 1 0 ?_ ?_<;>simp [go_sem,c1,c2,c3,c4,c5,zFq]
   simp [go_sem,c1,c2,c3,c4,c5]
   refine Weaker.fw 1 0 ?_ ?_<;>simp [go_sem,c1,c2,c3,c4,c5,zFq]
  simp [go_sem,c1]
  refine Weaker.fw 1 0 ?_ ?_<;>simp [go_sem,c1,zFq]
 skip
 refine cK (fun h=>?_) fun h=>?_
 .have e5:=h
  refine rG ?_
  refine A4 ?_
  simp [go_sem,P1,e1,e2,e3,e4,e5]
 have e5:=h
 refine D8 T_ok (by decide) ⟨133,[(0,.rp t.cs 0),(2,iV left),(4,.ptr 0 0 0),(104,bV (zIm x))],[(0,.rows 13 [.agg x.cs])],27⟩ ?_ ?_
 .by_cases c1:x.acq=true
  .by_cases c2:rdB x.op=true
   .by_cases c3:x.rel=true
    .simp [go_sem,c1,c2,c3]
     refine A2 (p9 x) ?_
     simp [go_sem,c1,c2,c3]
     refine A2 (p9 x) ?_
     simp [go_sem,c1,c2,c3]
     refine Weaker.fw 1 0 ?_ ?_<;>simp [go_sem,c1,c2,c3,zIm]
    simp [go_sem,c1,c2,c3]
    refine A2 (p9 x) ?_
    simp [go_sem,c1,c2,c3]
    refine Weaker.fw 1 0 ?_ ?_<;>simp [go_sem,c1,c2,c3,zIm]
   simp [go_sem,c1,c2]
   refine A2 (p9 x) ?_
   simp [go_sem,c1,c2]
   refine Weaker.fw 1 0 ?_ ?_<;>simp [go_sem,c1,c2,zIm]
  by_cases c2:x.rel=true
  .simp [go_sem,c1,c2]
   refine A2 (p9 x) ?_
   simp [go_sem,c1,c2]
   refine Weaker.fw 1 0 ?_ ?_<;>simp [go_sem,c1,c2,zIm]
  simp [go_sem,c1,c2]
  refine Weaker.fw 1 0 ?_ ?_<;>simp [go_sem,c1,c2,zIm]
 skip
 refine cK (fun h=>?_) fun h=>?_
 .have e6:=h
  refine rG ?_
  refine A4 ?_
  simp [go_sem,P1,e1,e2,e3,e4,e5,e6]
 have e6:=h
 refine D8 T_ok (by decide) ⟨133,[(0,.rp t.cs 0),(2,iV left),(4,.ptr 0 0 0),(123,bV (zP5 x left))],[(0,.rows 13 [.agg x.cs])],27⟩ ?_ ?_
 .by_cases c1:x.skip<0
  .simp [go_sem,c1]
   refine Weaker.fw 1 0 ?_ ?_<;>simp [go_sem,c1,zP5]
  by_cases c2:left<x.skip
  .simp [go_sem,c1,c2]
   refine Weaker.fw 1 0 ?_ ?_<;>simp [go_sem,c1,c2,zP5]
  simp [go_sem,c1,c2]
  refine Weaker.fw 1 0 ?_ ?_<;>simp [go_sem,c1,c2,zP5]
 skip
 refine cK (fun h=>?_) fun h=>?_
 .have e7:=h
  refine rG ?_
  refine A4 ?_
  simp [go_sem,P1,e1,e2,e3,e4,e5,e6,e7]
 have e7:=h
 apply A1
 apply hK1
 refine rG ?_
 refine A4 ?_
 simp [go_sem,P1,e1,e2,e3,e4,e5,e6,e7]
end Go.Proofs.YtmpbalepefpllaaGreat
