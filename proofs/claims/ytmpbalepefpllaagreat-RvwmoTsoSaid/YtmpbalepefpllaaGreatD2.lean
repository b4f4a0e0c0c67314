/- Texts put together, in order: Sl9c, Sl9d, Sl9e, Sl9f, Sl10, Sl11, T, Sl12, Sl13. -/
import Derived.Maps.RangeRun
import Derived.DeepKeys3
import Derived.MapKept
import Derived.Laws.Strings
import Derived.Test.YtmpbalepefpllaaGreatProg
import Derived.KernelRfl
import Derived.Test.YtmpbalepefpllaaGreatD1
open List
set_option maxRecDepth 100000
set_option maxHeartbeats 16000000
set_option linter.unusedVariables false
set_option linter.unusedSimpArgs false
namespace Go.Sl
section
variable {fr:Nat->Prop} {F:Nat->Prop} {ι ι':E3} {O:Nat->Prop} {σ σ':St} {a a':Act} {w w':World} {P:Program} {T:Tab}
theorem zO2 {a b:ByteArray} (h:a.toList=b.toList):a=b:=by
 rw [ByteArray.toList_eq,ByteArray.toList_eq] at h
 exact WideShapes.bytes_inj h
theorem i4:∀ {sp:List EK} {xs ys:List Value},E6 sp xs ys=some true->xs=ys
 | [],xs,ys,h=>by unfold E6 at h;split at h<;>simp_all
 | e::sp,xs,ys,h=>by
  unfold E6 at h
  split at h
  .simp at *
  .rename_i e1
   split at h
   .rename_i hk
    obtain ⟨b,hb,hb'⟩:=Option.map_eq_some_iff.1 h
    simp only [Bool.and_eq_true,beq_iff_eq] at hb'
    obtain ⟨rfl,rfl⟩:=hb'
    cases e1
    rw [i4 hb,hk]
   cases h
  .rename_i e1
   obtain ⟨b,hb,hb'⟩:=Option.map_eq_some_iff.1 h
   simp only [Bool.and_eq_true,beq_iff_eq] at hb'
   obtain ⟨rfl,rfl⟩:=hb'
   cases e1
   rw [i4 hb]
  .rename_i e1
   obtain ⟨b,hb,hb'⟩:=Option.map_eq_some_iff.1 h
   simp only [Bool.and_eq_true,beq_iff_eq] at hb'
   obtain ⟨h1,rfl⟩:=hb'
   cases e1
   rw [i4 hb,zO2 h1]
  cases h
theorem i5:∀ {sp:List EK} {xs ys:List Value} {b:Bool},E6 sp xs ys=some b->∀ n,∀ x∈xs,Instr.sameBits n x x=true
 | [],xs,ys,b,h,n,x,hx=>by unfold E6 at h;split at h<;>simp_all
 | e::sp,xs,ys,b,h,n,x,hx=>by
  unfold E6 at h
  split at h
  .simp at *
  .split at h
   .obtain ⟨b,hb,_⟩:=Option.map_eq_some_iff.1 h
    rcases List.mem_cons.1 hx with rfl|hx
    .simp [Instr.sameBits]
    rename_i e1 _ _ _;cases e1;exact i5 hb n x hx
   cases h
  .obtain ⟨b,hb,_⟩:=Option.map_eq_some_iff.1 h
   rcases List.mem_cons.1 hx with rfl|hx
   .simp [Instr.sameBits]
   rename_i e1 _ _;cases e1;exact i5 hb n x hx
  .obtain ⟨b,hb,_⟩:=Option.map_eq_some_iff.1 h
   rcases List.mem_cons.1 hx with rfl|hx
   .simp [Instr.sameBits,(MapKept.bytes_beq _ _).2]
   rename_i e1 _ _;cases e1;exact i5 hb n x hx
  cases h
def zUi (P:Program) (T:Tab) (D:Nat) (t:TypeId) (sp:List EK):Prop :=
 ∀ ti,T t=some ti->(ti.agg=true\/sp.length=1)/\∀ em w xs ys b,E6 sp xs ys=some b->(Instr.checkKey em D t (i3 ti.agg xs)).run P w=.ok () w
theorem o5 {α:Type} (w:World) (body:α->PUnit->Sem (ForInStep PUnit)):∀ (l:List α),(∀ x∈l,(body x PUnit.unit).run P w=.ok (ForInStep.yield PUnit.unit) w)->(forIn l PUnit.unit body).run P w=.ok PUnit.unit w
 | [],_=>by simp
 | x::l,h=>by
  have ih:=o5 w body l fun y hy=>h y (by simp [hy])
  simp only [forIn_cons,Sem.run_bind,h x (by simp),Result.andThen_ok]
  exact ih
theorem y2 (hT : J9 P T) {sp : TypeId → Option (List EK)} {D : Nat} (hsp : ∀ t s, sp t = some s → (∃ ti, T t = some ti) ∧ zUi P T D t s) (em : Bool) (w : World) {xs ys : List Value} :
    ∀ (gs:List Field) (off:Nat) (s:List EK),X8 sp off (gs.map fun f=>(f.type,f.offset,P.cellsOf f.type))=some s->∀ b,E6 s (xs.drop off) (ys.drop off)=some b->off<=xs.length →
      ∀ g∈gs,∃ v,(part g.type xs.toArray g.offset).run P w=.ok v w/\(Instr.checkKey em D g.type v).run P w=.ok () w
  | [],off,s,h,b,hb,_=>by simp
  | g::gs,off,s,h,b,hb,hx=>by
    simp only [map_cons,X8] at h
    split at h
    . rename_i s1 s2 h1 h2
      split at h
      . rename_i hc
        obtain ⟨ho,hl⟩:=hc
        cases h
        obtain ⟨b1,b2,e1,e2,rfl⟩:=W8 hb
        obtain ⟨⟨ti,ht⟩,hat⟩:=hsp _ _ h1
        obtain ⟨h3,h4⟩:=hat ti ht
        have hti:=hT _ _ ht
        have hsz:P.cellsOf g.type=ti.size:=by
          obtain ⟨d,i,z,hd,hi,hz,hs,ha,h1,h2,_⟩:=D3 hti
          simp [Program.cellsOf,hi,h2]
        have hlen:=T5 hb
        simp only [length_drop,length_append] at hlen
        have p1:=Y6 hti (xs:=xs) (off:=off) (by omega) (h3.imp id fun h=>by omega) w
        have p3:=h4 em w _ _ b1 e1
        rw [show s1.length=ti.size by omega] at p3
        have ih:=y2 hT hsp em w gs (off+P.cellsOf g.type) s2 h2 b2 (xs:=xs) (ys:=ys) (by rw [<-hl,<-drop_drop,<-drop_drop];exact e2) (by omega)
        intro g' hg'
        rcases List.mem_cons.1 hg' with rfl|hg'
        . exact ⟨_,by rw [ho];exact p1,p3⟩
        exact ih g' hg'
      cases h
    cases h
theorem ZU_ (hT : J9 P T) {e : TypeId} {te : TI} (he : T e = some te) {s : List EK} {D : Nat} (hat : zUi P T D e s) (hl : s.length = te.size) (em : Bool) (w : World) {xs ys : List Value} :
    ∀ (n j:Nat) (b:Bool),E6 (List.replicate n s).flatten (xs.drop (j*te.size)) (ys.drop (j*te.size))=some b->j*te.size<=xs.length →
      ∀ i∈List.range' j n,∃ v,(part e xs.toArray (i*te.size)).run P w=.ok v w/\(Instr.checkKey em D e v).run P w=.ok () w
  | 0,j,b,hb,_=>by simp
  | n+1,j,b,hb,hx=>by
    rw [replicate_succ,flatten_cons] at hb
    obtain ⟨b1,b2,e1,e2,rfl⟩:=W8 hb
    obtain ⟨h3,h4⟩:=hat te he
    have hti:=hT _ _ he
    have hlen:=T5 hb
    simp only [length_drop,length_append] at hlen
    have p1:=Y6 hti (xs:=xs) (off:=j*te.size) (by omega) (h3.imp id fun h=>by omega) w
    have p3:=h4 em w _ _ b1 e1
    rw [hl] at p3
    have hs:(j+1)*te.size=j*te.size+te.size:=by rw [Nat.add_mul];simp
    have ih:=ZU_ hT he hat hl em w n (j+1) b2 (xs:=xs) (ys:=ys) (by rw [hs,<-hl,<-drop_drop,<-drop_drop];rw [hl];rw [hl] at e2;exact e2) (by omega)
    intro i hi
    rw [List.range'_succ] at hi
    rcases List.mem_cons.1 hi with rfl|hi
    . exact ⟨_,p1,p3⟩
    exact ih i hi
theorem M9 (hT:J9 P T):∀ (d:Nat) (t:TypeId) (sp:List EK),L7 T d t=some sp->∀ D,d<=D->(∃ ti,T t=some ti)/\zUi P T D t sp
  | 0,t,sp,h,_,_=>by simp [L7] at h
  | d+1,t,sp,h,D,hD=>by
    obtain ⟨D,rfl⟩:∃ E,D=E+1:=⟨D-1,by omega⟩
    unfold L7 at h
    split at h
    . rename_i ti ht
      refine ⟨⟨ti,ht⟩,fun ti' ht'=>?_⟩
      rw [ht] at ht';cases ht'
      have hti:=hT _ _ ht
      obtain ⟨u,i,z,hu,hi,hz,hs,ha,h1,h2,h3,h4,h5⟩:=D3 hti
      have leaf : ∀ (k : EK), ti.agg = false → sp = [k] → (∀ em w (x y : Value) b, E6 [k] [x] [y] = some b → (Instr.checkKey em (D + 1) t x).run P w = .ok () w) →
          (ti.agg=true\/sp.length=1)/\∀ em w xs ys b,E6 sp xs ys=some b->(Instr.checkKey em (D+1) t (i3 ti.agg xs)).run P w=.ok () w:=by
        intro k hg hk hr
        subst hk
        refine ⟨.inr rfl,fun em w xs ys b hb=>?_⟩
        have hl:=T5 hb
        match xs,ys,hl with
        | [x],[y],_=>simpa [i3,hg] using hr em w x y b hb
      have scal:∀ em w (x:Value),(match u with|.int _=>True|.bool=>True|.string=>True|_=>False)->(Instr.checkKey em (D+1) t x).run P w=.ok () w:=by
        intro em w x hsc
        unfold Instr.checkKey
        simp only [Sem.run_bind,run_underlying hu,Result.andThen_ok]
        cases u<;>first|exact hsc.elim|(cases x<;>simp)
      split at h
      . rename_i kd hd
        cases h
        exact leaf .int (by simp [TI.agg,hd]) rfl fun em w x y b hb=>scal em w x (by cases u<;>simp_all [Go.Sl.D.of])
      . rename_i hd
        cases h
        exact leaf .bool (by simp [TI.agg,hd]) rfl fun em w x y b hb=>scal em w x (by cases u<;>simp_all [Go.Sl.D.of])
      . rename_i hd
        cases h
        exact leaf .str (by simp [TI.agg,hd]) rfl fun em w x y b hb=>scal em w x (by cases u<;>simp_all [Go.Sl.D.of])
      . rename_i fs hd
        have hg:ti.agg=true:=by simp [TI.agg,hd]
        refine ⟨.inl hg,fun em w xs ys b hb=>?_⟩
        obtain ⟨gs,hgs⟩:∃ gs,u=.struct gs:=by cases u<;>simp_all [Go.Sl.D.of]
        subst hgs
        have hpl:=W8_ hti hu
        simp only [zCa,Bool.and_eq_true,Bool.not_eq_true',all_eq_true,bne_iff_ne,ne_eq] at hpl
        simp only [i3,hg,if_true]
        have hfs:fs=gs.toList.map fun f=>(f.type,f.offset,P.cellsOf f.type):=by
          rw [hd] at h1;simp only [Go.Sl.D.of,Go.Sl.D.struct.injEq] at h1;exact h1
        rw [hfs] at h
        have key:=y2 hT (sp:=L7 T d) (fun t' s' hs'=>M9 hT d t' s' hs' D (by omega)) em w gs.toList 0 sp h b (xs:=xs) (ys:=ys) (by simpa using hb) (by simp)
        unfold Instr.checkKey
        simp only [Sem.run_bind,run_underlying hu,Result.andThen_ok]
        rw [<-Array.forIn_toList]
        rw [o5 w _ gs.toList fun g hg=>by
          obtain ⟨v,p1,p2⟩:=key g hg
          simp [hpl.2 g hg,p1,p2]]
        rfl
      . rename_i n e hd
        have hg:ti.agg=true:=by simp [TI.agg,hd]
        refine ⟨.inl hg,fun em w xs ys b hb=>?_⟩
        split at h
        . rename_i s te hs' hte
          split at h
          . rename_i hl
            cases h
            have hu':P.underlying t=some (.array n e):=by rw [hu];cases u<;>simp_all [Go.Sl.D.of]
            obtain ⟨_,i',_,_,hi',_,_,_,_,hsz,_⟩:=D3 (hT _ _ hte)
            simp only [i3,hg,if_true]
            have key:=ZU_ hT hte (M9 hT d e s hs' D (by omega)).2 hl em w n 0 b (xs:=xs) (ys:=ys) (by simpa using hb) (by simp)
            unfold Instr.checkKey
            simp only [Sem.run_bind,run_underlying hu',Result.andThen_ok]
            simp only [Std.Legacy.Range.forIn_eq_forIn_range',Std.Legacy.Range.size,Nat.sub_zero,Nat.add_one_sub_one,Nat.div_one]
            rw [o5 w _ (List.range' 0 n) fun i hi=>by
              obtain ⟨v,p1,p2⟩:=key i hi
              simp [B9 (hT _ _ hte),p1,p2]]
            rfl
          cases h
        cases h
      cases h
    cases h
def Yo_ (sp:List EK) (cs:List V):List (V × V)->Option (Option V)
 | []=>some none
 | (.agg ds,v)::r =>
  match E7 sp cs ds with
  | some true=>some (some v)
  | some false=>Yo_ sp cs r
  | none=>none
 | _=>none
def Js_ (sp:List EK) (cs:List V) (v:V):List (V × V)->Option (List (V × V))
 | []=>some [(.agg cs,v)]
 | (.agg ds,u)::r =>
  match E7 sp cs ds with
  | some true=>some ((.agg ds,v)::r)
  | some false=>(Js_ sp cs v r).map ((.agg ds,u)::·)
  | none=>none
 | _=>none
end
end Go.Sl
namespace Go.Sl
section
variable {fr:Nat->Prop} {F:Nat->Prop} {ι ι':E3} {O:Nat->Prop} {H:A8} {σ σ':St} {a a':Act} {w w':World} {P:Program} {T:Tab}
theorem VA_ (hfr : fr σ.k) (hh : Holds fr F ι σ a w) (l : Loc) (hl : l.b = w.heap.size) (b : B) (o : Obj) (hb : ∀ ι' O', Stays ι (Own F ι σ.H) w ι' O' (w.alloc o) → BRel ι' O' (w.alloc o) l b)
    {v:V} {cv:Value} (hcv:∀ ι',ι' σ.k=some l->VRel ι' (Own F ι' ((σ.k,b)::σ.H)) (w.alloc o) v cv) :
    Out fr F ι σ.H σ.k w (upd ι σ.k l) v cv ((σ.k,b)::σ.H) (σ.k+1) (w.alloc o):=by
  have hk:=hh.fresh σ.k hfr (Nat.le_refl _)
  have hhp:∀ i,i<w.heap.size->(w.alloc o).heap[i]?=w.heap[i]?:=fun i hi=>by rw [show (w.alloc o).heap=w.heap.push o from rfl,Array.getElem?_push,if_neg (Nat.ne_of_lt hi)]
  have hsz:(w.alloc o).heap.size=w.heap.size+1:=World.size_alloc w o
  refine ⟨⟨u1 hh.rep hk _ _ hl rfl (Tp.same rfl rfl) rfl (by omega) hhp,Nat.le_succ _,fun n hn=>F9 _ _ _ _ (fun e=>by subst e;have:=hn hfr;omega),?_⟩,?_,?_,hcv _ (B4 _ _ _)⟩
  . intro n hn
    simp only [map_cons,mem_cons] at hn
    rcases hn with hn|hn
    . subst hn;exact .inr ⟨hfr,by omega⟩
    exact .inl hn
  . exact hh.rep.alloc hk _ _ hl rfl (Tp.same rfl rfl) rfl (by omega) hhp hb
  intro n hf hn
  rw [F9 _ _ _ _ (by omega)]
  exact hh.fresh n hf (by omega)
theorem zFe (hfr:fr σ.k) {o:Oper} {K:V->A8->Nat->Prop} (t:TypeId) (ho:o.op=.makeMap t none) (hk:K (.map σ.k) ((σ.k,.map [])::σ.H) (σ.k+1)):OpT fr P o σ K :=
 S6 fun F ι a w hh=>by
  refine ⟨_,_,_,_,_,_,?_,hk,VA_ hfr hh ⟨w.heap.size,0,0,0,false,true⟩ rfl (.map []) (.map #[] 0) ?_ (cv:=.map (some w.heap.size)) ?_⟩
  .unfold execOp;rw [ho];simp [Instr.makeMap]
  .intro ι' O' S
   exact ⟨rfl,rfl,#[],by rw [show (w.alloc (.map #[] 0)).heap=w.heap.push (.map #[] 0) from rfl,Array.getElem?_push,if_pos rfl];rfl,.nil,.nil,rfl⟩
  intro ι' h;exact .map h rfl rfl
theorem Rep.mapAt (R : Rep F ι H w) {n : Nat} {es : List (V × V)} (h : look n H = some (.map es)) {l : Loc} (hl : ι n = some l) :
    l.ghost=false/\l.map=true/\∃ mes:Array MapEntry,w.heap[l.b]?=some (.map mes mes.size)/\VRels ι (Own F ι H) w (es.map (·.1)) (mes.toList.map (·.key)) ∧
      VRels ι (Own F ι H) w (es.map (·.2)) (mes.toList.map (·.val))/\mes.toList.map (·.born)=List.range mes.size:=by
  obtain ⟨l',hl',hB,_⟩:=R.known h
  rw [hl] at hl';cases hl'
  exact hB
structure MapT (P:Program) (T:Tab) (t:TypeId) (sp:List EK) (te:TI) (kt et:TypeId):Prop where
 u:P.underlying t=some (.map kt et)
 sp:L7 T 16 kt=some sp
 agg:∃ ti,T kt=some ti/\ti.agg=true
 e:C8 P et=some te
theorem zCe (hT : J9 P T) {kt : TypeId} {sp : List EK} (hsp : L7 T 16 kt = some sp) {ti : TI} (hti : T kt = some ti) (hg : ti.agg = true) (w : World) {cs : List V} {xs : List Value} (hx : VRels ι O w cs xs) :
    ∀ (es:List (V × V)) (mes:List MapEntry) (i:Nat) (r:Option V),VRels ι O w (es.map (·.1)) (mes.map (·.key))->VRels ι O w (es.map (·.2)) (mes.map (·.val))->Yo_ sp cs es=some r →
      (r=none/\(Instr.findAsking kt (.agg xs.toArray) mes i).run P w=.ok none w)\/∃ v q x,r=some v/\(Instr.findAsking kt (.agg xs.toArray) mes i).run P w=.ok (some (q,x)) w/\VRel ι O w v x
  | [],mes,i,r,h1,_,hf=>by
    have:mes=[]:=by cases mes with|nil=>rfl|cons=>simp at h1;cases h1
    subst this
    simp only [Yo_] at hf
    cases hf
    exact .inl ⟨rfl,by simp [Instr.findAsking]⟩
  | (k,v)::es,mes,i,r,h1,h2,hf=>by
    cases mes with
    | nil=>simp at h1;cases h1
    | cons e mes =>
      simp only [map_cons] at h1 h2
      cases h1 with
      | cons hk1 h1 =>
      cases h2 with
      | cons hv1 h2 =>
      unfold Yo_ at hf
      split at hf
      . simp at *
      . rename_i ds v' r' he
        cases he
        have hq:=(L0 hT 16 kt sp hsp 10000 (by omega)).2 ti hti
        generalize hky:e.key=ky at hk1
        cases hk1 with
        | agg hk1 =>
        have hcell:∀ b,E7 sp cs ds=some b->(Op.equal kt (.agg xs.toArray) e.key).run P w=.ok b w:=fun b hb=>by
          have hr:=hq.2 w _ _ b (U0 hb hx hk1)
          simp only [i3,hg,if_true] at hr
          rw [hky];exact hr
        split at hf
        . rename_i hb
          cases hf
          exact .inr ⟨_,i,e.val,rfl,by simp [Instr.findAsking,hcell true hb],hv1⟩
        . rename_i hb
          rcases zCe hT hsp hti hg w hx es mes (i+1) r h1 h2 hf with ⟨h3,h4⟩|⟨u,q,x,h3,h4,h5⟩
          . exact .inl ⟨h3,by simp [Instr.findAsking,hcell false hb,h4]⟩
          exact .inr ⟨u,q,x,h3,by simp [Instr.findAsking,hcell false hb,h4],h5⟩
        cases hf
      cases hf
variable {done:List Nat} {mes:Array MapEntry} {o:Oper}
theorem zHb {kt:TypeId} {ti:TI} (hti:C8 P kt=some ti) (hg:ti.agg=true):(match P.underlying kt with|some (.array _ _)|some (.struct _)=>true|_=>false)=true:=by
 obtain ⟨d,i,z,hd,hi,hz,_,_,h1,_⟩:=D3 hti
 unfold TI.agg at hg
 rw [h1] at hg
 rw [hd]
 cases d<;>simp_all [D.of]
theorem zHc {t:TypeId} {ti:TI} (hti:C8 P t=some ti) (ι:E3) (O:Nat->Prop) (w:World):∃ z,(zeroValue t).run P w=.ok z w/\VRel ι O w ti.zeroV z:=by
 obtain ⟨d,i,z,hd,hi,hz,hs,ha,h1,h2,h3,h4,h5⟩:=D3 hti
 have hone:=(H3 hti).1
 refine ⟨z,by simp [zeroValue,typeInfo,hi,hz],?_⟩
 unfold TI.zeroV
 have hag:ti.agg=XT_ z:=by
  rw [h5];unfold TI.agg;rw [h1]
  cases d<;>rfl
 rw [hag]
 cases z with
 | agg c =>
  rw [if_pos (show XT_ (.agg c)=true from rfl),h4]
  have:=VRel.agg (VRels.vals (ι:=ι) (O:=O) (w:=w) (xs:=c.toList) fun v hv=>hone v (by rw [h4];exact hv))
  simpa [Value.cells] using this
 | _ =>
  rw [if_neg (by simp [XT_]),h4]
  exact .val _ (hone _ (by rw [h4];simp [Value.cells]))
theorem zHd (hT : J9 P T) {o : Oper} {K : V → A8 → Nat → Prop} (t : TypeId) (m x : Operand) (ok : Bool) (ho : o.op = .lookup t m x ok) {tm : TI} (htm : C8 P t = some tm) {kt et : TypeId} (hd : tm.d = .map kt et) {sp : List EK} (hsp : L7 T 16 kt = some sp) {ti : TI} (hti : T kt = some ti) (hg : ti.agg = true)
    {te:TI} (hte:C8 P et=some te) {n:Nat} {es:List (V × V)} (hm:A7 σ.t m=.map n) (hn:look n σ.H=some (.map es)) {cs:List V} (hx:A7 σ.t x=.agg cs) {b:Bool} (hself:E7 sp cs cs=some b) {r:Option V} (hf:Yo_ sp cs es=some r)
    (hk:K (if ok then .tup [r.getD te.zeroV,.val (.bool r.isSome)] else r.getD te.zeroV) σ.H σ.k):OpT fr P o σ K :=
  C5 hk fun F ι a w hh=>by
    have he:=hh.eval m
    have hy:=hh.eval x
    rw [hm] at he;rw [hx] at hy
    generalize hcv:a.eval m=cv at he
    generalize hcx:a.eval x=cx at hy
    cases hy with
    | agg hy =>
    cases he with
    | map hl hgh hmp =>
    rename_i vs l
    obtain ⟨_,_,mes,hw,h1,h2,h3⟩:=hh.rep.mapAt hn hl
    have hu:P.underlying t=some (.map kt et):=by
      obtain ⟨d,i,z,hd',hi,hz,_,_,h1,_⟩:=D3 htm
      rw [hd] at h1
      rw [hd'];cases d<;>simp_all [D.of]
    have hck:=((M9 hT 16 kt sp hsp 10000 (by omega)).2 ti hti).2 mes.isEmpty w _ _ b (U0 hself hy hy)
    simp only [i3,hg,if_true] at hck
    have hfk:=run_findKey_eq (P:=P) (w:=w) (zHb (hT _ _ hti) hg) (.agg vs.toArray) mes.toList
    obtain ⟨z,hz,hzv⟩:=zHc hte ι (Own F ι σ.H) w
    rcases zCe hT hsp hti hg w hy es mes.toList 0 r (by simpa using h1) (by simpa using h2) hf with ⟨rfl,h4⟩|⟨u,q,y,rfl,h4,h5⟩
    . rw [h4] at hfk
      cases ok
      . refine ⟨z,?_,by simpa using hzv⟩
        unfold execOp;rw [ho]
        simp [hcv,hcx,Instr.lookup,run_underlying hu,getObj,Sem.run,hw,hck,hfk,hz]
      refine ⟨.tuple #[z,.bool false],?_,?_⟩
      . unfold execOp;rw [ho]
        simp [hcv,hcx,Instr.lookup,run_underlying hu,getObj,Sem.run,hw,hck,hfk,hz]
      exact .tup (.cons hzv (.cons (.val _ rfl) .nil))
    rw [h4] at hfk
    cases ok
    . refine ⟨y,?_,by simpa using h5⟩
      unfold execOp;rw [ho]
      simp [hcv,hcx,Instr.lookup,run_underlying hu,getObj,Sem.run,hw,hck,hfk]
    refine ⟨.tuple #[y,.bool true],?_,?_⟩
    . unfold execOp;rw [ho]
      simp [hcv,hcx,Instr.lookup,run_underlying hu,getObj,Sem.run,hw,hck,hfk]
    exact .tup (.cons h5 (.cons (.val _ rfl) .nil))
theorem zHe (hT : J9 P T) {kt : TypeId} {sp : List EK} (hsp : L7 T 16 kt = some sp) {ti : TI} (hti : T kt = some ti) (hg : ti.agg = true) (w : World) {cs : List V} {xs : List Value} (hx : VRels ι O w cs xs) {v : V} {x : Value} (hv : VRel ι O w v x) :
    ∀ (es:List (V × V)) (mes:List MapEntry) (i:Nat) (es':List (V × V)),VRels ι O w (es.map (·.1)) (mes.map (·.key))->VRels ι O w (es.map (·.2)) (mes.map (·.val))->Js_ sp cs v es=some es' →
      ((Instr.findAsking kt (.agg xs.toArray) mes i).run P w=.ok none w/\es'=es++[(.agg cs,v)]) ∨
      ∃ q u,(Instr.findAsking kt (.agg xs.toArray) mes i).run P w=.ok (some (i+q,u)) w/\(∃ e,mes[q]?=some e/\e.key=.agg xs.toArray)/\es'.map (·.1)=es.map (·.1)/\∃ l1 y l2,es.map (·.2)=l1++y::l2/\l1.length=q/\es'.map (·.2)=l1++v::l2
  | [],mes,i,es',h1,_,hf=>by
    have:mes=[]:=by cases mes with|nil=>rfl|cons=>simp at h1;cases h1
    subst this
    simp only [Js_] at hf
    cases hf
    exact .inl ⟨by simp [Instr.findAsking],rfl⟩
  | (k,v0)::es,mes,i,es',h1,h2,hf=>by
    cases mes with
    | nil=>simp at h1;cases h1
    | cons e mes =>
      simp only [map_cons] at h1 h2
      cases h1 with
      | cons hk1 h1 =>
      cases h2 with
      | cons hv1 h2 =>
      unfold Js_ at hf
      split at hf
      . simp at *
      . rename_i ds v' r' he
        cases he
        have hq:=(L0 hT 16 kt sp hsp 10000 (by omega)).2 ti hti
        generalize hky:e.key=ky at hk1
        cases hk1 with
        | agg hk1 =>
        have hcell:∀ b,E7 sp cs ds=some b->(Op.equal kt (.agg xs.toArray) e.key).run P w=.ok b w:=fun b hb=>by
          have hr:=hq.2 w _ _ b (U0 hb hx hk1)
          simp only [i3,hg,if_true] at hr
          rw [hky];exact hr
        split at hf
        . rename_i hb
          cases hf
          refine .inr ⟨0,e.val,by simp [Instr.findAsking,hcell true hb],⟨e,rfl,?_⟩,rfl,[],_,_,rfl,rfl,rfl⟩
          rw [hky,<-i4 (U0 hb hx hk1)]
        . rename_i hb
          obtain ⟨r,hr,rfl⟩:=Option.map_eq_some_iff.1 hf
          rcases zHe hT hsp hti hg w hx hv es mes (i+1) r h1 h2 hr with ⟨h3,rfl⟩|⟨q,u,h3,⟨e',he1,he2⟩,h4,l1,y,l2,h5,h6,h7⟩
          . exact .inl ⟨by simp [Instr.findAsking,hcell false hb,h3],rfl⟩
          refine .inr ⟨q+1,u,?_,⟨e',by simpa using he1,he2⟩,by simp [h4],_::l1,y,l2,by simp only [map_cons,h5];rfl,by simp [h6],by simp only [map_cons,h7];rfl⟩
          simp [Instr.findAsking,hcell false hb,h3];omega
        cases hf
      cases hf
theorem VRels.put_at {l1 l2:List V} {y v:V} {xs:List Value} {x:Value} (h:VRels ι O w (l1++y::l2) xs) (hv:VRel ι O w v x):VRels ι O w (l1++v::l2) (xs.set l1.length x):=by
 induction l1 generalizing xs with
 | nil=>cases h with|cons h hs=>exact .cons hv hs
 | cons a l1 ih=>cases h with|cons h hs=>exact .cons h (ih hs)
theorem QP_ (hT : J9 P T) {o : Oper} {K : V → A8 → Nat → Prop} (t : TypeId) (m x y : Operand) (ho : o.op = .mapUpdate t m x y) {tm : TI} (htm : C8 P t = some tm) {kt et : TypeId} (hd : tm.d = .map kt et) {sp : List EK} (hsp : L7 T 16 kt = some sp) {ti : TI} (hti : T kt = some ti) (hg : ti.agg = true)
    {n:Nat} {es es':List (V × V)} (hm:A7 σ.t m=.map n) (hn:look n σ.H=some (.map es)) {cs:List V} (hx:A7 σ.t x=.agg cs) {b:Bool} (hself:E7 sp cs cs=some b) (hf:Js_ sp cs (A7 σ.t y) es=some es')
    (hk:K (.tup []) (put n (.map es') σ.H) σ.k):OpT fr P o σ K :=
  zCb fun F ι a w hh=>by
    have he:=hh.eval m
    have hy:=hh.eval x
    have hv:=hh.eval y
    rw [hm] at he;rw [hx] at hy
    generalize hcv:a.eval m=cv at he
    generalize hcx:a.eval x=cx at hy
    generalize hcy:a.eval y=cy at hv
    generalize A7 σ.t y=v at hf hv
    cases hy with
    | agg hy =>
    cases he with
    | map hl hgh hmp =>
    rename_i vs l
    obtain ⟨_,_,mes,hw,h1,h2,h3⟩:=hh.rep.mapAt hn hl
    have hu:P.underlying t=some (.map kt et):=by
      obtain ⟨d,i,z,hd',hi,hz,_,_,h1,_⟩:=D3 htm
      rw [hd] at h1
      rw [hd'];cases d<;>simp_all [D.of]
    have hck:=((M9 hT 16 kt sp hsp 10000 (by omega)).2 ti hti).2 false w _ _ b (U0 hself hy hy)
    simp only [i3,hg,if_true] at hck
    have hflat:=i5 (U0 hself hy hy)
    have hfk:=run_findKey_eq (P:=P) (w:=w) (zHb (hT _ _ hti) hg) (.agg vs.toArray) mes.toList
    have hlt:l.b<w.heap.size:=by
      have:=Array.getElem?_eq_some_iff.1 hw;exact this.1
    have hmem:=D6 hn
    have hset:∀ ob:Obj,(setObj l.b ob).run P w=.ok () { w with heap:=w.heap.setIfInBounds l.b ob }:=fun ob=>by simp [setObj,Sem.run,hw]
    have fin : ∀ (mes' : Array MapEntry), VRels ι (Own F ι σ.H) w (es'.map (·.1)) (mes'.toList.map (·.key)) → VRels ι (Own F ι σ.H) w (es'.map (·.2)) (mes'.toList.map (·.val)) → mes'.toList.map (·.born) = List.range mes'.size →
        Out fr F ι σ.H σ.k w ι (.tup []) undef (put n (.map es') σ.H) σ.k { w with heap:=w.heap.setIfInBounds l.b (.map mes' mes'.size) }:=fun mes' g1 g2 g3=>by
      have hoth:∀ q,q<w.heap.size->q≠l.b->(w.heap.setIfInBounds l.b (Obj.map mes' mes'.size))[q]?=w.heap[q]?:=fun q _ hq=>by
        rw [Array.getElem?_setIfInBounds,if_neg (Ne.symm hq)]
      refine ⟨⟨f9 hmem hl hgh hh.rep.names rfl (Tp.same rfl rfl) rfl (by simp) hoth,Nat.le_refl _,fun _ _=>rfl,fun m hm=>.inl (by rw [T8] at hm;exact hm)⟩,hh.rep.put hmem hl hgh rfl (Tp.same rfl rfl) rfl (by simp) hoth fun O' S=>?_,hh.fresh,VRel.tup .nil⟩
      exact ⟨hgh,hmp,mes',by show (w.heap.setIfInBounds l.b _)[l.b]?=_;rw [Array.getElem?_setIfInBounds,if_pos rfl,if_pos hlt],g1.stays S,g2.stays S,g3⟩
    rcases zHe hT hsp hti hg w hy hv es mes.toList 0 es' (by simpa using h1) (by simpa using h2) hf with ⟨h4,rfl⟩|⟨q,u,h4,⟨e,he1,he2⟩,h5,l1,y0,l2,h6,h7,h8⟩
    . rw [h4] at hfk
      refine ⟨ι,.tup [],_,σ.k,_,?_,hk,fin (mes.push ⟨.agg vs.toArray,cy,mes.size⟩) ?_ ?_ ?_⟩
      . unfold execOp;rw [ho]
        simp [hcv,hcx,hcy,Instr.mapUpdate,run_underlying hu,getObj,Sem.run,hw,hck,hfk,hset]
      . simpa using h1.snoc (.agg hy)
      . simpa using h2.snoc hv
      simp [range_succ,h3]
    rw [h4] at hfk
    have hq:q<mes.size:=by have:=(List.getElem?_eq_some_iff.1 he1).1;simpa using this
    have hek:mes[q]?=some e:=by rw [<-Array.getElem?_toList];exact he1
    have hkt:(Instr.keyThatStays ((Option.map (·.key) mes[q]?).getD (.agg vs.toArray)) (.agg vs.toArray)).run P w=.ok (.agg vs.toArray) w:=by
      rw [hek]
      simp only [Option.map_some,Option.getD_some,he2]
      have hsb:Instr.sameBits 10000 (.agg vs.toArray) (.agg vs.toArray)=true:=by
        rw [Instr.sameBits]
        simp only [beq_self_eq_true,Bool.true_and,all_eq_true]
        intro p hp
        obtain ⟨p1,p2⟩:=p
        have hz:p1=p2/\p1∈vs:=by
          have:=List.mem_iff_getElem?.1 hp
          obtain ⟨i,hi⟩:=this
          rw [List.getElem?_zip_eq_some] at hi
          obtain ⟨a1,a2⟩:=hi
          rw [a1] at a2
          exact ⟨Option.some.inj a2,by simpa using List.mem_of_getElem? a1⟩
        obtain ⟨rfl,hm⟩:=hz
        exact hflat 9999 p1 hm
      unfold Instr.keyThatStays
      rw [if_pos hsb];rfl
    refine ⟨ι,.tup [],_,σ.k,_,?_,hk,fin (mes.modify q fun e=>{ e with key:=.agg vs.toArray,val:=cy }) ?_ ?_ ?_⟩
    . unfold execOp;rw [ho]
      simp only [Nat.zero_add] at hfk
      simp [hcv,hcx,hcy,Instr.mapUpdate,run_underlying hu,getObj,Sem.run,hw,hck,hfk,hkt,hset]
    · have e1 : (mes.modify q fun e => { e with key := .agg vs.toArray, val := cy }).toList.map (·.key) = mes.toList.map (·.key) := by
        rw [Array.toList_modify]
        apply List.ext_getElem?
        intro i
        simp only [List.getElem?_map,List.getElem?_modify]
        by_cases hi:q=i
        . subst hi;simp [hek,he2]
        simp [hi]
      rw [e1,h5];simpa using h1
    · have e1 : (mes.modify q fun e => { e with key := .agg vs.toArray, val := cy }).toList.map (·.val) = (mes.toList.map (·.val)).set q cy := by
        rw [Array.toList_modify]
        apply List.ext_getElem?
        intro i
        rw [List.getElem?_set]
        simp only [List.getElem?_map,List.getElem?_modify,length_map,Array.length_toList]
        by_cases hi:q=i
        . subst hi;simp [hek,hq]
        simp [hi]
      rw [e1,h8,<-h7]
      rw [h6] at h2
      exact VRels.put_at (by simpa using h2) hv
    have e1:(mes.modify q fun e=>{ e with key:=.agg vs.toArray,val:=cy }).toList.map (·.born)=mes.toList.map (·.born):=by
      rw [Array.toList_modify]
      apply List.ext_getElem?
      intro i
      simp only [List.getElem?_map,List.getElem?_modify]
      by_cases hi:q=i
      . subst hi;simp [hek]
      simp [hi]
    rw [e1,h3];simp
theorem zO3 (hfr : fr σ.k) {o : Oper} {K : V → A8 → Nat → Prop} (t : TypeId) (m : Operand) (ho : o.op = .range t m) {tm : TI} (htm : C8 P t = some tm) {kt et : TypeId} (hd : tm.d = .map kt et) {n : Nat} {es : List (V × V)} (hm : A7 σ.t m = .map n) (hn : look n σ.H = some (.map es))
    (hk:K (.ptr σ.k 0 0) ((σ.k,.iter n [] es.length)::σ.H) (σ.k+1)):OpT fr P o σ K :=
  S6 fun F ι a w hh=>by
    have he:=hh.eval m
    rw [hm] at he
    generalize hcv:a.eval m=cv at he
    cases he with
    | map hl hgh hmp =>
    rename_i lm
    obtain ⟨_,_,mes,hw,h1,h2,h3⟩:=hh.rep.mapAt hn hl
    have hu:P.underlying t=some (.map kt et):=by
      obtain ⟨d,i,z,hd',hi,hz,_,_,h1,_⟩:=D3 htm
      rw [hd] at h1
      rw [hd'];cases d<;>simp_all [D.of]
    have hlen:es.length=mes.size:=by have:=h1.length;simpa using this
    refine ⟨_,_,_,_,_,_,?_,hk,VA_ hfr hh ⟨w.heap.size,0,0,0,false,false⟩ rfl (.iter n [] es.length) (.mapIter (some lm.b) mes.size #[] mes.size) ?_ (cv:=.pointer (some ⟨w.heap.size,0,none⟩)) ?_⟩
    . unfold execOp;rw [ho];simp [hcv,Instr.range,run_underlying hu,getObj,Sem.run,hw]
    . intro ι' O' S
      refine ⟨rfl,rfl,rfl,lm,S.le _ _ hl,hgh,?_⟩
      rw [show (w.alloc (.mapIter (some lm.b) mes.size #[] mes.size)).heap=w.heap.push (.mapIter (some lm.b) mes.size #[] mes.size) from rfl,Array.getElem?_push,if_pos rfl,hlen]
    intro ι' h;exact .ptr h rfl rfl (by simp)
theorem Rep.iterAt (R : Rep F ι H w) {r m n : Nat} {done : List Nat} (h : look r H = some (.iter m done n)) {l : Loc} (hl : ι r = some l) :
    l.ghost=false/\l.map=false/\l.o=0/\∃ lm,ι m=some lm/\lm.ghost=false/\w.heap[l.b]?=some (.mapIter (some lm.b) n done.toArray n):=by
  obtain ⟨l',hl',hB,_⟩:=R.known h
  rw [hl] at hl';cases hl'
  exact hB
theorem zO4 (h3:mes.toList.map (·.born)=List.range mes.size) (h:(leftOf mes done.toArray).size=0):∀ i,i<mes.size->i∈done:=by
 intro i hi
 have hb:mes[i].born=i:=by
  have:=congrArg (·[i]?) h3
  simp [hi] at this
  exact this
 refine Classical.byContradiction fun hc=>?_
 have hm:mes[i]∈leftOf mes done.toArray:=by
  unfold leftOf
  rw [Array.mem_filter]
  refine ⟨Array.getElem_mem hi,?_⟩
  simpa [hb] using hc
 have:leftOf mes done.toArray=#[]:=Array.eq_empty_of_size_eq_zero h
 rw [this] at hm
 simp at hm
theorem zO5 (h3:mes.toList.map (·.born)=List.range mes.size) {e:MapEntry} (h:e∈(leftOf mes done.toArray).toList):∃ i,mes[i]?=some e/\e.born=i/\i∉done:=by
 unfold leftOf at h
 have h':e∈mes.filter (fun e=>!done.toArray.contains e.born):=by simpa using h
 rw [Array.mem_filter] at h'
 obtain ⟨h1,h2⟩:=h'
 obtain ⟨i,hi,rfl⟩:=Array.mem_iff_getElem.1 h1
 have hb:mes[i].born=i:=by
  have:=congrArg (·[i]?) h3
  simp [hi] at this
  exact this
 exact ⟨i,by simp [hi],hb,by rw [hb] at h2;simpa using h2⟩
theorem zUj {K:V → A8 → Nat → Prop} (t : Operand) (ho : o.op = .next t false) {r m n : Nat} {done : List Nat} {es : List (V × V)} (hx : A7 σ.t t = .ptr r 0 0) (hr : look r σ.H = some (.iter m done n)) (hm : look m σ.H = some (.map es)) (hn : es.length = n)
    (h0:(∀ i,i<n->i∈done)->K (.tup [.val (.bool false)]) σ.H σ.k)
    (h1:∀ i p,es[i]?=some p->i∉done->K (.tup [.val (.bool true),p.1,p.2]) (put r (.iter m (done++[i]) n) σ.H) σ.k):OpT fr P o σ K :=
  S6 fun F ι a w hh=>by
    have he:=hh.eval t
    rw [hx] at he
    generalize hcv:a.eval t=cv at he
    cases he with
    | ptr hl hg hmp hoff =>
    rename_i off l
    obtain ⟨_,_,hlo,lm,hlm,hgm,hw⟩:=hh.rep.iterAt hr hl
    obtain ⟨_,_,mes,hwm,e1,e2,e3⟩:=hh.rep.mapAt hm hlm
    have hlen:es.length=mes.size:=by have:=e1.length;simpa using this
    have hoff0:off=0:=by rw [hoff,hlo];simp
    subst hoff0
    have hns:n=mes.size:=by omega
    subst hns
    have hold:∀ x∈mes.toList,x.born<mes.size:=fun x hx=>by
      have:x.born∈mes.toList.map (·.born):=List.mem_map.2 ⟨x,hx,rfl⟩
      rw [e3] at this;simpa using this
    have hrun:(execOp a.eval o).run P w=((Instr.next (.pointer (some ⟨l.b,0,none⟩)) false o.type).run P w).andThen fun v w'=>.ok (.value v) w':=by
      unfold execOp;rw [ho];simp [hcv]
    have hmemr:=D6 hr
    have hlt:l.b<w.heap.size:=(Array.getElem?_eq_some_iff.1 hw).1
    rcases run_next_at (P:=P) w o.type l.b lm.b mes.size mes.size done.toArray mes mes.size hw hwm hold (Nat.le_refl _) with ⟨h2,h3⟩|⟨e,h2,w1,h3,h4⟩
    . refine ⟨ι,_,.tuple #[.bool false],σ.H,σ.k,w,by rw [hrun,h3];rfl,h0 (zO4 e3 h2),hh.same (.tup (.cons (.val _ rfl) .nil))⟩
    obtain ⟨i,hi,hb,hnd⟩:=zO5 e3 h2
    have hil:i<mes.size:=(Array.getElem?_eq_some_iff.1 hi).1
    obtain ⟨p,hp⟩:∃ p,es[i]?=some p:=⟨_,List.getElem?_eq_getElem (by omega)⟩
    have hil2:mes.toList[i]?=some e:=by rw [Array.getElem?_toList];exact hi
    obtain ⟨x1,hx1,hv1⟩:=e1.get i p.1 (by simp [hp])
    obtain ⟨x2,hx2,hv2⟩:=e2.get i p.2 (by simp [hp])
    have hx1':x1=e.key:=by rw [List.getElem?_map,hil2] at hx1;simpa using hx1.symm
    have hx2':x2=e.val:=by rw [List.getElem?_map,hil2] at hx2;simpa using hx2.symm
    subst hx1' hx2'
    have hw1:w1.heap=w.heap/\w1.os=w.os/\Tp w w1/\w1.output=w.output:=by rcases h3 with rfl|rfl;exact ⟨rfl,rfl,Tp.refl _,rfl⟩;exact ⟨rfl,rfl,Tp.drew _,rfl⟩
    obtain ⟨g1,g2,g3,g4⟩:=hw1
    have hoth:∀ q,q<w.heap.size->q≠l.b->(ChangeMaps.setBlock w1 l.b (Obj.mapIter (some lm.b) mes.size (done.toArray.push e.born) mes.size)).heap[q]?=w.heap[q]?:=fun q _ hq=>by
      show (w1.heap.setIfInBounds l.b _)[q]?=_
      rw [Array.getElem?_setIfInBounds,if_neg (Ne.symm hq),g1]
    have hsz:w.heap.size<=(ChangeMaps.setBlock w1 l.b (Obj.mapIter (some lm.b) mes.size (done.toArray.push e.born) mes.size)).heap.size:=by
      show _<=(w1.heap.setIfInBounds l.b _).size
      rw [Array.size_setIfInBounds,g1];exact Nat.le_refl _
    have K1:=f9 (w':=ChangeMaps.setBlock w1 l.b (Obj.mapIter (some lm.b) mes.size (done.toArray.push e.born) mes.size)) (b':=.iter m (done++[i]) mes.size) hmemr hl hg hh.rep.names g2 g3 g4 hsz hoth
    refine ⟨ι,_,.tuple #[.bool true,e.key,e.val],_,σ.k,ChangeMaps.setBlock w1 l.b (Obj.mapIter (some lm.b) mes.size (done.toArray.push e.born) mes.size),by rw [hrun,h4];rfl,h1 i p hp hnd,⟨K1,Nat.le_refl _,fun _ _=>rfl,fun m hm=>.inl (by rw [T8] at hm;exact hm)⟩,
      hh.rep.put (w':=ChangeMaps.setBlock w1 l.b (Obj.mapIter (some lm.b) mes.size (done.toArray.push e.born) mes.size)) hmemr hl hg g2 g3 g4 hsz hoth fun O' S=>⟨hg,hmp,hlo,lm,hlm,hgm,?_⟩,hh.fresh,?_⟩
    . show (w1.heap.setIfInBounds l.b _)[l.b]?=_
      rw [Array.getElem?_setIfInBounds,if_pos rfl,if_pos (by rw [g1];exact hlt),hb]
      simp
    exact .tup (.cons (.val _ rfl) (.cons (hv1.stays K1.stays) (.cons (hv2.stays K1.stays) .nil)))
theorem zO6 {K:V → A8 → Nat → Prop} (t : Operand) (ho : o.op = .entry t) {r m n i : Nat} {done : List Nat} {es : List (V × V)} (hx : A7 σ.t t = .ptr r 0 0) (hr : look r σ.H = some (.iter m (done ++ [i]) n)) (hm : look m σ.H = some (.map es)) (hn : es.length = n)
    {p:V × V} (hp:es[i]?=some p) (hk:K (.tup [p.1,p.2]) σ.H σ.k):OpT fr P o σ K :=
  C5 hk fun F ι a w hh=>by
    have he:=hh.eval t
    rw [hx] at he
    generalize hcv:a.eval t=cv at he
    cases he with
    | ptr hl hg hmp hoff =>
    rename_i off l
    obtain ⟨_,_,hlo,lm,hlm,hgm,hw⟩:=hh.rep.iterAt hr hl
    obtain ⟨_,_,mes,hwm,e1,e2,e3⟩:=hh.rep.mapAt hm hlm
    have hlen:es.length=mes.size:=by have:=e1.length;simpa using this
    have hoff0:off=0:=by rw [hoff,hlo];simp
    subst hoff0
    have hns:n=mes.size:=by omega
    subst hns
    have hil:i<mes.size:=by have:=(List.getElem?_eq_some_iff.1 hp).1;omega
    have hb:mes[i].born=i:=by
      have:=congrArg (·[i]?) e3
      simp [hil] at this
      exact this
    have hil2:mes.toList[i]?=some mes[i]:=by simp [hil]
    obtain ⟨x1,hx1,hv1⟩:=e1.get i p.1 (by simp [hp])
    obtain ⟨x2,hx2,hv2⟩:=e2.get i p.2 (by simp [hp])
    have hx1':x1=mes[i].key:=by rw [List.getElem?_map,hil2] at hx1;simpa using hx1.symm
    have hx2':x2=mes[i].val:=by rw [List.getElem?_map,hil2] at hx2;simpa using hx2.symm
    subst hx1' hx2'
    have hrun:=run_entry_at (P:=P) w l.b lm.b mes.size done.toArray mes mes.size mes[i] (by rw [hw,hb];simp) hwm (by simp) (by rw [e3];exact nodup_range)
    refine ⟨.tuple #[mes[i].key,mes[i].val],?_,.tup (.cons hv1 (.cons hv2 .nil))⟩
    unfold execOp;rw [ho];simp [hcv,hrun]
end
end Go.Sl
namespace Go.Sl
def zbf (H:A8) (z:Nat) (x:V):Option (List V × Nat) :=
 match x with
 | .sub n i j z' len =>
  match look n H with
  | some (.rows _ es)=>if z'=z/\i<es.length/\j+len*z<=(es.getD i .any).cells.length then some (((es.getD i .any).cells.drop j).take (len*z),len) else none
  | _=>none
 | x=>(m7 H z x).map fun es=>(es.flatMap V.cells,es.length)
section
variable {fr:Nat->Prop} {F:Nat->Prop} {ι ι':E3} {O:Nat->Prop} {H:A8} {σ σ':St} {a a':Act} {w w':World} {P:Program} {T:Tab}
def zO7 (O:Nat->Prop) (ι:E3) (w:World) (z:Nat) (cv:Value) (cs:List V) (m:Nat):Prop :=
 cs.length=m*z/\(∀ c∈cs,c.one=true)/\((∃ cap,cv=.slice none 0 cap/\m=0)\/∃ ad cap,cv=.slice (some ad) m cap/\∃ vs:List Value,VRels ι O w cs vs/\∀ j u,vs[j]?=some u->w.cell? (ad.add j)=some u)
theorem zO8 (hh:Holds fr F ι σ a w) {z:Nat} {x:V} {cv:Value} {es:List V} (h:m7 σ.H z x=some es) (hx:VRel ι (Own F ι σ.H) w x cv):zO7 (Own F ι σ.H) ι w z cv (es.flatMap V.cells) es.length:=by
 obtain ⟨g1,g2⟩:=u4 hh h hx
 have hcl:∀ v∈es,v.cells.length=z:=fun v hv=>(C9.1 (g1 v hv)).1
 refine ⟨G6 hcl,fun c hc=>?_,?_⟩
 .obtain ⟨v,hv,hcv⟩:=List.mem_flatMap.1 hc
  exact (C9.1 (g1 v hv)).2 c hcv
 rcases g2 with ⟨cap,h1,h2⟩|⟨ad,cap,h1,vs,h2,h3,h4⟩
 .exact .inl ⟨cap,h1,by rw [h2];rfl⟩
 exact .inr ⟨ad,cap,h1,vs,h3,h4⟩
theorem zUk (hh : Holds fr F ι σ a w) {n i j z len sz : Nat} {es : List V} {cv : Value} (hn : look n σ.H = some (.rows sz es)) (hi : i < es.length) (hj : j + len * z ≤ (es.getD i .any).cells.length) (hx : VRel ι (Own F ι σ.H) w (.sub n i j z len) cv) :
    zO7 (Own F ι σ.H) ι w z cv (((es.getD i .any).cells.drop j).take (len*z)) len:=by
  cases hx with
  | sub hl' hg hm hoff hlc hcm hs =>
    rename_i off cap l
    obtain ⟨e1,e2,e3,e4,e5,c,e,hw,hc,hlo,hv⟩:=hh.rep.block hn hl' hg
    have hcl:∀ v∈es,v.cells.length=sz:=fun v hv=>(C9.1 (e3 v hv)).1
    obtain ⟨v,hvi⟩:∃ v,es[i]?=some v:=⟨_,List.getElem?_eq_getElem hi⟩
    have hd:es.getD i .any=v:=by simp [List.getD,hvi]
    have hvf:=C9.1 (e3 v (List.mem_of_getElem? hvi))
    rw [hd] at hj ⊢
    rw [hvf.1] at hj
    have hmul:i*sz+sz<=es.length*sz:=by rw [<-Nat.succ_mul];exact Nat.mul_le_mul_right _ hi
    have hel:=((((hv.drop (i*sz)).take sz).drop j).take (len*z))
    rw [J1 hcl hvi] at hel
    have hlist:(((((c.toList.drop l.o).take (es.length*sz)).drop (i*sz)).take sz).drop j).take (len*z)=(c.toList.drop off).take (len*z):=by
      apply List.ext_getElem?
      intro p
      simp only [List.getElem?_take,List.getElem?_drop]
      by_cases hq:p<len*z
      . simp only [hq,if_true,show j+p<sz by omega,show i*sz+(j+p)<es.length*sz by omega]
        congr 1;rw [hoff,e1];omega
      simp [hq]
    rw [hlist] at hel
    exact ⟨by rw [length_take,length_drop,hvf.1];omega,fun c' hc'=>hvf.2 c' (mem_of_mem_drop (mem_of_mem_take hc')),.inr ⟨_,cap,rfl,_,hel,Y1_ hw⟩⟩
theorem zHf (hh:Holds fr F ι σ a w) {z:Nat} {x:V} {cv:Value} {cs:List V} {m:Nat} (h:zbf σ.H z x=some (cs,m)) (hx:VRel ι (Own F ι σ.H) w x cv):zO7 (Own F ι σ.H) ι w z cv cs m:=by
 have other:∀ es,m7 σ.H z x=some es->(es.flatMap V.cells,es.length)=(cs,m)->zO7 (Own F ι σ.H) ι w z cv cs m:=fun es he hc=>by
  simp only [Prod.mk.injEq] at hc
  obtain ⟨rfl,rfl⟩:=hc
  exact zO8 hh he hx
 cases x with
 | sub n i j z' len =>
  simp only [zbf] at h
  cases hn:look n σ.H with
  | none=>rw [hn] at h;cases h
  | some b =>
   cases b with
   | rows sz es =>
    rw [hn] at h
    simp only at h
    by_cases hc:z'=z/\i<es.length/\j+len*z<=(es.getD i .any).cells.length
    .rw [if_pos hc] at h
     simp only [Option.some.injEq,Prod.mk.injEq] at h
     obtain ⟨rfl,rfl⟩:=h
     obtain ⟨rfl,hi,hj⟩:=hc
     exact zUk hh hn hi hj hx
    rw [if_neg hc] at h;cases h
   | _=>rw [hn] at h;cases h
 | _ =>
  simp only [zbf] at h
  obtain ⟨es,h1,h2⟩:=Option.map_eq_some_iff.1 h
  exact other es h1 h2
theorem zHg (hh : Holds fr F ι σ a w) {n i j sz : Nat} {es : List V} (hn : look n σ.H = some (.rows sz es)) (hi : i < es.length) {us : List V} (h0 : 0 < us.length) (hj : j + us.length ≤ sz) (hone : ∀ c ∈ us, c.one = true) {xs : List Value} (hu : VRels ι (Own F ι σ.H) w us xs)
    {l:Loc} (hl:ι n=some l) (hg:l.ghost=false) {off:Nat} (hoff:off=l.o+i*l.sz+j) {v':V} {cv:Value} (hv':∀ O' w',VRel ι O' w' v' cv) :
    ∃ w',(storeCells ⟨l.b,off,none⟩ xs).run P w=.ok () w'/\Out fr F ι σ.H σ.k w ι v' cv (put n (.rows sz (es.set i (B2 (es.getD i .any) j (.agg us)))) σ.H) σ.k w':=by
  have hyl:xs.length=us.length:=hu.length.symm
  have hy1:=Vy_ hu hone
  obtain ⟨h1,h2,h3,h4,h5,c,e,hw,hc,hlen,hv⟩:=hh.rep.block hn hl hg
  have hcl:∀ v∈es,v.cells.length=sz:=fun v hv=>(C9.1 (h3 v hv)).1
  obtain ⟨v,hvi⟩:∃ v,es[i]?=some v:=⟨_,List.getElem?_eq_getElem hi⟩
  have hd:es.getD i .any=v:=by simp [List.getD,hvi]
  rw [hd]
  have hvm:=List.mem_of_getElem? hvi
  have hvf:=C9.1 (h3 v hvm)
  have hpc:(B2 v j (.agg us)).cells=splice v.cells j us:=ZR_ (u:=.agg us) (by show j+us.length<=_;rw [hvf.1];exact hj) h0
  have hpl:(B2 v j (.agg us)).cells.length=sz:=by rw [hpc,J3 _ _ _ (by rw [hvf.1];exact hj),hvf.1]
  have hmul:i*sz+sz<=es.length*sz:=by rw [<-Nat.succ_mul];exact Nat.mul_le_mul_right _ hi
  have hrun:=run_storeCells_at P l.b off e xs 0 c w hw (by rw [hyl,hoff,h1];omega) hy1
  rw [Nat.add_zero] at hrun
  refine ⟨_,hrun,?_⟩
  have hsz:(c.toList.take off++xs++c.toList.drop (off+xs.length)).toArray.size=c.size:=by
    simp only [size_toArray,length_append,length_take,length_drop,Array.length_toList,hyl]
    rw [hoff,h1];omega
  have hcs:(w.setRow l.b (c.toList.take off++xs++c.toList.drop (off+xs.length)).toArray).heap[l.b]?=some (.cells _ e (0,0)):=setRow_heap w l.b c _ e (0,0) hw
  have hoth:∀ q,q<w.heap.size->q≠l.b->(w.setRow l.b (c.toList.take off++xs++c.toList.drop (off+xs.length)).toArray).heap[q]?=w.heap[q]?:=fun q _ hq=>setRow_other w l.b q _ hq
  have hmem:=D6 hn
  have hrel:VRels ι (Own F ι σ.H) w ((es.set i (B2 v j (.agg us))).flatMap V.cells) ((((c.toList.take off++xs++c.toList.drop (off+xs.length)).toArray).toList.drop l.o).take (es.length*sz)):=by
    have e1:(es.set i (B2 v j (.agg us))).flatMap V.cells=splice (es.flatMap V.cells) (i*sz+j) us:=by
      rw [XU_ hcl hi hpl,hpc]
      apply List.ext_getElem?
      intro q
      have hL:=G6 hcl
      rw [getElem?_splice (es.flatMap V.cells) (splice v.cells j us) (i*sz) q (by rw [J3 _ _ _ (by rw [hvf.1];exact hj),hvf.1,hL];exact hmul),getElem?_splice (es.flatMap V.cells) us (i*sz+j) q (by rw [hL];omega)]
      rw [J3 v.cells j us (by rw [hvf.1];exact hj),hvf.1]
      by_cases hq:i*sz<=q/\q<i*sz+sz
      . rw [if_pos hq,getElem?_splice _ _ _ _ (by rw [hvf.1];exact hj)]
        by_cases hq2:i*sz+j<=q/\q<i*sz+j+us.length
        . rw [if_pos (by omega),if_pos hq2];congr 1;omega
        rw [if_neg (by omega),if_neg hq2]
        have:=congrArg (·[q-i*sz]?) (J1 hcl hvi)
        simp only [List.getElem?_take,List.getElem?_drop] at this
        rw [if_pos (by omega)] at this
        rw [<-this];congr 1;omega
      rw [if_neg hq,if_neg (by omega)]
    rw [e1]
    have h':=hv.splice hu (i*sz+j)
    have e2:((((c.toList.take off++xs++c.toList.drop (off+xs.length)).toArray).toList.drop l.o).take (es.length*sz))=splice ((c.toList.drop l.o).take (es.length*sz)) (i*sz+j) xs:=by
      have hs:c.toList.take off++xs++c.toList.drop (off+xs.length)=splice c.toList off xs:=by simp [splice]
      show ((c.toList.take off++xs++c.toList.drop (off+xs.length)).drop l.o).take (es.length*sz)=_
      rw [hs]
      exact ZO_ _ _ _ _ _ _ (by rw [hoff,h1];omega) (by rw [hyl];omega) (by simpa using hlen)
    rw [e2];exact h'
  refine ⟨⟨f9 hmem hl hg hh.rep.names rfl (Tp.same rfl rfl) rfl (by simp) hoth,Nat.le_refl _,fun _ _=>rfl,fun m hm=>.inl (by rw [T8] at hm;exact hm)⟩,hh.rep.put hmem hl hg rfl (Tp.same rfl rfl) rfl (by simp) hoth fun O' S=>⟨h1,h2,?_,.inr ⟨hg,_,e,hcs,by rw [hsz,hc],by rw [length_set,hsz];exact hlen,?_⟩⟩,hh.fresh,hv' _ _⟩
  . intro v' hv'
    rcases mem_or_eq_of_mem_set hv' with h|h
    . exact h3 v' h
    subst h
    refine C9.2 ⟨hpl,fun c' hc'=>?_⟩
    rw [hpc] at hc'
    exact (W9_ hc').elim (hvf.2 c') (hone c')
  rw [length_set];exact hrel.stays S
variable {o:Oper}
theorem zUl {K:V → A8 → Nat → Prop} (x y : Operand) (t u : TypeId) (ho : o.op = .call ⟨.builtin .copy, #[x, y], #[t, u]⟩) {ti te : TI} (hti : C8 P t = some ti) {e : TypeId} (hd : ti.d = .slice e) (hte : C8 P e = some te) (hz : 0 < te.size)
    {n i j len sz:Nat} {es:List V} (hx:A7 σ.t x=.sub n i j te.size len) (hn:look n σ.H=some (.rows sz es)) (hi:i<es.length) (hj:j+len*te.size<=sz) {cs:List V} {m:Nat} (hy:zbf σ.H te.size (A7 σ.t y)=some (cs,m))
    (hk:if min m len=0 then K (.val (.int .i64 0)) σ.H σ.k else K (.val (.int .i64 (min m len:Nat))) (put n (.rows sz (es.set i (B2 (es.getD i .any) j (.agg (cs.take (min m len*te.size)))))) σ.H) σ.k):OpT fr P o σ K :=
  S6 fun F ι a w hh=>by
    have he:=hh.eval x
    have hv:=hh.eval y
    rw [hx] at he
    generalize hcx:a.eval x=cx at he
    generalize hcy:a.eval y=cy at hv
    obtain ⟨g1,g2,g3⟩:=zHf hh hy hv
    have hdu:=C6 hti hd
    cases he with
    | sub hl hg hm hoff hlc hcm hs =>
      rename_i off cap l
      by_cases h0:min m len=0
      . rw [if_pos h0] at hk
        refine ⟨ι,_,.int .i64 0,_,_,w,?_,hk,hh.same (.val _ rfl)⟩
        have hst0:(storeCells ⟨l.b,off,none⟩ []).run P w=.ok () w:=rfl
        rcases g3 with ⟨cap',rfl,rfl⟩|⟨ad,cap',rfl,vs,h1,h2⟩
        . unfold execOp;rw [ho]
          simp [resolve,invoke,builtin,hcx,hcy,Builtin.copy_,hdu,Builtin.lenOf,B9 hte,Builtin.firstCells,hst0,goInt]
        have hl0:=run_loadCells_list (P:=P) w ad [] (by simp)
        have e0:Nat.min m len=0:=h0
        unfold execOp;rw [ho]
        simp [resolve,invoke,builtin,hcx,hcy,Builtin.copy_,hdu,Builtin.lenOf,B9 hte,Builtin.firstCells,e0,hst0,goInt] at hl0 ⊢
        simp [hl0,hst0]
      rw [if_neg h0] at hk
      rcases g3 with ⟨cap',rfl,rfl⟩|⟨ad,cap',rfl,vs,h1,h2⟩
      . omega
      have hmz:min m len*te.size<=m*te.size:=Nat.mul_le_mul_right _ (by omega)
      have hlz:min m len*te.size<=len*te.size:=Nat.mul_le_mul_right _ (by omega)
      have hp:0<min m len*te.size:=Nat.mul_pos (by omega) hz
      have hcl:(cs.take (min m len*te.size)).length=min m len*te.size:=by rw [length_take,g1];omega
      have h1':=h1.take (min m len*te.size)
      have hld:=run_loadCells_list (P:=P) w ad (vs.take (min m len*te.size)) (fun q v hv=>h2 q v (by rw [List.getElem?_take] at hv;split at hv;exact hv;cases hv))
      rw [show (vs.take (min m len*te.size)).length=min m len*te.size by rw [<-h1'.length,hcl]] at hld
      obtain ⟨w',hst,hO⟩:=zHg (P:=P) hh hn hi (us:=cs.take (min m len*te.size)) (by omega) (by omega) (fun c hc=>g2 c (mem_of_mem_take hc)) h1' hl hg hoff (v':=.val (.int .i64 (min m len:Nat))) (cv:=.int .i64 (min m len:Nat)) (fun _ _=>.val _ rfl)
      refine ⟨ι,_,_,_,_,w',?_,hk,hO⟩
      have e0:Nat.min m len=min m len:=rfl
      unfold execOp;rw [ho]
      simp [resolve,invoke,builtin,hcx,hcy,Builtin.copy_,hdu,Builtin.lenOf,B9 hte,Builtin.firstCells,e0,hld,hst,goInt]
theorem QQ_ {K:V → A8 → Nat → Prop} (t : TypeId) (x : Operand) (lo hi : Option Operand) (ho : o.op = .slice t x lo hi none) {ti te : TI} (hti : C8 P t = some ti) {e : TypeId} {len : Nat} (hd : ti.d = .array len e) (hte : C8 P e = some te)
    {n i j sz:Nat} {es:List V} (hx:A7 σ.t x=.ptr n i j) (hn:look n σ.H=some (.rows sz es)) (hi':i<es.length) (hj:j+len*te.size<=sz) (hm:len<=maxLen)
    {l h:Int} (hl:N4 σ.t 0 lo=some l) (hh':N4 σ.t len hi=some h) (h0:0<=l) (h1:l<=h) (h2:h<=len) (hk:if l=len then K (.ro te.size []) σ.H σ.k else K (.sub n i (j+l.toNat*te.size) te.size (h.toNat-l.toNat)) σ.H σ.k):OpT fr P o σ K:=by
  have hua:P.underlying t=some (.array len e):=by
    obtain ⟨d,i,z,hd',hi,hz,_,_,h1,_⟩:=D3 hti
    rw [hd] at h1
    rw [hd'];cases d<;>simp_all [D.of]
  have run : ∀ F ι a w, Holds fr F ι σ a w → ∀ (L : Loc) (off : Nat), ι n = some L → L.ghost = false → off = L.o + i * L.sz + j → a.eval x = .pointer (some ⟨L.b, off, none⟩) →
      (execOp a.eval o).run P w=.ok (.value (.slice (some (if len=l.toNat then ⟨L.b,off,none⟩ else ⟨L.b,off+l.toNat*te.size,none⟩)) (h.toNat-l.toNat) (len-l.toNat))) w:=fun F ι a w hh L off hL hg hoff hcv=>by
    have hb:=H4 (P:=P) false len len (lo.map a.eval) (hi.map a.eval) l h (by simpa using G0 hh 0 lo l hl) (G0 hh _ hi h hh') h0 h1 h2 (Nat.le_refl _) w
    unfold execOp;rw [ho]
    simp [hcv,Instr.sliceAt,Instr.sureAddr,run_underlying hua,hb,B9 hte,Addr.add_lit]
  by_cases hc:l=len
  . rw [if_pos hc] at hk
    refine C5 hk fun F ι a w hh=>?_
    have he:=hh.eval x
    rw [hx] at he
    generalize hcv:a.eval x=cv at he
    cases he with
    | ptr hL hg hmp hoff =>
    rename_i off L
    refine ⟨_,run F ι a w hh L off hL hg hoff hcv,?_⟩
    rw [show h.toNat-l.toNat=0 by omega]
    exact .ro0
  rw [if_neg hc] at hk
  refine C5 hk fun F ι a w hh=>?_
  have he:=hh.eval x
  rw [hx] at he
  generalize hcv:a.eval x=cv at he
  cases he with
  | ptr hL hg hmp hoff =>
  rename_i off L
  refine ⟨_,run F ι a w hh L off hL hg hoff hcv,?_⟩
  obtain ⟨e1,e2,e3,e4,e5,c,et,hw,hcs,hlo,hv⟩:=hh.rep.block hn hL hg
  have hmul:i*sz+sz<=es.length*sz:=by rw [<-Nat.succ_mul];exact Nat.mul_le_mul_right _ hi'
  have hsp:(len-l.toNat)*te.size+l.toNat*te.size=len*te.size:=by rw [<-Nat.add_mul];congr 1;omega
  rw [if_neg (by omega)]
  exact .sub hL hg hmp (by rw [hoff];omega) (by omega) (by omega) (by rw [<-hcs,hoff,e1];omega)
end
end Go.Sl
namespace Go.Sl
def zO9 (r:Option (V × A8 × Nat)) (K:V->A8->Nat->Prop):Prop :=
 match r with
 | some (v,H,k)=>K v H k
 | none=>False
def V1_ (T:Tab) (H:A8) (ty:TypeId) (m x:V) (ok:Bool):Option V :=
 match m with
 | .map n =>
  match look n H with
  | some (.map es) =>
   match T ty with
   | some tm =>
    match tm.d with
    | .map kt et =>
     match L7 T 16 kt,T kt,T et,x with
     | some sp,some ti,some te,.agg cs =>
      match E7 sp cs cs,Yo_ sp cs es with
      | some _,some r=>if ti.agg=true then some (if ok=true then .tup [r.getD te.zeroV,.val (.bool r.isSome)] else r.getD te.zeroV) else none
      | _,_=>none
     | _,_,_,_=>none
    | _=>none
   | none=>none
  | _=>none
 | _=>none
def V2_ (T:Tab) (H:A8) (ty:TypeId) (m x y:V):Option A8 :=
 match m with
 | .map n =>
  match look n H with
  | some (.map es) =>
   match T ty with
   | some tm =>
    match tm.d with
    | .map kt et =>
     match L7 T 16 kt,T kt,x with
     | some sp,some ti,.agg cs =>
      match E7 sp cs cs,Js_ sp cs y es with
      | some _,some es'=>if ti.agg=true then some (put n (.map es') H) else none
      | _,_=>none
     | _,_,_=>none
    | _=>none
   | none=>none
  | _=>none
 | _=>none
def zCf (T:Tab) (H:A8) (k:Nat) (ty:TypeId) (m:V):Option A8 :=
 match m with
 | .map n =>
  match look n H with
  | some (.map es) =>
   match T ty with
   | some tm =>
    match tm.d with
    | .map _ _=>some ((k,.iter n [] es.length)::H)
    | _=>none
   | none=>none
  | _=>none
 | _=>none
def zCg (H:A8) (x:V):Option V :=
 match x with
 | .ptr r 0 0 =>
  match look r H with
  | some (.iter m done n) =>
   match look m H with
   | some (.map es) =>
    match done.getLast? with
    | some i =>
     match es[i]? with
     | some p=>if es.length=n then some (.tup [p.1,p.2]) else none
     | none=>none
    | none=>none
   | _=>none
  | _=>none
 | _=>none
def zOa (T:Tab) (H:A8) (ty:TypeId) (x y:V):Option (V × A8) :=
 match x with
 | .sub n i j z len =>
  match look n H with
  | some (.rows sz es) =>
   match T ty with
   | some ti =>
    match ti.d with
    | .slice e =>
     match T e with
     | some te =>
      if z=te.size/\0<te.size/\i<es.length/\j+len*te.size<=sz then
       match zbf H te.size y with
       | some (cs,m)=>if min m len=0 then some (.val (.int .i64 0),H) else some (.val (.int .i64 (min m len:Nat)),put n (.rows sz (es.set i (B2 (es.getD i .any) j (.agg (cs.take (min m len*te.size)))))) H)
       | none=>none
      else none
     | none=>none
    | _=>none
   | none=>none
  | _=>none
 | _=>none
def V3_ (T:Tab) (H:A8) (len:Nat) (e:TypeId) (x:V) (lo hi:Nat->Option Int):Option V :=
 match T e with
 | some te =>
  match x with
  | .ptr n i j =>
   match look n H with
   | some (.rows sz es) =>
    match lo 0,hi len with
    | some l,some h=>if i<es.length/\j+len*te.size<=sz/\len<=9223372036854775807/\0<=l/\l<=h/\h<=len then (if l=len then some (.ro te.size []) else some (.sub n i (j+l.toNat*te.size) te.size (h.toNat-l.toNat))) else none
    | _,_=>none
   | _=>none
  | _=>none
 | none=>none
def zOb (T:Tab) (t:List (Nat × V)) (H:A8) (k:Nat) (op:Op):Option (V × A8 × Nat) :=
 match op with
 | .makeMap _ none=>some (.map k,(k,.map [])::H,k+1)
 | .lookup ty m x ok=>(V1_ T H ty (A7 t m) (A7 t x) ok).map fun v=>(v,H,k)
 | .mapUpdate ty m x y=>(V2_ T H ty (A7 t m) (A7 t x) (A7 t y)).map fun H'=>(.tup [],H',k)
 | .range ty m=>(zCf T H k ty (A7 t m)).map fun H'=>(.ptr k 0 0,H',k+1)
 | .entry x=>(zCg H (A7 t x)).map fun v=>(v,H,k)
 | .call ⟨.builtin .copy,args,ts⟩ =>
  match args.toList,ts.toList with
  | [x,y],[ty,_]=>(zOa T H ty (A7 t x) (A7 t y)).map fun p=>(p.1,p.2,k)
  | _,_=>none
 | _=>none
section
variable {fr:Nat->Prop} {F:Nat->Prop} {ι ι':E3} {O:Nat->Prop} {H:A8} {σ σ':St} {a a':Act} {w w':World} {P:Program} {T:Tab}
theorem QR_ (hT:J9 P T) {o:Oper} {K:V->A8->Nat->Prop} {ty:TypeId} {m x:Operand} {ok:Bool} (ho:o.op=.lookup ty m x ok) {v:V} (h:V1_ T σ.H ty (A7 σ.t m) (A7 σ.t x) ok=some v) (hk:K v σ.H σ.k):OpT fr P o σ K:=by
 unfold V1_ at h
 split at h
 .rename_i n hm
  split at h
  .rename_i es hn
   split at h
   .rename_i tm htm
    split at h
    .rename_i kt et hd
     split at h
     .rename_i sp ti te cs hsp hti hte hx
      split at h
      .rename_i b r hself hf
       split at h
       .rename_i hg
        cases h
        exact zHd hT ty m x ok ho (hT _ _ htm) hd hsp hti hg (hT _ _ hte) hm hn hx hself hf hk
       cases h
      cases h
     cases h
    cases h
   cases h
  cases h
 cases h
theorem QS_ (hT:J9 P T) {o:Oper} {K:V->A8->Nat->Prop} {ty:TypeId} {m x y:Operand} (ho:o.op=.mapUpdate ty m x y) {H':A8} (h:V2_ T σ.H ty (A7 σ.t m) (A7 σ.t x) (A7 σ.t y)=some H') (hk:K (.tup []) H' σ.k):OpT fr P o σ K:=by
 unfold V2_ at h
 split at h
 .rename_i n hm
  split at h
  .rename_i es hn
   split at h
   .rename_i tm htm
    split at h
    .rename_i kt et hd
     split at h
     .rename_i sp ti cs hsp hti hx
      split at h
      .rename_i b es' hself hf
       split at h
       .rename_i hg
        cases h
        exact QP_ hT ty m x y ho (hT _ _ htm) hd hsp hti hg hm hn hx hself hf hk
       cases h
      cases h
     cases h
    cases h
   cases h
  cases h
 cases h
theorem J6_ (hT:J9 P T) (hfr:fr σ.k) {o:Oper} {K:V->A8->Nat->Prop} {ty:TypeId} {m:Operand} (ho:o.op=.range ty m) {H':A8} (h:zCf T σ.H σ.k ty (A7 σ.t m)=some H') (hk:K (.ptr σ.k 0 0) H' (σ.k+1)):OpT fr P o σ K:=by
 unfold zCf at h
 split at h
 .rename_i n hm
  split at h
  .rename_i es hn
   split at h
   .rename_i tm htm
    split at h
    .rename_i kt et hd
     cases h
     exact zO3 hfr ty m ho (hT _ _ htm) hd hm hn hk
    cases h
   cases h
  cases h
 cases h
variable {r:Option (V × A8 × Nat)}
theorem J7_ {o:Oper} {K:V->A8->Nat->Prop} {x:Operand} (ho:o.op=.entry x) {v:V} (h:zCg σ.H (A7 σ.t x)=some v) (hk:K v σ.H σ.k):OpT fr P o σ K:=by
 unfold zCg at h
 split at h
 .rename_i r hx
  split at h
  .rename_i m done n hr
   split at h
   .rename_i es hm
    split at h
    .rename_i i hi
     split at h
     .rename_i p hp
      split at h
      .rename_i hn
       cases h
       obtain ⟨d,rfl⟩:=List.getLast?_eq_some_iff.1 hi
       exact zO6 x ho hx hr hm hn hp hk
      cases h
     cases h
    cases h
   cases h
  cases h
 cases h
theorem zFf (hT:J9 P T) {o:Oper} {K:V->A8->Nat->Prop} {x y:Operand} {ty u:TypeId} (ho:o.op=.call ⟨.builtin .copy,#[x,y],#[ty,u]⟩) {p:V × A8} (h:zOa T σ.H ty (A7 σ.t x) (A7 σ.t y)=some p) (hk:K p.1 p.2 σ.k):OpT fr P o σ K:=by
 unfold zOa at h
 split at h
 .rename_i n i j z len hx
  split at h
  .rename_i sz es hn
   split at h
   .rename_i ti hti
    split at h
    .rename_i e hd
     split at h
     .rename_i te hte
      split at h
      .rename_i hc
       obtain ⟨rfl,hz,hi,hj⟩:=hc
       split at h
       .rename_i cs m hy
        refine zUl x y ty u ho (hT _ _ hti) hd (hT _ _ hte) hz hx hn hi hj hy ?_
        split at h
        .rename_i h0;cases h;rw [if_pos h0];exact hk
        rename_i h0;cases h;rw [if_neg h0];exact hk
       cases h
      cases h
     cases h
    cases h
   cases h
  cases h
 cases h
theorem QT_ (hT:J9 P T) {o:Oper} {K:V->A8->Nat->Prop} {ty:TypeId} {x:Operand} {lo hi:Option Operand} (ho:o.op=.slice ty x lo hi none) {ti:TI} (hti:T ty=some ti) {len:Nat} {e:TypeId} (hd:ti.d=.array len e) {v:V} (h:V3_ T σ.H len e (A7 σ.t x) (N4 σ.t · lo) (N4 σ.t · hi)=some v) (hk:K v σ.H σ.k):OpT fr P o σ K:=by
 unfold V3_ at h
 split at h
 .rename_i te hte
  split at h
  .rename_i n i j hx
   split at h
   .rename_i sz es hn
    split at h
    .rename_i l hh hl hh'
     split at h
     .rename_i hc
      obtain ⟨h1,h2,h3,h4,h5,h6⟩:=hc
      refine QQ_ ty x lo hi ho (hT _ _ hti) hd (hT _ _ hte) hx hn h1 h2 (by unfold maxLen;omega) hl hh' h4 h5 h6 ?_
      split at h
      .rename_i h0;cases h;rw [if_pos h0];exact hk
      rename_i h0;cases h;rw [if_neg h0];exact hk
     cases h
    cases h
   cases h
  cases h
 cases h
theorem Y2_ {K:V->A8->Nat->Prop} (h:zO9 r K):∃ v H k,r=some (v,H,k)/\K v H k:=by
 unfold zO9 at h
 split at h
 .exact ⟨_,_,_,rfl,h⟩
 exact h.elim
theorem J8_ {K:V->A8->Nat->Prop} {v:V} {H:A8} {k:Nat} (h:r=some (v,H,k)) (hk:K v H k):zO9 r K:=by rw [h];exact hk
theorem J9_ (hT:J9 P T) (hfr:fr σ.k) {o:Oper} {K:V->A8->Nat->Prop} (h:zO9 (zOb T σ.t σ.H σ.k o.op) K):OpT fr P o σ K:=by
 obtain ⟨v,H',k',h,hk⟩:=Y2_ h
 unfold zOb at h
 split at h
 .rename_i t ho;cases h;exact zFe hfr t ho hk
 .rename_i ty m x ok ho
  obtain ⟨u,hu,he⟩:=Option.map_eq_some_iff.1 h
  cases he;exact QR_ hT ho hu hk
 .rename_i ty m x y ho
  obtain ⟨u,hu,he⟩:=Option.map_eq_some_iff.1 h
  cases he;exact QS_ hT ho hu hk
 .rename_i ty m ho
  obtain ⟨u,hu,he⟩:=Option.map_eq_some_iff.1 h
  cases he;exact J6_ hT hfr ho hu hk
 .rename_i x ho
  obtain ⟨u,hu,he⟩:=Option.map_eq_some_iff.1 h
  cases he;exact J7_ ho hu hk
 .rename_i args ts ho
  split at h
  .rename_i x y ty u ha hts
   obtain ⟨p,hu,he⟩:=Option.map_eq_some_iff.1 h
   cases he
   have ea:args=#[x,y]:=by apply Array.ext';exact ha
   have et:ts=#[ty,u]:=by apply Array.ext';exact hts
   subst ea et
   exact zFf hT ho hu hk
  cases h
 cases h
end
end Go.Sl
namespace Go.Sl
def Wy_ (H:A8) (ti:TI) (x:V) (K:V->Prop):Prop :=
 match x with
 | .ptr n i j =>
  match look n H with
  | some (.rows sz es)=>i<es.length/\j+ti.size<=sz/\K (F5 ti.agg ti.size (es.getD i .any).cells j)
  | _=>False
 | .rp cs j=>j+ti.size<=cs.length/\K (F5 ti.agg ti.size cs j)
 | _=>False
def Xa_ (H:A8) (ti:TI) (x v:V) (K:A8->Prop):Prop :=
 match x with
 | .ptr n i j =>
  match look n H with
  | some (.rows sz es)=>i<es.length/\0<ti.size/\j+ti.size<=sz/\v.fits ti.size=true/\K (put n (.rows sz (es.set i (B2 (es.getD i .any) j v))) H)
  | _=>False
 | _=>False
def Q3 (T:Tab) (H:A8) (d:D) (x y:V) (K:V->Prop):Prop :=
 match y with
 | .val (.int _ m) =>
  match d with
  | .array len e =>
   match T e with
   | some te =>
    match x with
    | .ptr n i j=>0<=m/\m<len/\K (.ptr n i (j+m.toNat*te.size))
    | .rp cs j=>0<=m/\m<len/\K (.rp cs (j+m.toNat*te.size))
    | _=>False
   | none=>False
  | .slice e =>
   match T e with
   | some te =>
    match x with
    | .sl n i len =>
     match look n H with
     | some (.rows sz _)=>sz=te.size/\0<=m/\m<len/\K (.ptr n (i+m.toNat) 0)
     | _=>False
    | .ro sz es=>sz=te.size/\0<=m/\m<es.length/\K (.rp (es.getD m.toNat .any).cells 0)
    | _=>False
   | none=>False
  | _=>False
 | _=>False
def X0 (T:Tab) (d:D) (x y:V) (K:V->Prop):Prop :=
 match y with
 | .val (.int _ m) =>
  match d with
  | .array len e =>
   match T e with
   | some te =>
    match x with
    | .agg cs=>0<=m/\m<len/\m.toNat*te.size+te.size<=cs.length/\K (F5 te.agg te.size cs (m.toNat*te.size))
    | _=>False
   | none=>False
  | .string =>
   match x with
   | .val (.string s)=>0<=m/\m<s.size/\K (.val (.int .u8 ((s.data.toList.getD m.toNat 0).toNat:Int)))
   | _=>False
  | _=>False
 | _=>False
def Q4 (T:Tab) (d:D) (x:V) (f:Nat) (K:V->Prop):Prop :=
 match d with
 | .struct fs =>
  match fs[f]? with
  | some (ft,off,_) =>
   match T ft with
   | some tf =>
    match x with
    | .ptr n i j=>0<tf.size/\K (.ptr n i (j+off))
    | .rp cs j=>0<tf.size/\K (.rp cs (j+off))
    | _=>False
   | none=>False
  | none=>False
 | _=>False
def Xb_ (T:Tab) (d:D) (x:V) (f:Nat) (K:V->Prop):Prop :=
 match d with
 | .struct fs =>
  match fs[f]? with
  | some (ft,off,_) =>
   match T ft with
   | some tf =>
    match x with
    | .agg cs=>off+tf.size<=cs.length/\K (F5 tf.agg tf.size cs off)
    | _=>False
   | none=>False
  | none=>False
 | _=>False
def L3 (op:BinOp) (k:IntKind) (x y:Int) (K:V->Prop):Prop :=
 match op with
 | .add=>K (.val (.int k (k.wrap (x+y))))
 | .sub=>K (.val (.int k (k.wrap (x-y))))
 | .mul=>K (.val (.int k (k.wrap (x*y))))
 | .quo=>y≠0/\K (.val (.int k (k.wrap (x.tdiv y))))
 | .rem=>y≠0/\K (.val (.int k (x.tmod y)))
 | .and=>K (.val (.int k (k.wrap (BitVec.ofInt k.bits x &&& BitVec.ofInt k.bits y).toNat)))
 | .or=>K (.val (.int k (k.wrap (BitVec.ofInt k.bits x ||| BitVec.ofInt k.bits y).toNat)))
 | .xor=>K (.val (.int k (k.wrap (BitVec.ofInt k.bits x ^^^ BitVec.ofInt k.bits y).toNat)))
 | .andNot=>K (.val (.int k (k.wrap (BitVec.ofInt k.bits x &&& ~~~BitVec.ofInt k.bits y).toNat)))
 | .eql=>K (.val (.bool (x==y)))
 | .neq=>K (.val (.bool (x != y)))
 | .lss=>K (.val (.bool (decide (x<y))))
 | .leq=>K (.val (.bool (decide (x<=y))))
 | .gtr=>K (.val (.bool (decide (x > y))))
 | .geq=>K (.val (.bool (decide (x>=y))))
 | _=>False
def zHh (op:BinOp) (k:IntKind) (x y:Int) (K:V->Prop):Prop :=
 match op with
 | .shl=>0<=y/\K (.val (.int k (k.wrap (x*2 ^ (min y.toNat k.bits)))))
 | .shr=>0<=y/\K (.val (.int k (x.fdiv (2 ^ (min y.toNat k.bits)))))
 | _=>False
def znz:BinOp->Bool
 | .shl|.shr=>true
 | _=>false
def eqV (sp:Option (List EK)) (op:BinOp) (cs ds:List V) (K:V->Prop):Prop :=
 match sp with
 | some sp =>
  match E7 sp cs ds with
  | some b =>
   match op with
   | .eql=>K (.val (.bool b))
   | .neq=>K (.val (.bool !b))
   | _=>False
  | none=>False
 | none=>False
def zOc (T:Tab) (op:BinOp) (t:TypeId) (K:V->Prop):Prop :=
 match T t with
 | some ti =>
  match ti.d with
  | .pointer _ =>
   match op with
   | .eql=>K (.val (.bool false))
   | .neq=>K (.val (.bool true))
   | _=>False
  | _=>False
 | none=>False
def zA0 (T:Tab) (ty:TypeId) (x y:V) (k:Nat) (H:A8) (K:V->A8->Nat->Prop):Prop :=
 match x,y with
 | .val (.int _ l),.val (.int _ c) =>
  match T ty with
  | some ti =>
   match ti.d with
   | .slice e =>
    match T e with
    | some te=>0<=l/\l=c/\(te.bytes:Int)*c<=281474976710656/\c<=9223372036854775807/\K (.sl k 0 c.toNat) ((k,.rows te.size (List.replicate c.toNat te.zeroV))::H) (k+1)
    | none=>False
   | _=>False
  | none=>False
 | _,_=>False
def zUm (T:Tab) (op:BinOp) (t:TypeId) (x y:V) (K:V->Prop):Prop :=
 match x,y with
 | .agg cs,.agg ds =>
  match T t with
  | some ti=>ti.agg=true/\eqV (L7 T 16 t) op cs ds K
  | none=>False
 | .ptr ..,.val (.pointer none)=>zOc T op t K
 | .rp ..,.val (.pointer none)=>zOc T op t K
 | .val (.int k m),.val (.int k' n)=>if znz op then zHh op k m n K else k=k'/\L3 op k m n K
 | .val (.string m),.val (.string n) =>
  match op with
  | .add=>(m.size+n.size:Int)<=9223372036854775807/\K (.val (.string (m++n)))
  | .eql=>K (.val (.bool (m.toList==n.toList)))
  | .neq=>K (.val (.bool !(m.toList==n.toList)))
  | .lss=>K (.val (.bool (Op.bytesLess m.toList n.toList)))
  | .leq=>K (.val (.bool (Op.bytesLess m.toList n.toList||m.toList==n.toList)))
  | .gtr=>K (.val (.bool !(Op.bytesLess m.toList n.toList||m.toList==n.toList)))
  | .geq=>K (.val (.bool !(Op.bytesLess m.toList n.toList)))
  | _=>False
 | .val (.bool m),.val (.bool n) =>
  match T t with
  | some ti =>
   match ti.d with
   | .bool =>
    match op with
    | .eql=>K (.val (.bool (m==n)))
    | .neq=>K (.val (.bool (m != n)))
    | _=>False
   | _=>False
  | none=>False
 | _,_=>False
def Xc_ (H:A8) (te:TI) (x:V) (lo hi:Nat->Option Int) (K:V->Prop):Prop :=
 match x with
 | .val (.slice none 0 0) =>
  match lo 0,hi 0 with
  | some l,some h=>l=0/\h=0/\K (.val (.slice none 0 0))
  | _,_=>False
 | .sl n i len =>
  match look n H with
  | some (.rows sz _) =>
   match lo 0,hi len with
   | some l,some h=>sz=te.size/\0<=l/\l<=h/\h<=len/\K (.sl n (i+l.toNat) (h.toNat-l.toNat))
   | _,_=>False
  | _=>False
 | .ro sz es =>
  match lo 0,hi es.length with
  | some l,some h=>sz=te.size/\0<=l/\l<=h/\h<=es.length/\K (.ro te.size ((es.drop l.toNat).take (h.toNat-l.toNat)))
  | _,_=>False
 | _=>False
def z8 (H:A8) (k:Nat) (te:TI) (s x:V) (K:V->A8->Nat->Prop):Prop :=
  match m7 H te.size x with
  | some news =>
    match s with
    | .val (.slice none 0 0)=>0<te.size/\0<te.bytes/\news.length*te.bytes<=140737488355328/\K (.sl k 0 news.length) ((k,.rows te.size news)::H) (k+1)
    | .sl n i len =>
      match look n H with
      | some (.rows sz es) => sz = te.size ∧ i + len ≤ es.length ∧ 0 < te.size ∧ 0 < te.bytes ∧ (len + news.length) * te.bytes ≤ 140737488355328 ∧
          K (.sl k 0 (len+news.length)) ((k,.rows te.size ((es.drop i).take len++news))::del n H) (k+1)
      | _=>False
    | _=>False
  | none=>False
def x4 (P:Program) (f:FuncId) (args:List V) (H:A8) (k:Nat) [i:Inhabited (V->A8->Nat->Prop)]:Prop:=Fn P f args H k i.default
def opV (T:Tab) (P:Program) (t:List (Nat × V)) (H:A8) (k:Nat) (op:Op) (K:V->A8->Nat->Prop):Prop :=
  match op with
  | .move x=>K (A7 t x) H k
  | .assign x=>K (A7 t x) H k
  | .pick c x y =>
    match A7 t c with
    | .val (.bool b)=>if b=true then K (A7 t x) H k else K (A7 t y) H k
    | _=>False
  | .box e x =>
    match T e with
    | some ti=>(A7 t x).fits ti.size=true/\K (.ptr k 0 0) ((k,.rows ti.size [A7 t x])::H) (k+1)
    | none=>False
  | .alloc e =>
    match T e with
    | some ti=>K (.ptr k 0 0) ((k,.rows ti.size [ti.zeroV])::H) (k+1)
    | none=>False
  | .load ty x =>
    match T ty with
    | some ti=>Wy_ H ti (A7 t x) fun v=>K v H k
    | none=>False
  | .store ty x y =>
    match T ty with
    | some ti=>Xa_ H ti (A7 t x) (A7 t y) fun H'=>K (.tup []) H' k
    | none=>False
  | .indexAddr ty x y =>
    match T ty with
    | some ti=>Q3 T H ti.d (A7 t x) (A7 t y) fun v=>K v H k
    | none=>False
  | .index ty x y =>
    match T ty with
    | some ti=>X0 T ti.d (A7 t x) (A7 t y) fun v=>K v H k
    | none=>False
  | .fieldAddr ty x f =>
    match T ty with
    | some ti=>Q4 T ti.d (A7 t x) f fun v=>K v H k
    | none=>False
  | .field ty x f =>
    match T ty with
    | some ti=>Xb_ T ti.d (A7 t x) f fun v=>K v H k
    | none=>False
  | .extract x i =>
    match A7 t x with
    | .tup vs=>i<vs.length/\K (vs.getD i .any) H k
    | _=>False
  | .binOp op ty x y _=>zUm T op ty (A7 t x) (A7 t y) fun v=>K v H k
  | .unOp op _ x =>
    match op,A7 t x with
    | .not,.val (.bool b)=>K (.val (.bool (!b))) H k
    | .neg,.val (.int kd n)=>K (.val (.int kd (kd.wrap (0-n)))) H k
    | .xor,.val (.int kd n)=>K (.val (.int kd (kd.wrap (BitVec.ofInt kd.bits (if kd.signed then -1 else kd.max) ^^^ BitVec.ofInt kd.bits n).toNat))) H k
    | _,_=>False
  | .convert s d x =>
    match T s,T d,A7 t x with
    | some ts,some td,.val (.int k' n) =>
      match ts.d,td.d with
      | .int k1,.int kd=>k'=k1/\K (.val (.int kd (kd.wrap n))) H k
      | _,_=>False
    | _,_,_=>False
  | .build ty parts =>
    match T ty with
    | some ti =>
      match ti.d with
      | .struct fs=>(fs.all fun f=>(T f.1).isSome)=true/\Ym_ (fun i=>(fs[i]?).map fun f=>(f.2.1,f.2.2)) (ti.zero.map .val) (parts.toList.map fun p=>(p.1,A7 t p.2)) fun cs=>K (.agg cs) H k
      | .array _ e =>
        match T e with
        | some te=>Ym_ (fun i=>some (i*te.size,te.size)) (ti.zero.map .val) (parts.toList.map fun p=>(p.1,A7 t p.2)) fun cs=>K (.agg cs) H k
        | none=>False
      | _=>False
    | none=>False
  | .buildSlice ty len parts =>
    match T ty with
    | some ti =>
      match ti.d with
      | .slice e =>
        match T e with
        | some te => 0 < te.size ∧ parts.toList.map Prod.fst = List.range len ∧ len * te.size ≤ 16777216 ∧ (∀ v ∈ parts.toList.map (fun p => A7 t p.2), v.fits te.size = true) ∧
            K (.sl k 0 len) ((k,.rows te.size (parts.toList.map fun p=>A7 t p.2))::H) (k+1)
        | none=>False
      | _=>False
    | none=>False
  | .slice ty x lo hi none =>
    match T ty with
    | some ti =>
      match ti.d with
      | .string =>
        match A7 t x with
        | .val (.string s) =>
          match N4 t 0 lo,N4 t s.size hi with
          | some l,some h=>0<=l/\l<=h/\h<=s.size/\K (.val (.string (s.extract l.toNat h.toNat))) H k
          | _,_=>False
        | _=>False
      | .slice e =>
        match T e with
        | some te=>Xc_ H te (A7 t x) (N4 t · lo) (N4 t · hi) fun v=>K v H k
        | none=>False
      | .array len e=>zO9 ((V3_ T H len e (A7 t x) (N4 t · lo) (N4 t · hi)).map fun v=>(v,H,k)) K
      | _=>False
    | none=>False
  | .nilCheck x=>(A7 t x).isAddr=true/\K (A7 t x) H k
  | .makeSlice ty l c=>zA0 T ty (A7 t l) (A7 t c) k H K
  | .makeFunc f fs cs=>K (.fn f (fs.toList.map (A7 t)) (cs.toList.map (A7 t))) H k
  | .call ⟨.value f,args,_⟩ =>
    match A7 t f with
    | .fn (.func g) fs cs=>@x4 P g (fs++args.toList.map (A7 t)++cs) H k ⟨K⟩
    | _=>False
  | .call ⟨.builtin .len,args,ts⟩ =>
    match args.toList,ts.toList with
    | [x],[ty] =>
      match T ty with
      | some ti =>
        match zHa (A7 t x) with
        | some n=>zSe ti.d (A7 t x)=true/\K (.val (.int .i64 n)) H k
        | none=>False
      | none=>False
    | _,_=>False
  | .call ⟨.builtin .min,args,_⟩ =>
    match args.toList with
    | [x,y] =>
      match A7 t x,A7 t y with
      | .val (.int kd m),.val (.int _ n)=>K (.val (.int kd (if n<m then n else m))) H k
      | _,_=>False
    | _=>False
  | .call ⟨.builtin .max,args,_⟩ =>
    match args.toList with
    | [x,y] =>
      match A7 t x,A7 t y with
      | .val (.int kd m),.val (.int _ n)=>K (.val (.int kd (if n > m then n else m))) H k
      | _,_=>False
    | _=>False
  | .call ⟨.builtin .append,args,ts⟩ =>
    match args.toList,ts.toList with
    | [s,x],[ty,u] =>
      match T ty,T u with
      | some ti,some tu =>
        match ti.d,tu.d with
        | .slice e,.slice _ =>
          match T e with
          | some te=>z8 H k te (A7 t s) (A7 t x) K
          | none=>False
        | _,_=>False
      | _,_=>False
    | _,_=>False
  | op=>zO9 (zOb T t H k op) K
def Xd_:Op->Bool
 | .call ⟨.value _,_,_⟩=>true
 | _=>false
section
variable {fr:Nat->Prop} {F:Nat->Prop} {ι ι':E3} {O:Nat->Prop} {H:A8} {σ σ':St} {a a':Act} {w w':World} {P:Program} {T:Tab}
variable {ops:List Oper}
theorem zFg {op:BinOp} {k:IntKind} {x y:Int} {K:V->Prop} (h:L3 op k x y K):∃ v,zUd op k x y=some v/\K (.val v):=by
 unfold L3 at h
 unfold zUd
 cases op<;>simp only [] at h ⊢<;>first|exact ⟨_,rfl,h⟩|exact ⟨_,if_neg h.1,h.2⟩|exact h.elim
theorem zHi {op:BinOp} {k:IntKind} {x y:Int} {K:V->Prop} (h:zHh op k x y K):∃ v,shI op k x y=some v/\K (.val v):=by
 unfold zHh at h
 unfold shI
 cases op<;>simp only [] at h ⊢<;>first|exact ⟨_,if_neg (by omega),h.2⟩|exact h.elim
theorem zA1 {o:Oper} {K:V->A8->Nat->Prop} (f:Go.Fn) (fs cs:Array Operand) (ho:o.op=.makeFunc f fs cs) (hk:K (.fn f (fs.toList.map (A7 σ.t)) (cs.toList.map (A7 σ.t))) σ.H σ.k):OpT fr P o σ K :=
 C5 hk fun F ι a w hh=>by
  refine ⟨.func f (fs.map a.eval) (cs.map a.eval),?_,?_⟩
  .unfold execOp;rw [ho];simp [Instr.makeFunc]
  have h1:=VRels.evals hh fs.toList
  have h2:=VRels.evals hh cs.toList
  have:=VRel.fn (f:=f) h1 h2
  have e1:∀ xs:Array Operand,(xs.toList.map a.eval).toArray=xs.map a.eval:=fun xs=>by apply Array.ext';simp
  rw [e1,e1] at this
  exact this
theorem Xe_ (hT:J9 P T) (hfr:fr σ.k) {o:Oper} {K:V->A8->Nat->Prop} (hc:Xd_ o.op=true->fr=All) (h:opV T P σ.t σ.H σ.k o.op K):OpT fr P o σ K:=by
 unfold opV at h
 split at h
 .rename_i x ho;exact Jz_ x (.inl ho) h
 .rename_i x ho;exact Jz_ x (.inr ho) h
 .rename_i c x y ho
  split at h
  .rename_i b hc;exact zU9 c x y ho hc (fun e=>by rw [if_pos e] at h;exact h) (fun e=>by rw [if_neg (by simp [e])] at h;exact h)
  exact h.elim
 .rename_i e x ho
  split at h
  .rename_i ti ht;exact zc9 hfr e x ho (hT _ _ ht) h.1 h.2
  exact h.elim
 .rename_i e ho
  split at h
  .rename_i ti ht;exact zNx hfr e ho (hT _ _ ht) h
  exact h.elim
 .rename_i ty x ho
  split at h
  .rename_i ti ht
   unfold Wy_ at h
   split at h
   .rename_i n i j hx
    split at h
    .rename_i sz es hn;exact J0_ ty x ho (hT _ _ ht) hx hn h.1 h.2.1 h.2.2
    exact h.elim
   .rename_i cs j hx;exact zFb ty x ho (hT _ _ ht) hx h.1 h.2
   exact h.elim
  exact h.elim
 .rename_i ty x y ho
  split at h
  .rename_i ti ht
   unfold Xa_ at h
   split at h
   .rename_i n i j hx
    split at h
    .rename_i sz es hn;exact QF_ ty x y ho (hT _ _ ht) hx hn h.1 h.2.1 h.2.2.1 h.2.2.2.1 h.2.2.2.2
    exact h.elim
   exact h.elim
  exact h.elim
 .rename_i ty x y ho
  split at h
  .rename_i ti ht
   unfold Q3 at h
   split at h
   .rename_i kd m hy
    split at h
    .rename_i len e hd
     split at h
     .rename_i te hte
      split at h
      .rename_i n i j hx;exact x3 ty x y ho (hT _ _ ht) hd (hT _ _ hte) hx hy h.1 h.2.1 h.2.2
      .rename_i cs j hx;exact y9 ty x y ho (hT _ _ ht) hd (hT _ _ hte) hx hy h.1 h.2.1 h.2.2
      exact h.elim
     exact h.elim
    .rename_i e hd
     split at h
     .rename_i te hte
      split at h
      .rename_i n i len hx
       split at h
       .rename_i sz es hn
        obtain ⟨h1,h2,h3,h4⟩:=h
        subst h1
        exact XX_ ty x y ho (hT _ _ ht) hd (hT _ _ hte) hx hy hn h2 h3 h4
       exact h.elim
      .rename_i sz es hx
       obtain ⟨h1,h2,h3,h4⟩:=h
       subst h1
       exact XY_ ty x y ho (hT _ _ ht) hd (hT _ _ hte) hx hy h2 h3 h4
      exact h.elim
     exact h.elim
    exact h.elim
   exact h.elim
  exact h.elim
 .rename_i ty x y ho
  split at h
  .rename_i ti ht
   unfold X0 at h
   split at h
   .rename_i kd m hy
    split at h
    .rename_i len e hd
     split at h
     .rename_i te hte
      split at h
      .rename_i cs hx;exact QG_ ty x y ho (hT _ _ ht) hd (hT _ _ hte) hx hy h.1 h.2.1 h.2.2.1 h.2.2.2
      exact h.elim
     exact h.elim
    .rename_i hd
     split at h
     .rename_i s hx;exact QH_ ty x y ho (hT _ _ ht) hd hx hy h.1 h.2.1 h.2.2
     exact h.elim
    exact h.elim
   exact h.elim
  exact h.elim
 .rename_i ty x f ho
  split at h
  .rename_i ti ht
   unfold Q4 at h
   split at h
   .rename_i fs hd
    split at h
    .rename_i ft off sz hf
     split at h
     .rename_i tf htf
      split at h
      .rename_i n i j hx;exact Yl_ ty x f ho (hT _ _ ht) hd hf (hT _ _ htf) h.1 hx h.2
      .rename_i cs j hx;exact XZ_ ty x f ho (hT _ _ ht) hd hf (hT _ _ htf) h.1 hx h.2
      exact h.elim
     exact h.elim
    exact h.elim
   exact h.elim
  exact h.elim
 .rename_i ty x f ho
  split at h
  .rename_i ti ht
   unfold Xb_ at h
   split at h
   .rename_i fs hd
    split at h
    .rename_i ft off sz hf
     split at h
     .rename_i tf htf
      split at h
      .rename_i cs hx;exact zNy ty x f ho (hT _ _ ht) hd hf (hT _ _ htf) hx h.1 h.2
      exact h.elim
     exact h.elim
    exact h.elim
   exact h.elim
  exact h.elim
 .rename_i x i ho
  split at h
  .rename_i vs hx;exact zFd x i ho hx h.1 h.2
  exact h.elim
 .rename_i op ty x y u ho
  unfold zUm at h
  split at h
  .rename_i cs ds hx hy
   split at h
   .rename_i ti ht
    obtain ⟨hg,h⟩:=h
    unfold eqV at h
    split at h
    .rename_i sp hsp
     split at h
     .rename_i b hb
      split at h
      .exact zSf hT _ ty u x y ho ht hg hsp hx hy hb (.inl ⟨rfl,h⟩)
      .exact zSf hT _ ty u x y ho ht hg hsp hx hy hb (.inr ⟨rfl,h⟩)
      exact h.elim
     exact h.elim
    exact h.elim
   exact h.elim
  .rename_i n i j hx hy
   unfold zOc at h
   split at h
   .rename_i ti ht
    split at h
    .rename_i e hd
     split at h
     .exact ZT_ _ ty u x y ho (hT _ _ ht) hd (by rw [hx];rfl) hy (.inl ⟨rfl,h⟩)
     .exact ZT_ _ ty u x y ho (hT _ _ ht) hd (by rw [hx];rfl) hy (.inr ⟨rfl,h⟩)
     exact h.elim
    exact h.elim
   exact h.elim
  .rename_i cs j hx hy
   unfold zOc at h
   split at h
   .rename_i ti ht
    split at h
    .rename_i e hd
     split at h
     .exact ZT_ _ ty u x y ho (hT _ _ ht) hd (by rw [hx];rfl) hy (.inl ⟨rfl,h⟩)
     .exact ZT_ _ ty u x y ho (hT _ _ ht) hd (by rw [hx];rfl) hy (.inr ⟨rfl,h⟩)
     exact h.elim
    exact h.elim
   exact h.elim
  .rename_i k m k' n hx hy
   split at h
   .obtain ⟨v,hv,hk⟩:=zHi h
    exact zca op ty u x y ho hx hy hv hk
   obtain ⟨h1,h2⟩:=h
   subst h1
   obtain ⟨v,hv,hk⟩:=zFg h2
   exact zUf op ty u x y ho hx hy hv hk
  .rename_i m n hx hy
   split at h<;>first
    | exact zH9 _ ty u x y ho hx hy rfl h
    | exact zH9 _ ty u x y ho hx hy (if_neg (by have:=h.1;omega)) h.2
    | exact h.elim
  .rename_i m n hx hy
   split at h
   .rename_i ti ht
    split at h
    .rename_i hd
     split at h
     .exact zSd _ ty u x y ho (hT _ _ ht) hd hx hy (.inl ⟨rfl,h⟩)
     .exact zSd _ ty u x y ho (hT _ _ ht) hd hx hy (.inr ⟨rfl,h⟩)
     exact h.elim
    exact h.elim
   exact h.elim
  exact h.elim
 .rename_i op ty x ho
  split at h
  .rename_i b hx;exact zcb ty x ho hx h
  .rename_i kd n hx;exact zcc ty x ho hx h
  .rename_i kd n hx;exact zcd ty x ho hx h
  exact h.elim
 .rename_i s d x ho
  split at h
  .rename_i ts td k' n hs hd hx
   split at h
   .rename_i k1 kd h1 h2
    obtain ⟨h3,h4⟩:=h
    subst h3
    exact zO0 s d x ho (hT _ _ hd) (hT _ _ hs) h2 h1 hx h4
   exact h.elim
  exact h.elim
 .rename_i ty parts ho
  split at h
  .rename_i ti ht
   split at h
   .rename_i fs hd
    refine zO1 ty parts ho (hT _ _ ht) hd (fun f hf=>?_) h.2
    have:=List.all_eq_true.1 h.1 f hf
    obtain ⟨tf,htf⟩:=Option.isSome_iff_exists.1 this
    exact ⟨tf,hT _ _ htf⟩
   .rename_i n e hd
    split at h
    .rename_i te hte;exact QJ_ ty parts ho (hT _ _ ht) hd (hT _ _ hte) h
    exact h.elim
   exact h.elim
  exact h.elim
 .rename_i ty len parts ho
  split at h
  .rename_i ti ht
   split at h
   .rename_i e hd
    split at h
    .rename_i te hte
     obtain ⟨h1,h2,h3,h4,h5⟩:=h
     exact V0_ hfr ty len parts ho (hT _ _ ht) hd (hT _ _ hte) h1 h2 h3 (fun p hp=>h4 _ (List.mem_map.2 ⟨p,hp,rfl⟩)) h5
    exact h.elim
   exact h.elim
  exact h.elim
 .rename_i ty x lo hi ho
  split at h
  .rename_i ti ht
   split at h
   .rename_i hd
    split at h
    .rename_i s hx
     split at h
     .rename_i l hb h1 h2;exact QK_ ty x lo hi ho (hT _ _ ht) hd hx h1 h2 h.1 h.2.1 h.2.2.1 h.2.2.2
     exact h.elim
    exact h.elim
   .rename_i e hd
    split at h
    .rename_i te hte
     unfold Xc_ at h
     split at h
     .rename_i hx
      split at h
      .rename_i l hb h1 h2;exact QL_ ty x lo hi ho (hT _ _ ht) hd (hT _ _ hte) hx h1 h2 h.1 h.2.1 h.2.2
      exact h.elim
     .rename_i n i len hx
      split at h
      .rename_i sz es hn
       split at h
       .rename_i l hb h1 h2
        obtain ⟨h3,h4,h5,h6,h7⟩:=h
        subst h3
        exact J2_ ty x lo hi ho (hT _ _ ht) hd (hT _ _ hte) hx hn h1 h2 h4 h5 h6 h7
       exact h.elim
      exact h.elim
     .rename_i sz es hx
      split at h
      .rename_i l hb h1 h2
       obtain ⟨h3,h4,h5,h6,h7⟩:=h
       subst h3
       exact J3_ ty x lo hi ho (hT _ _ ht) hd (hT _ _ hte) hx h1 h2 h4 h5 h6 h7
      exact h.elim
     exact h.elim
    exact h.elim
   .rename_i len e hd
    obtain ⟨v,H',k',h1,h2⟩:=Y2_ h
    obtain ⟨u,hu,he⟩:=Option.map_eq_some_iff.1 h1
    cases he
    exact QT_ hT ho ht hd hu h2
   exact h.elim
  exact h.elim
 .rename_i x ho;exact J5_ x ho h.1 h.2
 .rename_i ty l c ho
  unfold zA0 at h
  split at h
  .rename_i kl l' kc c' hl hc
   split at h
   .rename_i ti ht
    split at h
    .rename_i e hd
     split at h
     .rename_i te hte
      obtain ⟨h1,h2,h3,h4,h5⟩:=h
      exact QO_ hfr ty l c ho (hT _ _ ht) hd (hT _ _ hte) hl hc h1 h2 h3 h4 h5
     exact h.elim
    exact h.elim
   exact h.elim
  exact h.elim
 .rename_i f fs cs ho;exact zA1 f fs cs ho h
 .rename_i f args ts ho
  split at h
  .rename_i g fs cs hf
   have hc:=hc (by rw [ho];rfl)
   subst hc
   exact zUg f args ts ho hf h
  exact h.elim
 .rename_i args ts ho
  split at h
  .rename_i x ty ha hts
   split at h
   .rename_i ti ht
    split at h
    .rename_i n hn
     have ea:args=#[x]:=by apply Array.ext';exact ha
     have et:ts=#[ty]:=by apply Array.ext';exact hts
     subst ea et
     exact zce x ty ho (hT _ _ ht) h.1 hn h.2
    exact h.elim
   exact h.elim
  exact h.elim
 .rename_i args ts ho
  split at h
  .rename_i x y ha
   split at h
   .rename_i kd m k' n hx hy
    have ea:args=#[x,y]:=by apply Array.ext';exact ha
    subst ea
    exact zcf x y ts ho hx hy h
   exact h.elim
  exact h.elim
 .rename_i args ts ho
  split at h
  .rename_i x y ha
   split at h
   .rename_i kd m k' n hx hy
    have ea:args=#[x,y]:=by apply Array.ext';exact ha
    subst ea
    exact zcg x y ts ho hx hy h
   exact h.elim
  exact h.elim
 .rename_i args ts ho
  split at h
  .rename_i s x ty u ha hts
   split at h
   .rename_i ti tu ht htu
    split at h
    .rename_i e e' hd hdu
     split at h
     .rename_i te hte
      have ea:args=#[s,x]:=by apply Array.ext';exact ha
      have et:ts=#[ty,u]:=by apply Array.ext';exact hts
      subst ea et
      unfold z8 at h
      split at h
      .rename_i news hx
       split at h
       .rename_i hs
        obtain ⟨h1,h2,h3,h4⟩:=h
        exact QN_ hfr s x ty u ho (hT _ _ ht) hd (hT _ _ htu) hdu (hT _ _ hte) h1 h2 (olds:=[]) (.inl ⟨hs,rfl,rfl⟩) hx (by simpa using h3) (by simpa using h4)
       .rename_i n i len hs
        split at h
        .rename_i sz es hn
         obtain ⟨h1,h2,h3,h4,h5,h6⟩:=h
         subst h1
         have hl:((es.drop i).take len).length=len:=by rw [length_take,length_drop];omega
         exact QN_ hfr s x ty u ho (hT _ _ ht) hd (hT _ _ htu) hdu (hT _ _ hte) h3 h4 (.inr ⟨n,i,len,es,hs,hn,h2,rfl,rfl⟩) hx (by rw [hl];exact h5) (by rw [hl];exact h6)
        exact h.elim
       exact h.elim
      exact h.elim
     exact h.elim
    exact h.elim
   exact h.elim
  exact h.elim
 exact J9_ hT hfr h
def Yp_ (d:Option Tmp) (N:Nat):Prop:=match d with|some d=>d<N|none=>True
def o6 (ops:List Oper) (t:List (Nat × V)) (g:Option (Nat × Bool)) (yes no:Prop):Prop :=
 match g with
 | none=>yes
 | some (j,want) =>
  match (ops[j]?).bind (·.dst) with
  | some d =>
   match get t d with
   | .val (.bool b)=>if b=want then yes else no
   | .tup []=>no
   | _=>False
  | none=>False
def QU_ (ops:List Oper) (t:List (Nat × V)) (g:Option (Nat × Bool)) (yes no:Prop):Prop :=
 match g with
 | none=>yes
 | some (j,want) =>
  match (ops[j]?).bind (·.dst) with
  | some d =>
   match get t d with
   | .val (.bool b)=>if want then ((b=true->yes)/\(b=false->no)) else ((b=false->yes)/\(b=true->no))
   | .tup []=>no
   | _=>False
  | none=>False
theorem Xf_ {t:List (Nat × V)} {g:Option (Nat × Bool)} {yes no:Prop} (h:o6 ops t g yes no):QU_ ops t g yes no:=by
 unfold o6 at h
 unfold QU_
 split at h
 .exact h
 rename_i j want
 split at h
 .rename_i d hj
  split at h
  .cases want<;>rename_i b _<;>cases b<;>simp_all
  .simp_all
  exact h.elim
 exact h.elim
def vcL (T:Tab) (P:Program) (ops:List Oper) (N:Nat):List Oper->(St->Prop)->List (Nat × V)->A8->Nat->Prop
 | [],K,t,H,k=>K ⟨N,t,H,k⟩
 | o::rest,K,t,H,k=>Yp_ o.dst N/\o6 ops t o.guard (opV T P t H k o.op fun v H' k'=>vcL T P ops N rest K (W6_ t o.dst v) H' k') (vcL T P ops N rest K (W6_ t o.dst (.tup [])) H k)
theorem Holds.yields (hh:Holds All F ι σ a w) {d:Nat} (hd:d<σ.N):(∀ b,get σ.t d=.val (.bool b)->a.tmps[d]?=some (.bool b))/\(get σ.t d=.tup []->a.tmps[d]?=some (.tuple #[])):=by
 have ht:=hh.tmps d
 have hlt:d<a.tmps.size:=by rw [hh.size];exact hd
 have he:a.tmps.getD d undef=a.tmps[d]:=by simp [Array.getD,hlt]
 rw [he] at ht
 constructor
 .intro b hb
  rw [hb] at ht
  rw [Array.getElem?_eq_getElem hlt,ht.inv_bool]
 intro hb
 rw [hb] at ht
 rw [Array.getElem?_eq_getElem hlt]
 generalize a.tmps[d]=x at ht
 cases ht with
 | tup h=>cases h;rfl
theorem Holds.skipped (hh:Holds All F ι σ a w) {dst:Option Tmp} (hd:Yp_ dst σ.N):Holds All F ι ⟨σ.N,W6_ σ.t dst (.tup []),σ.H,σ.k⟩ (a.put dst undef) w :=
 hh.step (hh.same (VRel.tup .nil)) fun d hd'=>by subst hd';exact hd
theorem Xg_ (hT:J9 P T) (ops:List Oper) (l:List Oper):∀ (K:St->Prop) (σ:St),vcL T P ops σ.N l K σ.t σ.H σ.k->(∀ o∈ops,Yp_ o.dst σ.N)->TrL P ops.toArray l K σ:=by
 induction l with
 | nil=>intro K σ h _ F ι a w hh Q hQ;exact hQ ι σ a w h hh (Ext.refl _ _ _ _ _)
 | cons o rest ih =>
  intro K σ h hops F ι a w hh Q hQ
  simp only [vcL] at h
  obtain ⟨hd,hg⟩:=h
  have yes:opV T P σ.t σ.H σ.k o.op (fun v H' k'=>vcL T P ops σ.N rest K (W6_ σ.t o.dst v) H' k')->o.wp P a w (wpList P ops.toArray Q rest) Q:=fun h=>by
   refine Xe_ hT trivial (fun _=>rfl) h F ι a w hh _ Q ?_
   intro ι' v cv H' k' w' hk hO
   have hh':=hh.step hO (dst:=o.dst) (fun d hd'=>by rw [hd'] at hd;exact hd)
   exact ih K ⟨σ.N,W6_ σ.t o.dst v,H',k'⟩ hk hops F ι' _ w' hh' Q fun ι'' σ'' a'' w'' hK hh'' hx=>hQ ι'' σ'' a'' w'' hK hh'' (hO.ext.trans hx)
  have no:vcL T P ops σ.N rest K (W6_ σ.t o.dst (.tup [])) σ.H σ.k->wpList P ops.toArray Q rest (a.put o.dst undef) w:=fun h =>
   ih K ⟨σ.N,W6_ σ.t o.dst (.tup []),σ.H,σ.k⟩ h hops F ι _ w (hh.skipped hd) Q hQ
  have hg:=Xf_ hg
  unfold QU_ at hg
  cases hgd:o.guard with
  | none =>
   rw [hgd] at hg
   simp only [wpList]
   rw [if_pos (by simp [Region.wanted,hgd])]
   exact .inl (yes hg)
  | some g =>
   obtain ⟨j,want⟩:=g
   rw [hgd] at hg
   simp only at hg
   cases hj:(ops[j]?).bind (·.dst) with
   | none=>rw [hj] at hg;exact hg.elim
   | some d =>
    rw [hj] at hg
    simp only at hg
    have hdN:d<σ.N:=by
     obtain ⟨oj,hoj,hdj⟩:=Option.bind_eq_some_iff.1 hj
     have:=hops oj (List.mem_of_getElem? hoj)
     rw [hdj] at this;exact this
    obtain ⟨hy1,hy2⟩:=hh.yields hdN
    have hyl:∀ b,a.tmps[d]?=some (.bool b)->yielded ops.toArray a.tmps j=some b:=by
     intro b hb
     unfold yielded
     have:((ops.toArray[j]?).bind (·.dst))=some d:=by simpa using hj
     rw [this];simp [hb]
    simp only [wpList]
    split at hg
    .rename_i b hb
     have hyb:=hyl b (hy1 b hb)
     cases want<;>cases b<;>simp only [Region.wanted,hgd,hyb,if_true,if_false,Bool.false_eq_true] at hg ⊢
     .rw [if_pos (by simp)];exact .inl (yes (hg.1 trivial))
     .rw [if_neg (by simp)];exact no (hg.2 trivial)
     .rw [if_neg (by simp)];exact no (hg.2 trivial)
     rw [if_pos (by simp)];exact .inl (yes (hg.1 trivial))
    .rename_i hb
     have ht:=hy2 hb
     have hyn:yielded ops.toArray a.tmps j=none:=by
      unfold yielded
      have:((ops.toArray[j]?).bind (·.dst))=some d:=by simpa using hj
      rw [this];simp [ht]
     rw [if_neg (by simp [Region.wanted,hgd,hyn])]
     exact no hg
    exact hg.elim
def R8 (ops:List Oper) (N:Nat):Bool:=ops.all fun o=>match o.dst with|some d=>decide (d<N)|none=>true
theorem U1 {N:Nat} (h:R8 ops N=true):∀ o∈ops,Yp_ o.dst N:=by
 intro o ho
 have:=List.all_eq_true.1 h o ho
 unfold Yp_
 cases hd:o.dst with
 | none=>trivial
 | some d=>rw [hd] at this;simpa using this
theorem QV_ (hT:J9 P T) {id:Nat} {l:List Oper} {Q:Exit->St->Prop} {N k:Nat} {t:List (Nat × V)} {H:A8} (hN:R8 l N=true) (h:vcL T P l N l (fun σ'=>Q .normal σ') t H k):Tr P (.region id l.toArray false) Q ⟨N,t,H,k⟩ :=
 fun F ι a w hh=>wp_region_lit (Xg_ hT l l _ ⟨N,t,H,k⟩ h (U1 hN) F ι a w hh _ fun ι' σ' _ _ hK hh' hx=>⟨ι',σ',hK,hh',hx⟩)
end
end Go.Sl
namespace Go.Sl
def Y3_:List V->V
 | [v]=>v
 | vs=>.tup vs
def zCh (tmps:Array Value):ResultVar->Sem Value
 | .tmp t=>pure (tmps.getD t undef)
 | .cell a t=>do loadVar t (<-asAddr (tmps.getD a undef))
theorem zFh (fn:Func) (tmps:Array Value):results fn tmps=(do let vs <-fn.results.mapM (zCh tmps);pure (if h:vs.size=1 then vs[0] else .tuple vs)):=by
 unfold results
 congr 1
def zSg (T:Tab) (t:List (Nat × V)) (H:A8):List ResultVar->List V->(V->Prop)->Prop
 | [],acc,K=>K (Y3_ acc)
 | .tmp i::r,acc,K=>zSg T t H r (acc++[get t i]) K
 | .cell i ty::r,acc,K =>
  match T ty with
  | some ti=>Wy_ H ti (get t i) fun v=>zSg T t H r (acc++[v]) K
  | none=>False
def zA2:Nat->List V->List (Nat × V)
 | _,[]=>[]
 | i,v::vs=>(i,v)::zA2 (i+1) vs
section
variable {F:Nat->Prop} {ι ι':E3} {O:Nat->Prop} {H H':A8} {σ σ':St} {a a':Act} {w w':World} {P:Program} {T:Tab}
theorem zHj (vs:List V):∀ (s i:Nat),get (zA2 s vs) i=if s<=i then vs.getD (i-s) .any else .any:=by
 induction vs with
 | nil=>intro s i;simp [zA2,get]
 | cons v vs ih =>
  intro s i
  simp only [zA2,get,ih]
  by_cases h:i=s
  .subst h;simp
  rw [if_neg h]
  by_cases h2:s<=i
  .rw [if_pos h2,if_pos (by omega),show i-s=(i-(s+1))+1 by omega];simp
  rw [if_neg h2,if_neg (by omega)]
theorem zHk (R : Rep F ι H w) {ty : TypeId} {ti : TI} (hti : C8 P ty = some ti) {x : V} {cx : Value} (hx : VRel ι (Own F ι H) w x cx) {K : V → Prop} (h : Wy_ H ti x K) :
    ∃ ad v cv,cx=.pointer (some ad)/\(loadVar ty ad).run P w=.ok cv w/\VRel ι (Own F ι H) w v cv/\K v:=by
  unfold Wy_ at h
  split at h
  . split at h
    . rename_i sz es hn
      obtain ⟨ad,y,h1,h2,h3⟩:=YU_ (P:=P) R hti hx hn h.1 h.2.1
      exact ⟨ad,_,y,h1,h2,h3,h.2.2⟩
    exact h.elim
  . obtain ⟨ad,y,h1,h2,h3⟩:=XV_ (P:=P) hti hx h.1
    exact ⟨ad,_,y,h1,h2,h3,h.2⟩
  exact h.elim
theorem V4_ (hT : J9 P T) (hh : Holds All F ι σ a w) : ∀ (rs : List ResultVar) (acc : List V) (cacc : List Value) (K : V → Prop), zSg T σ.t σ.H rs acc K → VRels ι (Own F ι σ.H) w acc cacc →
    ∃ cvs:List Value,(rs.mapM (zCh a.tmps)).run P w=.ok cvs w/\∃ vs,VRels ι (Own F ι σ.H) w vs (cacc++cvs)/\K (Y3_ vs)
  | [],acc,cacc,K,h,hv=>⟨[],rfl,acc,by simpa using hv,h⟩
  | .tmp i::r,acc,cacc,K,h,hv=>by
    obtain ⟨cvs,h1,vs,h2,h3⟩:=V4_ hT hh r _ (cacc++[a.tmps.getD i undef]) K h (hv.snoc (hh.tmps i))
    exact ⟨a.tmps.getD i undef::cvs,by simp only [mapM_cons,zCh,Sem.run_bind,Sem.run_pure,Result.andThen_ok,h1],vs,by rw [append_assoc] at h2;exact h2,h3⟩
  | .cell i ty::r,acc,cacc,K,h,hv=>by
    simp only [zSg] at h
    cases hti:T ty with
    | none=>rw [hti] at h;exact h.elim
    | some ti =>
      rw [hti] at h
      obtain ⟨ad,v,cv,e1,e2,e3,e4⟩:=zHk (P:=P) hh.rep (hT _ _ hti) (hh.tmps i) h
      obtain ⟨cvs,h1,vs,h2,h3⟩:=V4_ hT hh r _ (cacc++[cv]) K e4 (hv.snoc e3)
      exact ⟨cv::cvs,by simp only [mapM_cons,zCh,e1,asAddr,Sem.run_bind,Sem.run_pure,Result.andThen_ok,e2,h1],vs,by rw [append_assoc] at h2;exact h2,h3⟩
def zo0 (T:Tab) (rs:List ResultVar) (K:V->A8->Nat->Prop) (e:Exit) (σ':St):Prop:=(e=.normal\/e=.ret)/\zSg T σ'.t σ'.H rs [] fun v=>K v σ'.H σ'.k
theorem zOd (hT : J9 P T) {f : FuncId} {fn : Func} {c : Code} {args : List V} {k : Nat} {K : V → A8 → Nat → Prop} (hf : P.funcs[f]? = some fn) (hb : fn.body = some c) (hname : (fn.name == "runtime.NumGoroutine") = false) (hN : args.length ≤ fn.ntmps)
    (h:Tr P c (zo0 T fn.results.toList K) ⟨fn.ntmps,zA2 0 args,H,k⟩):Fn P f args H k K:=by
  refine ⟨⟨fn,hf,hname,by simp [hb]⟩,fun F ι w cargs h1 h2 h3=>?_⟩
  have hl:=h1.length
  refine calls_of_wp hf hb (wp_mono (h F ι _ w ⟨rfl,?_,?_,h2,fun n _=>h3 n⟩) ?_)
  . simp only [Array.size_append,size_toArray,Array.size_replicate];omega
  . intro i
    simp only []
    rw [zHj,if_pos (Nat.zero_le _),Nat.sub_zero]
    cases hi:args[i]? with
    | none=>simp only [List.getD,hi,Option.getD_none];exact .any _
    | some v =>
      obtain ⟨x,hx,hv⟩:=h1.get i v hi
      have:(cargs.toArray++Array.replicate (fn.ntmps-cargs.toArray.size) undef).getD i undef=x:=by
        have hlt:=(List.getElem?_eq_some_iff.1 hx).1
        rw [Array.getD_eq_getD_getElem?,Array.getElem?_append_left (by simpa using hlt)]
        simp [hx]
      simp only [List.getD,hi,Option.getD_some]
      rw [this];exact hv
  rintro e a' w' ⟨ι',σ',⟨he,hr⟩,hh,hx⟩
  obtain ⟨cvs,e1,vs,e2,e3⟩:=V4_ hT hh fn.results.toList [] [] _ hr .nil
  simp only [nil_append] at e2
  have hrun:(results fn a'.tmps).run P w'=.ok (if h:cvs.toArray.size=1 then cvs.toArray[0] else .tuple cvs.toArray) w':=by
    rw [zFh,Array.mapM_eq_mapM_toList]
    simp only [Sem.run_bind,Sem.run_map,e1,Result.andThen_ok,Sem.run_pure]
  have hval:VRel ι' (Own F ι' σ'.H) w' (Y3_ vs) (if h:cvs.toArray.size=1 then cvs.toArray[0] else .tuple cvs.toArray):=by
    have hlen:=e2.length
    cases e2 with
    | nil=>exact .tup .nil
    | cons hv hs =>
      cases hs with
      | nil=>exact hv
      | cons hv' hs'=>exact .tup (.cons hv (.cons hv' hs'))
  have hpost:bodyPost P fn (fun e w'=>∃ ι' v cv H' k',e=.returned cv/\K v H' k'/\Out All F ι H k w ι' v cv H' k' w') .ret a' w' :=
    ⟨hh.defers,_,hrun,ι',_,_,σ'.H,σ'.k,rfl,e3,hx,hh.rep,hh.fresh,hval⟩
  rcases he with rfl|rfl
  . exact hpost
  exact hpost
def View (H:A8) (v:V) (H':A8) (v':V):Prop :=
 ∀ F ι w cv,Rep F ι H w->VRel ι (Own F ι H) w v cv->Rep F ι H' w/\Kept ι H w ι H' w/\(∀ n,n∈H'.map Prod.fst->n∈H.map Prod.fst)/\VRel ι (Own F ι H') w v' cv
theorem View.refl (H:A8) (v:V):View H v H v:=fun _ _ _ _ R hv=>⟨R,.refl _ _ _,fun _ h=>h,hv⟩
theorem View.trans {H'':A8} {v v' v'':V} (h:View H v H' v') (h':View H' v' H'' v''):View H v H'' v'':=fun F ι w cv R hv=>by
 obtain ⟨R1,K1,N1,V1⟩:=h F ι w cv R hv
 obtain ⟨R2,K2,N2,V2⟩:=h' F ι w cv R1 V1
 exact ⟨R2,K1.trans K2,fun n hn=>N1 n (N2 n hn),V2⟩
theorem View.del (n:Nat) (v:V):View H v (Sl.del n H) v:=fun _ _ _ _ R hv=>⟨R.del n,O9 R n,fun _ h=>(F4 n H).mem h,hv.stays (O9 R n).stays⟩
theorem View.nil (v:V):View H v [] v:=by
 induction H with
 | nil=>exact View.refl _ _
 | cons p r ih =>
  have h:=View.del (H:=p::r) p.1 v
  simp only [Sl.del,if_true] at h
  exact h.trans ih
theorem View.perm (p:H.Perm H') (v:V):View H v H' v:=fun _ _ _ _ R hv=>⟨R.perm p,.perm p,fun _ h=>(p.map _).mem_iff.2 h,hv.stays (Kept.perm p).stays⟩
variable {args es vs:List V} {cv:Value} {i len sz:Nat} {r:V}
theorem zCi {n:Nat} (R:Rep F ι H w) (h:VRel ι (Own F ι H) w (.sl n i len) cv) (hn:look n H=some (.rows sz es)) (hl:i+len<=es.length):VRel ι (Own F ι (Sl.del n H)) w (.ro sz ((es.drop i).take len)) cv:=by
 have hS:=(O9 R n).stays (F:=F)
 have hlen:((es.drop i).take len).length=len:=by rw [length_take,length_drop];omega
 cases h with
 | sl0 h=>simpa using VRel.ro0
 | sl hl' hg hm hoff hc0 hlc hcm hs =>
  rename_i off cap l
  obtain ⟨e1,e2,e3,e4,e5,c,e,hw,hc,hlo,hv⟩:=R.block hn hl' hg
  have hcl:∀ v∈es,v.cells.length=sz:=fun v hv=>(C9.1 (e3 v hv)).1
  have hmul:(i+len)*sz<=es.length*sz:=Nat.mul_le_mul_right _ hl
  rw [Nat.add_mul] at hmul
  have hv':=(hv.drop (i*sz)).take (len*sz)
  rw [M2 hcl,O5 (fun v hv=>hcl v (mem_of_mem_drop hv))] at hv'
  have hlist:(((c.toList.drop l.o).take (es.length*sz)).drop (i*sz)).take (len*sz)=(c.toList.drop off).take (((es.drop i).take len).length*sz):=by
   rw [hlen]
   apply List.ext_getElem?
   intro q
   simp only [List.getElem?_take,List.getElem?_drop]
   by_cases hq:q<len*sz
   .simp only [hq,if_true,show i*sz+q<es.length*sz by omega]
    congr 1;rw [hoff,e1];omega
   simp [hq]
  rw [hlist] at hv'
  refine .ro e4 ?_ hw (fun v hv=>e3 v (mem_of_mem_drop (mem_of_mem_take hv))) hlen.symm hlc ?_ rfl (VRels.stays hS hv')
  .rintro (hF|⟨m,B',l',hm',hl2,hg',hb⟩)
   .exact e5 hF
   have h':=S5 R.names hm'
   exact R.apart m B' n _ l' l h'.2 (D6 hn) h'.1 hl2 hl' hg' hg hb
  rw [hlen,hoff,e1];omega
theorem zHl {n j:Nat} (R:Rep F ι H w) (h:VRel ι (Own F ι H) w (.ptr n i j) cv) (hn:look n H=some (.rows sz es)) (hl:i<es.length):VRel ι (Own F ι (Sl.del n H)) w (.rp (es.getD i .any).cells j) cv:=by
 have hS:=(O9 R n).stays (F:=F)
 cases h with
 | ptr hl' hg hm hoff =>
  rename_i off l
  obtain ⟨e1,e2,e3,e4,e5,c,e,hw,hc,hlo,hv⟩:=R.block hn hl' hg
  have hcl:∀ v∈es,v.cells.length=sz:=fun v hv=>(C9.1 (e3 v hv)).1
  obtain ⟨v,hvi⟩:∃ v,es[i]?=some v:=⟨_,List.getElem?_eq_getElem hl⟩
  have hd:es.getD i .any=v:=by simp [List.getD,hvi]
  have hvf:=C9.1 (e3 v (List.mem_of_getElem? hvi))
  have hmul:i*sz+sz<=es.length*sz:=by rw [<-Nat.succ_mul];exact Nat.mul_le_mul_right _ hl
  have hel:=(hv.drop (i*sz)).take sz
  rw [J1 hcl hvi] at hel
  have hlist:(((c.toList.drop l.o).take (es.length*sz)).drop (i*sz)).take sz=(c.toList.drop (l.o+i*sz)).take v.cells.length:=by
   rw [hvf.1]
   apply List.ext_getElem?
   intro q
   simp only [List.getElem?_take,List.getElem?_drop]
   by_cases hq:q<sz
   .simp only [hq,if_true,show i*sz+q<es.length*sz by omega]
    congr 1;omega
   simp [hq]
  rw [hlist] at hel
  rw [hd]
  refine .rp e4 ?_ hw (by simpa using hvf.2) (by rw [hvf.1];omega) rfl (VRels.stays hS hel) (by rw [hoff,e1])
  rintro (hF|⟨m,B',l',hm',hl2,hg',hb⟩)
  .exact e5 hF
  have h':=S5 R.names hm'
  exact R.apart m B' n _ l' l h'.2 (D6 hn) h'.1 hl2 hl' hg' hg hb
theorem View.freeze {n:Nat} (hn:look n H=some (.rows sz es)) (hl:i+len<=es.length):View H (.sl n i len) (Sl.del n H) (.ro sz ((es.drop i).take len)):=fun _ _ _ _ R hv =>
 ⟨R.del n,O9 R n,fun _ h=>(F4 n H).mem h,zCi R hv hn hl⟩
theorem View.freezeAll {n:Nat} (hn:look n H=some (.rows sz es)) (hl:len=es.length):View H (.sl n 0 len) (Sl.del n H) (.ro sz es):=by
 have:=View.freeze (i:=0) (len:=len) hn (by omega)
 simpa [hl] using this
theorem Weaker.freeze {N k n:Nat} {t t':List (Nat × V)} (hn : look n H = some (.rows sz es))
    (h:∀ i,get t' i=.any\/get t' i=get t i\/(∃ q len,get t i=.sl n q len/\q+len<=es.length/\get t' i=.ro sz ((es.drop q).take len))\/(∃ q j,get t i=.ptr n q j/\q<es.length/\get t' i=.rp (es.getD q .any).cells j)) :
    Weaker ⟨N,t,H,k⟩ ⟨N,t',Sl.del n H,k⟩ :=
  ⟨fun F ι a w hh=>by
    have K:=O9 hh.rep n
    refine ⟨ι,⟨hh.defers,hh.size,fun i=>?_,hh.rep.del n,hh.fresh⟩,K,Nat.le_refl _,fun _ _=>rfl,fun _ h=>.inl ((F4 n H).mem h)⟩
    have ht:=hh.tmps i
    rcases h i with e|e|⟨q,len,e1,e2,e3⟩|⟨q,j,e1,e2,e3⟩
    . rw [e];exact .any _
    . rw [e];exact ht.stays K.stays
    . rw [e1] at ht;rw [e3];exact zCi hh.rep ht hn e2
    rw [e1] at ht;rw [e3];exact zHl hh.rep ht hn e2⟩
theorem Weaker.ghost {N k:Nat} {t:List (Nat × V)} (i sz:Nat) (h:get t i=.val (.slice none 0 0)):Weaker ⟨N,t,H,k⟩ ⟨N,(i,.sl k 0 0)::t,(k,.rows sz [])::H,k+1⟩ :=
 ⟨fun F ι a w hh=>by
  have hk:=hh.fresh k trivial (Nat.le_refl _)
  obtain ⟨R,K⟩:=hh.rep.ghost hk sz
  refine ⟨_,⟨hh.defers,hh.size,fun j=>?_,R,fun n _ hn=>?_⟩,K,Nat.le_succ _,fun n hn=>F9 _ _ _ _ (by have:=hn trivial;simp only [] at this;omega),fun n hn=>?_⟩
  .have ht:=hh.tmps j
   simp only [get]
   split
   .subst_vars
    simp only [] at ht
    rw [h] at ht
    rw [ht.inv_val]
    exact .sl0 (B4 _ _ _)
   exact ht.stays K.stays
  .simp only [] at hn
   rw [F9 _ _ _ _ (by omega)]
   exact hh.fresh n trivial (by simp only [];omega)
  simp only [map_cons,mem_cons] at hn
  rcases hn with hn|hn
  .exact .inr ⟨trivial,by simp only [];omega⟩
  exact .inl hn⟩
theorem Fn.view {f:FuncId} {k:Nat} {K:V->A8->Nat->Prop} (h:Fn P f args H k fun v H' k'=>∃ H'' v',View H' v H'' v'/\K v' H'' k'):Fn P f args H k K:=by
 refine ⟨h.enters,fun F ι w cargs h1 h2 h3=>(h.calls F ι w cargs h1 h2 h3).mono ?_⟩
 rintro e w' ⟨ι',v,cv,H',k',he,⟨H'',v',hv,hk⟩,hO⟩
 obtain ⟨R,K,N,V⟩:=hv F ι' w' cv hO.rep hO.val
 exact ⟨ι',v',cv,H'',k',he,hk,⟨hO.ext.kept.trans K,hO.ext.le,hO.ext.same,fun n hn=>hO.ext.dom n (N n hn)⟩,R,hO.fresh,V⟩
def NL (v:V):Prop:=∀ ι ι' O w cv,VRel ι O w v cv->VRel ι' O w v cv
def NLs (vs:List V):Prop:=∀ v∈vs,NL v
theorem NLs.rels (h:NLs vs) {xs:List Value} (hv:VRels ι O w vs xs):VRels ι' O w vs xs:=by
 induction vs generalizing xs with
 | nil=>cases hv;exact .nil
 | cons v vs ih=>cases hv with|cons h1 h2=>exact .cons (h v (by simp) _ _ _ _ _ h1) (ih (fun u hu=>h u (by simp [hu])) h2)
theorem NL.any:NL .any:=fun _ _ _ _ _ _=>.any _
theorem NL.val (v:Value):NL (.val v):=fun _ _ _ _ _ h=>by cases h with|val _ h=>exact .val _ h
theorem NL.agg {cs:List V} (h:NLs cs):NL (.agg cs):=fun _ _ _ _ _ hv=>by cases hv with|agg hv=>exact .agg (h.rels hv)
theorem NL.tup {cs:List V} (h:NLs cs):NL (.tup cs):=fun _ _ _ _ _ hv=>by cases hv with|tup hv=>exact .tup (h.rels hv)
theorem NL.ro {sz:Nat} {es:List V} (h:∀ v∈es,NLs v.cells):NL (.ro sz es):=fun _ _ _ _ _ hv=>by
 cases hv with
 | ro0=>exact .ro0
 | ro hb hO hw hsz hlen hlc hin hvs hv =>
  refine .ro hb hO hw hsz hlen hlc hin hvs (NLs.rels ?_ hv)
  intro c hc
  obtain ⟨v,h1,h2⟩:=List.mem_flatMap.1 hc
  exact h v h1 c h2
theorem NL.rp {cs:List V} {j:Nat} (h:NLs cs):NL (.rp cs j):=fun _ _ _ _ _ hv=>by
 cases hv with
 | rp hb hO hw hsz hin hvs hv ho=>exact .rp hb hO hw hsz hin hvs (h.rels hv) ho
theorem NLs.nil:NLs []:=by intro v h;cases h
theorem NLs.cons {v:V} {vs:List V} (h:NL v) (hs:NLs vs):NLs (v::vs):=by
 intro u hu;cases hu with
 | head=>exact h
 | tail _ hu=>exact hs u hu
theorem NL.cells {v:V} (h:NL v) (ha:∀ cs,v=.agg cs->NLs cs):NLs v.cells:=by
 cases v with
 | agg cs=>exact ha cs rfl
 | _=>exact .cons h .nil
structure Pf (P:Program) (f:FuncId) (args:List V) (r:V):Prop where
 enters:Enters P f
 calls:∀ ι O w cargs,(∀ b,O b->b<w.heap.size)->VRels ι O w args cargs->Calls P f cargs.toArray w fun e w'=>∃ cv,e=.returned cv/\VRel ι O w' r cv ∧
  w'.os=w.os/\Tp w w'/\w'.output=w.output/\w.heap.size<=w'.heap.size/\∀ b,b<w.heap.size->w'.heap[b]?=w.heap[b]?
theorem NLs.of_rel (h:NLs vs) {xs:List Value} (hv:VRels ι O w vs xs):VRels ι' O w vs xs:=h.rels hv
theorem Pf.of_fn {f:FuncId} (ha:NLs args) (hr:NL r) (h:Fn P f args [] 0 fun v _ _=>v=r):Pf P f args r:=by
 refine ⟨h.enters,fun ι O w cargs hO hv=>?_⟩
 have hown:Own O (fun _=>none) []=O:=funext fun b=>propext ⟨fun h=>h.elim id (fun ⟨_,_,_,h,_⟩=>by cases h),.inl⟩
 have R:Rep O (fun _=>none) [] w:=⟨hO,by simp,(by intro _ _ h;cases h),(by intro _ _ _ _ _ _ h;cases h)⟩
 refine (h.calls O (fun _=>none) w cargs (by rw [hown];exact ha.rels hv) R (fun _ _=>rfl)).mono ?_
 rintro e w' ⟨ι',v,cv,H',k',he,rfl,hO'⟩
 have hno:∀ b,b<w.heap.size->¬ OwnH ι' H' b:=fun b hb ho=>by
  obtain ⟨_,_,_,h,_⟩:=hO'.ext.kept.old b hb ho;cases h
 have K:=hO'.ext.kept
 refine ⟨cv,he,?_,K.os,K.tape,K.output,K.size,fun b hb=>K.stay b hb fun ⟨_,_,_,h,_⟩=>by cases h⟩
 obtain ⟨_,_,_,V⟩:=View.nil (H:=H') v O ι' w' cv hO'.rep hO'.val
 have hown':Own O ι' []=O:=funext fun b=>propext ⟨fun h=>h.elim id (fun ⟨_,_,_,h,_⟩=>by cases h),.inl⟩
 rw [hown'] at V
 exact hr _ _ _ _ _ V
theorem Pf.fn {f:FuncId} (h:Pf P f args r) {k:Nat} {K:V->A8->Nat->Prop} (hk:K r H k):Fn P f args H k K:=by
 refine ⟨h.enters,fun F ι w cargs h1 h2 h3=>?_⟩
 have hOb:∀ b,Own F ι H b->b<w.heap.size:=by
  rintro b (hF|⟨n,B,l,hm,hl,hg,rfl⟩)
  .exact h2.frame b hF
  obtain ⟨l',hl',_,h'⟩:=h2.own n B hm
  rw [hl] at hl';cases hl'
  exact (h' hg).1
 refine (h.calls ι (Own F ι H) w cargs hOb h1).mono ?_
 rintro e w' ⟨cv,he,hv,ho,ht,hu,hs,hb⟩
 have K':Kept ι H w ι H w':=⟨fun _ _ h=>h,ho,ht,hu,hs,fun b hb' _=>hb b hb',fun _ _ h=>h⟩
 refine ⟨ι,r,cv,H,k,he,hk,⟨K',Nat.le_refl _,fun _ _=>rfl,fun _ h=>.inl h⟩,?_,fun n _=>h3 n,hv⟩
 refine ⟨fun b hF=>Nat.lt_of_lt_of_le (h2.frame b hF) hs,h2.names,fun n B hm=>?_,h2.apart⟩
 obtain ⟨l,hl,hB,hg⟩:=h2.own n B hm
 exact ⟨l,hl,BRel.stays K'.stays (fun hgh=>hb _ (hg hgh).1) hB,fun hgh=>⟨Nat.lt_of_lt_of_le (hg hgh).1 hs,(hg hgh).2⟩⟩
end
end Go.Sl
namespace Go.Proofs.Tryz
open Go.Sl
@[go_sem] def ty1:TI:=⟨.func,1,8,[.nilFunc]⟩
@[go_sem] def ty2:TI:=⟨.int .i64,1,8,[.int .i64 0]⟩
@[go_sem] def ty3:TI:=⟨.int .i64,1,8,[.int .i64 0]⟩
@[go_sem] def ty4:TI:=⟨.bool,1,1,[.bool false]⟩
@[go_sem] def ty5:TI:=⟨.int .u8,1,1,[.int .u8 0]⟩
@[go_sem] def ty9:TI:=⟨.string,1,16,[.string ⟨#[]⟩]⟩
@[go_sem] def zk5:TI:=⟨.int .u64,1,8,[.int .u64 0]⟩
@[go_sem] def zk6:TI:=⟨.slice 56,1,24,[.slice none 0 0]⟩
@[go_sem] def zk7:TI:=⟨.slice 53,1,24,[.slice none 0 0]⟩
@[go_sem] def zk8:TI:=⟨.slice 163,1,24,[.slice none 0 0]⟩
@[go_sem] def zk9:TI:=⟨.struct [(22,0,1),(23,1,1),(24,2,1)],3,72,[.slice none 0 0,.slice none 0 0,.slice none 0 0]⟩
@[go_sem] def zka:TI:=⟨.struct [(22,0,1),(23,1,1),(24,2,1)],3,72,[.slice none 0 0,.slice none 0 0,.slice none 0 0]⟩
@[go_sem] def zkb:TI:=⟨.slice 73,1,24,[.slice none 0 0]⟩
@[go_sem] def zkc:TI:=⟨.slice 73,1,24,[.slice none 0 0]⟩
@[go_sem] def zkd:TI:=⟨.pointer 26,1,8,[.pointer none]⟩
@[go_sem] def zke:TI:=⟨.slice 54,1,24,[.slice none 0 0]⟩
@[go_sem] def zkf:TI:=⟨.slice 61,1,24,[.slice none 0 0]⟩
@[go_sem] def zkg:TI:=⟨.int .u64,1,8,[.int .u64 0]⟩
@[go_sem] def zkh:TI:=⟨.struct [(9,0,1),(54,1,1)],2,24,[.string ⟨#[]⟩,.int .u64 0]⟩
@[go_sem] def zki:TI:=⟨.struct [(9,0,1),(54,1,1)],2,24,[.string ⟨#[]⟩,.int .u64 0]⟩
@[go_sem] def zkj:TI:=⟨.struct [(4,0,1),(54,1,1)],2,16,[.bool false,.int .u64 0]⟩
@[go_sem] def zkk:TI:=⟨.struct [(4,0,1),(54,1,1)],2,16,[.bool false,.int .u64 0]⟩
@[go_sem] def zkl:TI:=⟨.struct [(3,0,1),(3,1,1),(3,2,1),(59,3,2),(59,5,2),(4,7,1),(4,8,1),(3,9,1),(3,10,1),(3,11,1),(3,12,1)],13,96,[.int .i64 0,.int .i64 0,.int .i64 0,.bool false,.int .u64 0,.bool false,.int .u64 0,.bool false,.bool false,.int .i64 0,.int .i64 0,.int .i64 0,.int .i64 0]⟩
@[go_sem] def zkm:TI:=⟨.struct [(3,0,1),(3,1,1),(3,2,1),(59,3,2),(59,5,2),(4,7,1),(4,8,1),(3,9,1),(3,10,1),(3,11,1),(3,12,1)],13,96,[.int .i64 0,.int .i64 0,.int .i64 0,.bool false,.int .u64 0,.bool false,.int .u64 0,.bool false,.bool false,.int .i64 0,.int .i64 0,.int .i64 0,.int .i64 0]⟩
@[go_sem] def zkn:TI:=⟨.map 73 4,1,8,[.map none]⟩
@[go_sem] def zko:TI:=⟨.func,1,8,[.nilFunc]⟩
@[go_sem] def zkp:TI:=⟨.pointer 84,1,8,[.pointer none]⟩
@[go_sem] def zkq:TI:=⟨.int .u16,1,2,[.int .u16 0]⟩
@[go_sem] def zkr:TI:=⟨.array 16 68,16,32,[.int .u16 0,.int .u16 0,.int .u16 0,.int .u16 0,.int .u16 0,.int .u16 0,.int .u16 0,.int .u16 0,.int .u16 0,.int .u16 0,.int .u16 0,.int .u16 0,.int .u16 0,.int .u16 0,.int .u16 0,.int .u16 0]⟩
@[go_sem] def zks:TI:=⟨.array 16 68,16,32,[.int .u16 0,.int .u16 0,.int .u16 0,.int .u16 0,.int .u16 0,.int .u16 0,.int .u16 0,.int .u16 0,.int .u16 0,.int .u16 0,.int .u16 0,.int .u16 0,.int .u16 0,.int .u16 0,.int .u16 0,.int .u16 0]⟩
@[go_sem] def zkt:TI:=⟨.array 40 54,40,320,[.int .u64 0,.int .u64 0,.int .u64 0,.int .u64 0,.int .u64 0,.int .u64 0,.int .u64 0,.int .u64 0,.int .u64 0,.int .u64 0,.int .u64 0,.int .u64 0,.int .u64 0,.int .u64 0,.int .u64 0,.int .u64 0,.int .u64 0,.int .u64 0,.int .u64 0,.int .u64 0,.int .u64 0,.int .u64 0,.int .u64 0,.int .u64 0,.int .u64 0,.int .u64 0,.int .u64 0,.int .u64 0,.int .u64 0,.int .u64 0,.int .u64 0,.int .u64 0,.int .u64 0,.int .u64 0,.int .u64 0,.int .u64 0,.int .u64 0,.int .u64 0,.int .u64 0,.int .u64 0]⟩
@[go_sem] def zku:TI:=⟨.struct [(3,0,1),(71,1,40)],41,328,[.int .i64 0,.int .u64 0,.int .u64 0,.int .u64 0,.int .u64 0,.int .u64 0,.int .u64 0,.int .u64 0,.int .u64 0,.int .u64 0,.int .u64 0,.int .u64 0,.int .u64 0,.int .u64 0,.int .u64 0,.int .u64 0,.int .u64 0,.int .u64 0,.int .u64 0,.int .u64 0,.int .u64 0,.int .u64 0,.int .u64 0,.int .u64 0,.int .u64 0,.int .u64 0,.int .u64 0,.int .u64 0,.int .u64 0,.int .u64 0,.int .u64 0,.int .u64 0,.int .u64 0,.int .u64 0,.int .u64 0,.int .u64 0,.int .u64 0,.int .u64 0,.int .u64 0,.int .u64 0,.int .u64 0]⟩
@[go_sem] def zkv:TI:=⟨.struct [(3,0,1),(71,1,40)],41,328,[.int .i64 0,.int .u64 0,.int .u64 0,.int .u64 0,.int .u64 0,.int .u64 0,.int .u64 0,.int .u64 0,.int .u64 0,.int .u64 0,.int .u64 0,.int .u64 0,.int .u64 0,.int .u64 0,.int .u64 0,.int .u64 0,.int .u64 0,.int .u64 0,.int .u64 0,.int .u64 0,.int .u64 0,.int .u64 0,.int .u64 0,.int .u64 0,.int .u64 0,.int .u64 0,.int .u64 0,.int .u64 0,.int .u64 0,.int .u64 0,.int .u64 0,.int .u64 0,.int .u64 0,.int .u64 0,.int .u64 0,.int .u64 0,.int .u64 0,.int .u64 0,.int .u64 0,.int .u64 0,.int .u64 0]⟩
@[go_sem] def zkw:TI:=⟨.struct [(67,0,1),(70,1,16),(70,17,16),(73,33,41)],74,400,[.pointer none,.int .u16 0,.int .u16 0,.int .u16 0,.int .u16 0,.int .u16 0,.int .u16 0,.int .u16 0,.int .u16 0,.int .u16 0,.int .u16 0,.int .u16 0,.int .u16 0,.int .u16 0,.int .u16 0,.int .u16 0,.int .u16 0,.int .u16 0,.int .u16 0,.int .u16 0,.int .u16 0,.int .u16 0,.int .u16 0,.int .u16 0,.int .u16 0,.int .u16 0,.int .u16 0,.int .u16 0,.int .u16 0,.int .u16 0,.int .u16 0,.int .u16 0,.int .u16 0,.int .i64 0,.int .u64 0,.int .u64 0,.int .u64 0,.int .u64 0,.int .u64 0,.int .u64 0,.int .u64 0,.int .u64 0,.int .u64 0,.int .u64 0,.int .u64 0,.int .u64 0,.int .u64 0,.int .u64 0,.int .u64 0,.int .u64 0,.int .u64 0,.int .u64 0,.int .u64 0,.int .u64 0,.int .u64 0,.int .u64 0,.int .u64 0,.int .u64 0,.int .u64 0,.int .u64 0,.int .u64 0,.int .u64 0,.int .u64 0,.int .u64 0,.int .u64 0,.int .u64 0,.int .u64 0,.int .u64 0,.int .u64 0,.int .u64 0,.int .u64 0,.int .u64 0,.int .u64 0,.int .u64 0]⟩
@[go_sem] def zkx:TI:=⟨.struct [(67,0,1),(70,1,16),(70,17,16),(73,33,41)],74,400,[.pointer none,.int .u16 0,.int .u16 0,.int .u16 0,.int .u16 0,.int .u16 0,.int .u16 0,.int .u16 0,.int .u16 0,.int .u16 0,.int .u16 0,.int .u16 0,.int .u16 0,.int .u16 0,.int .u16 0,.int .u16 0,.int .u16 0,.int .u16 0,.int .u16 0,.int .u16 0,.int .u16 0,.int .u16 0,.int .u16 0,.int .u16 0,.int .u16 0,.int .u16 0,.int .u16 0,.int .u16 0,.int .u16 0,.int .u16 0,.int .u16 0,.int .u16 0,.int .u16 0,.int .i64 0,.int .u64 0,.int .u64 0,.int .u64 0,.int .u64 0,.int .u64 0,.int .u64 0,.int .u64 0,.int .u64 0,.int .u64 0,.int .u64 0,.int .u64 0,.int .u64 0,.int .u64 0,.int .u64 0,.int .u64 0,.int .u64 0,.int .u64 0,.int .u64 0,.int .u64 0,.int .u64 0,.int .u64 0,.int .u64 0,.int .u64 0,.int .u64 0,.int .u64 0,.int .u64 0,.int .u64 0,.int .u64 0,.int .u64 0,.int .u64 0,.int .u64 0,.int .u64 0,.int .u64 0,.int .u64 0,.int .u64 0,.int .u64 0,.int .u64 0,.int .u64 0,.int .u64 0,.int .u64 0]⟩
@[go_sem] def zky:TI:=⟨.slice 116,1,24,[.slice none 0 0]⟩
@[go_sem] def zkz:TI:=⟨.pointer 187,1,8,[.pointer none]⟩
@[go_sem] def zl0:TI:=⟨.slice 3,1,24,[.slice none 0 0]⟩
@[go_sem] def zl1:TI:=⟨.struct [(34,0,1),(80,1,1),(81,2,1),(82,3,1)],4,64,[.pointer none,.slice none 0 0,.pointer none,.slice none 0 0]⟩
@[go_sem] def zl2:TI:=⟨.struct [(34,0,1),(80,1,1),(81,2,1),(82,3,1)],4,64,[.pointer none,.slice none 0 0,.pointer none,.slice none 0 0]⟩
@[go_sem] def zl3:TI:=⟨.func,1,8,[.nilFunc]⟩
@[go_sem] def zl4:TI:=⟨.struct [(4,0,1),(4,1,1)],2,2,[.bool false,.bool false]⟩
@[go_sem] def zl5:TI:=⟨.struct [(4,0,1),(4,1,1)],2,2,[.bool false,.bool false]⟩
@[go_sem] def zl6:TI:=⟨.slice 196,1,24,[.slice none 0 0]⟩
@[go_sem] def zUn:TI:=⟨.slice 202,1,24,[.slice none 0 0]⟩
@[go_sem] def zUo:TI:=⟨.slice 4,1,24,[.slice none 0 0]⟩
@[go_sem] def zUp:TI:=⟨.struct [(3,0,1),(3,1,1)],2,16,[.int .i64 0,.int .i64 0]⟩
@[go_sem] def zUq:TI:=⟨.struct [(3,0,1),(3,1,1)],2,16,[.int .i64 0,.int .i64 0]⟩
@[go_sem] def zUr:TI:=⟨.func,1,8,[.nilFunc]⟩
@[go_sem] def zUs:TI:=⟨.func,1,8,[.nilFunc]⟩
@[go_sem] def zUt:TI:=⟨.int .i64,1,8,[.int .i64 0]⟩
@[go_sem] def zUu:TI:=⟨.pointer 129,1,8,[.pointer none]⟩
@[go_sem] def zUv:TI:=⟨.map 139 4,1,8,[.map none]⟩
@[go_sem] def zUw:TI:=⟨.struct [(34,0,1),(127,1,1),(63,2,1)],3,24,[.pointer none,.map none,.map none]⟩
@[go_sem] def zUx:TI:=⟨.struct [(34,0,1),(127,1,1),(63,2,1)],3,24,[.pointer none,.map none,.map none]⟩
@[go_sem] def zUy:TI:=⟨.int .i8,1,1,[.int .i8 0]⟩
@[go_sem] def zUz:TI:=⟨.array 8 54,8,64,[.int .u64 0,.int .u64 0,.int .u64 0,.int .u64 0,.int .u64 0,.int .u64 0,.int .u64 0,.int .u64 0]⟩
@[go_sem] def zV0:TI:=⟨.struct [(130,0,1),(54,1,1)],2,16,[.int .i8 0,.int .u64 0]⟩
@[go_sem] def zV1:TI:=⟨.struct [(130,0,1),(54,1,1)],2,16,[.int .i8 0,.int .u64 0]⟩
@[go_sem] def zV2:TI:=⟨.array 8 133,16,128,[.int .i8 0,.int .u64 0,.int .i8 0,.int .u64 0,.int .i8 0,.int .u64 0,.int .i8 0,.int .u64 0,.int .i8 0,.int .u64 0,.int .i8 0,.int .u64 0,.int .i8 0,.int .u64 0,.int .i8 0,.int .u64 0]⟩
@[go_sem] def zV3:TI:=⟨.struct [(130,0,1),(130,1,1),(131,2,8),(134,10,16)],26,200,[.int .i8 0,.int .i8 0,.int .u64 0,.int .u64 0,.int .u64 0,.int .u64 0,.int .u64 0,.int .u64 0,.int .u64 0,.int .u64 0,.int .i8 0,.int .u64 0,.int .i8 0,.int .u64 0,.int .i8 0,.int .u64 0,.int .i8 0,.int .u64 0,.int .i8 0,.int .u64 0,.int .i8 0,.int .u64 0,.int .i8 0,.int .u64 0,.int .i8 0,.int .u64 0]⟩
@[go_sem] def zV4:TI:=⟨.struct [(130,0,1),(130,1,1),(131,2,8),(134,10,16)],26,200,[.int .i8 0,.int .i8 0,.int .u64 0,.int .u64 0,.int .u64 0,.int .u64 0,.int .u64 0,.int .u64 0,.int .u64 0,.int .u64 0,.int .i8 0,.int .u64 0,.int .i8 0,.int .u64 0,.int .i8 0,.int .u64 0,.int .i8 0,.int .u64 0,.int .i8 0,.int .u64 0,.int .i8 0,.int .u64 0,.int .i8 0,.int .u64 0,.int .i8 0,.int .u64 0]⟩
@[go_sem] def zV5:TI:=⟨.array 4 136,104,800,[.int .i8 0,.int .i8 0,.int .u64 0,.int .u64 0,.int .u64 0,.int .u64 0,.int .u64 0,.int .u64 0,.int .u64 0,.int .u64 0,.int .i8 0,.int .u64 0,.int .i8 0,.int .u64 0,.int .i8 0,.int .u64 0,.int .i8 0,.int .u64 0,.int .i8 0,.int .u64 0,.int .i8 0,.int .u64 0,.int .i8 0,.int .u64 0,.int .i8 0,.int .u64 0,.int .i8 0,.int .i8 0,.int .u64 0,.int .u64 0,.int .u64 0,.int .u64 0,.int .u64 0,.int .u64 0,.int .u64 0,.int .u64 0,.int .i8 0,.int .u64 0,.int .i8 0,.int .u64 0,.int .i8 0,.int .u64 0,.int .i8 0,.int .u64 0,.int .i8 0,.int .u64 0,.int .i8 0,.int .u64 0,.int .i8 0,.int .u64 0,.int .i8 0,.int .u64 0,.int .i8 0,.int .i8 0,.int .u64 0,.int .u64 0,.int .u64 0,.int .u64 0,.int .u64 0,.int .u64 0,.int .u64 0,.int .u64 0,.int .i8 0,.int .u64 0,.int .i8 0,.int .u64 0,.int .i8 0,.int .u64 0,.int .i8 0,.int .u64 0,.int .i8 0,.int .u64 0,.int .i8 0,.int .u64 0,.int .i8 0,.int .u64 0,.int .i8 0,.int .u64 0,.int .i8 0,.int .i8 0,.int .u64 0,.int .u64 0,.int .u64 0,.int .u64 0,.int .u64 0,.int .u64 0,.int .u64 0,.int .u64 0,.int .i8 0,.int .u64 0,.int .i8 0,.int .u64 0,.int .i8 0,.int .u64 0,.int .i8 0,.int .u64 0,.int .i8 0,.int .u64 0,.int .i8 0,.int .u64 0,.int .i8 0,.int .u64 0,.int .i8 0,.int .u64 0]⟩
@[go_sem] def zV6:TI:=⟨.struct [(137,0,104),(131,104,8)],112,864,[.int .i8 0,.int .i8 0,.int .u64 0,.int .u64 0,.int .u64 0,.int .u64 0,.int .u64 0,.int .u64 0,.int .u64 0,.int .u64 0,.int .i8 0,.int .u64 0,.int .i8 0,.int .u64 0,.int .i8 0,.int .u64 0,.int .i8 0,.int .u64 0,.int .i8 0,.int .u64 0,.int .i8 0,.int .u64 0,.int .i8 0,.int .u64 0,.int .i8 0,.int .u64 0,.int .i8 0,.int .i8 0,.int .u64 0,.int .u64 0,.int .u64 0,.int .u64 0,.int .u64 0,.int .u64 0,.int .u64 0,.int .u64 0,.int .i8 0,.int .u64 0,.int .i8 0,.int .u64 0,.int .i8 0,.int .u64 0,.int .i8 0,.int .u64 0,.int .i8 0,.int .u64 0,.int .i8 0,.int .u64 0,.int .i8 0,.int .u64 0,.int .i8 0,.int .u64 0,.int .i8 0,.int .i8 0,.int .u64 0,.int .u64 0,.int .u64 0,.int .u64 0,.int .u64 0,.int .u64 0,.int .u64 0,.int .u64 0,.int .i8 0,.int .u64 0,.int .i8 0,.int .u64 0,.int .i8 0,.int .u64 0,.int .i8 0,.int .u64 0,.int .i8 0,.int .u64 0,.int .i8 0,.int .u64 0,.int .i8 0,.int .u64 0,.int .i8 0,.int .u64 0,.int .i8 0,.int .i8 0,.int .u64 0,.int .u64 0,.int .u64 0,.int .u64 0,.int .u64 0,.int .u64 0,.int .u64 0,.int .u64 0,.int .i8 0,.int .u64 0,.int .i8 0,.int .u64 0,.int .i8 0,.int .u64 0,.int .i8 0,.int .u64 0,.int .i8 0,.int .u64 0,.int .i8 0,.int .u64 0,.int .i8 0,.int .u64 0,.int .i8 0,.int .u64 0,.int .u64 0,.int .u64 0,.int .u64 0,.int .u64 0,.int .u64 0,.int .u64 0,.int .u64 0,.int .u64 0]⟩
@[go_sem] def zV7:TI:=⟨.struct [(137,0,104),(131,104,8)],112,864,[.int .i8 0,.int .i8 0,.int .u64 0,.int .u64 0,.int .u64 0,.int .u64 0,.int .u64 0,.int .u64 0,.int .u64 0,.int .u64 0,.int .i8 0,.int .u64 0,.int .i8 0,.int .u64 0,.int .i8 0,.int .u64 0,.int .i8 0,.int .u64 0,.int .i8 0,.int .u64 0,.int .i8 0,.int .u64 0,.int .i8 0,.int .u64 0,.int .i8 0,.int .u64 0,.int .i8 0,.int .i8 0,.int .u64 0,.int .u64 0,.int .u64 0,.int .u64 0,.int .u64 0,.int .u64 0,.int .u64 0,.int .u64 0,.int .i8 0,.int .u64 0,.int .i8 0,.int .u64 0,.int .i8 0,.int .u64 0,.int .i8 0,.int .u64 0,.int .i8 0,.int .u64 0,.int .i8 0,.int .u64 0,.int .i8 0,.int .u64 0,.int .i8 0,.int .u64 0,.int .i8 0,.int .i8 0,.int .u64 0,.int .u64 0,.int .u64 0,.int .u64 0,.int .u64 0,.int .u64 0,.int .u64 0,.int .u64 0,.int .i8 0,.int .u64 0,.int .i8 0,.int .u64 0,.int .i8 0,.int .u64 0,.int .i8 0,.int .u64 0,.int .i8 0,.int .u64 0,.int .i8 0,.int .u64 0,.int .i8 0,.int .u64 0,.int .i8 0,.int .u64 0,.int .i8 0,.int .i8 0,.int .u64 0,.int .u64 0,.int .u64 0,.int .u64 0,.int .u64 0,.int .u64 0,.int .u64 0,.int .u64 0,.int .i8 0,.int .u64 0,.int .i8 0,.int .u64 0,.int .i8 0,.int .u64 0,.int .i8 0,.int .u64 0,.int .i8 0,.int .u64 0,.int .i8 0,.int .u64 0,.int .i8 0,.int .u64 0,.int .i8 0,.int .u64 0,.int .u64 0,.int .u64 0,.int .u64 0,.int .u64 0,.int .u64 0,.int .u64 0,.int .u64 0,.int .u64 0]⟩
@[go_sem] def zV8:TI:=⟨.pointer 136,1,8,[.pointer none]⟩
@[go_sem] def zV9:TI:=⟨.struct [(3,0,1),(3,1,1),(54,2,1)],3,24,[.int .i64 0,.int .i64 0,.int .u64 0]⟩
@[go_sem] def zVa:TI:=⟨.struct [(3,0,1),(3,1,1),(54,2,1)],3,24,[.int .i64 0,.int .i64 0,.int .u64 0]⟩
@[go_sem] def zVb:TI:=⟨.func,1,8,[.nilFunc]⟩
@[go_sem] def zVc:TI:=⟨.pointer 180,1,8,[.pointer none]⟩
@[go_sem] def zVd:TI:=⟨.struct [(34,0,1),(80,1,1),(176,2,1),(104,3,1),(82,4,1),(86,5,1)],6,96,[.pointer none,.slice none 0 0,.nilFunc,.slice none 0 0,.slice none 0 0,.nilFunc]⟩
@[go_sem] def zVe:TI:=⟨.struct [(34,0,1),(80,1,1),(176,2,1),(104,3,1),(82,4,1),(86,5,1)],6,96,[.pointer none,.slice none 0 0,.nilFunc,.slice none 0 0,.slice none 0 0,.nilFunc]⟩
@[go_sem] def zVf:TI:=⟨.func,1,8,[.nilFunc]⟩
@[go_sem] def zVg:TI:=⟨.slice 237,1,24,[.slice none 0 0]⟩
@[go_sem] def zVh:TI:=⟨.struct [(82,0,1),(103,1,1),(82,2,1),(47,3,1),(47,4,1),(47,5,1),(47,6,1),(185,7,1),(4,8,1)],9,200,[.slice none 0 0,.slice none 0 0,.slice none 0 0,.slice none 0 0,.slice none 0 0,.slice none 0 0,.slice none 0 0,.slice none 0 0,.bool false]⟩
@[go_sem] def zVi:TI:=⟨.struct [(82,0,1),(103,1,1),(82,2,1),(47,3,1),(47,4,1),(47,5,1),(47,6,1),(185,7,1),(4,8,1)],9,200,[.slice none 0 0,.slice none 0 0,.slice none 0 0,.slice none 0 0,.slice none 0 0,.slice none 0 0,.slice none 0 0,.slice none 0 0,.bool false]⟩
@[go_sem] def zVj:TI:=⟨.slice 70,1,24,[.slice none 0 0]⟩
@[go_sem] def zVk:TI:=⟨.func,1,8,[.nilFunc]⟩
@[go_sem] def zVl:TI:=⟨.struct [(3,0,1),(3,1,1)],2,16,[.int .i64 0,.int .i64 0]⟩
@[go_sem] def zVm:TI:=⟨.struct [(4,0,1),(54,1,1)],2,16,[.bool false,.int .u64 0]⟩
@[go_sem] def zVn:TI:=⟨.struct [(4,0,1),(54,1,1)],2,16,[.bool false,.int .u64 0]⟩
@[go_sem] def zVo:TI:=⟨.pointer 139,1,8,[.pointer none]⟩
@[go_sem] def zVp:TI:=⟨.slice 131,1,24,[.slice none 0 0]⟩
@[go_sem] def zVq:TI:=⟨.int .u64,1,8,[.int .u64 0]⟩
@[go_sem] def zVr:TI:=⟨.array 8 4,8,8,[.bool false,.bool false,.bool false,.bool false,.bool false,.bool false,.bool false,.bool false]⟩
@[go_sem] def zVs:TI:=⟨.pointer 239,1,8,[.pointer none]⟩
@[go_sem] def zVt:TI:=⟨.array 8 202,16,128,[.bool false,.int .u64 0,.bool false,.int .u64 0,.bool false,.int .u64 0,.bool false,.int .u64 0,.bool false,.int .u64 0,.bool false,.int .u64 0,.bool false,.int .u64 0,.bool false,.int .u64 0]⟩
@[go_sem] def zVu:TI:=⟨.struct [(81,0,1),(237,1,16),(131,17,8),(54,25,1),(54,26,1),(3,27,1),(3,28,1)],29,232,[.pointer none,.bool false,.int .u64 0,.bool false,.int .u64 0,.bool false,.int .u64 0,.bool false,.int .u64 0,.bool false,.int .u64 0,.bool false,.int .u64 0,.bool false,.int .u64 0,.bool false,.int .u64 0,.int .u64 0,.int .u64 0,.int .u64 0,.int .u64 0,.int .u64 0,.int .u64 0,.int .u64 0,.int .u64 0,.int .u64 0,.int .u64 0,.int .i64 0,.int .i64 0]⟩
@[go_sem] def zVv:TI:=⟨.struct [(81,0,1),(237,1,16),(131,17,8),(54,25,1),(54,26,1),(3,27,1),(3,28,1)],29,232,[.pointer none,.bool false,.int .u64 0,.bool false,.int .u64 0,.bool false,.int .u64 0,.bool false,.int .u64 0,.bool false,.int .u64 0,.bool false,.int .u64 0,.bool false,.int .u64 0,.bool false,.int .u64 0,.int .u64 0,.int .u64 0,.int .u64 0,.int .u64 0,.int .u64 0,.int .u64 0,.int .u64 0,.int .u64 0,.int .u64 0,.int .u64 0,.int .i64 0,.int .i64 0]⟩
@[go_sem] def zVw:TI:=⟨.slice 133,1,24,[.slice none 0 0]⟩
@[go_sem] def zVx:TI:=⟨.int .i64,1,8,[.int .i64 0]⟩
@[go_sem] def zVy:TI:=⟨.int .u32,1,4,[.int .u32 0]⟩
@[go_sem] def zVz:TI:=⟨.array 8 3,8,64,[.int .i64 0,.int .i64 0,.int .i64 0,.int .i64 0,.int .i64 0,.int .i64 0,.int .i64 0,.int .i64 0]⟩
@[go_sem] def zW0:TI:=⟨.struct [(67,0,1),(70,1,16),(70,17,16),(280,33,8)],41,136,[.pointer none,.int .u16 0,.int .u16 0,.int .u16 0,.int .u16 0,.int .u16 0,.int .u16 0,.int .u16 0,.int .u16 0,.int .u16 0,.int .u16 0,.int .u16 0,.int .u16 0,.int .u16 0,.int .u16 0,.int .u16 0,.int .u16 0,.int .u16 0,.int .u16 0,.int .u16 0,.int .u16 0,.int .u16 0,.int .u16 0,.int .u16 0,.int .u16 0,.int .u16 0,.int .u16 0,.int .u16 0,.int .u16 0,.int .u16 0,.int .u16 0,.int .u16 0,.int .u16 0,.int .i64 0,.int .i64 0,.int .i64 0,.int .i64 0,.int .i64 0,.int .i64 0,.int .i64 0,.int .i64 0]⟩
@[go_sem] def zW1:TI:=⟨.struct [(67,0,1),(70,1,16),(70,17,16),(280,33,8)],41,136,[.pointer none,.int .u16 0,.int .u16 0,.int .u16 0,.int .u16 0,.int .u16 0,.int .u16 0,.int .u16 0,.int .u16 0,.int .u16 0,.int .u16 0,.int .u16 0,.int .u16 0,.int .u16 0,.int .u16 0,.int .u16 0,.int .u16 0,.int .u16 0,.int .u16 0,.int .u16 0,.int .u16 0,.int .u16 0,.int .u16 0,.int .u16 0,.int .u16 0,.int .u16 0,.int .u16 0,.int .u16 0,.int .u16 0,.int .u16 0,.int .u16 0,.int .u16 0,.int .u16 0,.int .i64 0,.int .i64 0,.int .i64 0,.int .i64 0,.int .i64 0,.int .i64 0,.int .i64 0,.int .i64 0]⟩
@[go_sem] def zW2:TI:=⟨.int .u64,1,8,[.int .u64 0]⟩
@[go_sem] def zW3:TI:=⟨.pointer 3,1,8,[.pointer none]⟩
@[go_sem] def zW4:TI:=⟨.pointer 284,1,8,[.pointer none]⟩
def Tl:List (Nat × TI):=[(1,ty1),(2,ty2),(3,ty3),(4,ty4),(5,ty5),(9,ty9),(12,zk5),(22,zk6),(23,zk7),(24,zk8),(25,zk9),(26,zka),(30,zkb),(31,zkc),(34,zkd),(47,zke),(53,zkf),(54,zkg),(55,zkh),(56,zki),(58,zkj),(59,zkk),(60,zkl),(61,zkm),(63,zkn),(65,zko),(67,zkp),(68,zkq),(69,zkr),(70,zks),(71,zkt),(72,zku),(73,zkv),(74,zkw),(75,zkx),(80,zky),(81,zkz),(82,zl0),(83,zl1),(84,zl2),(86,zl3),(88,zl4),(89,zl5),(92,zl6),(103,zUn),(104,zUo),(115,zUp),(116,zUq),(120,zUr),(121,zUs),(124,zUt),(126,zUu),(127,zUv),(128,zUw),(129,zUx),(130,zUy),(131,zUz),(132,zV0),(133,zV1),(134,zV2),(135,zV3),(136,zV4),(137,zV5),(138,zV6),(139,zV7),(141,zV8),(162,zV9),(163,zVa),(176,zVb),(178,zVc),(179,zVd),(180,zVe),(183,zVf),(185,zVg),(186,zVh),(187,zVi),(188,zVj),(194,zVk),(196,zVl),(201,zVm),(202,zVn),(218,zVo),(226,zVp),(232,zVq),(235,zVr),(236,zVs),(237,zVt),(238,zVu),(239,zVv),(248,zVw),(261,zVx),(268,zVy),(280,zVz),(281,zW0),(282,zW1),(284,zW2),(288,zW3),(303,zW4)]
def T:Tab:=fun t=>Tl.lookup t
@[go_sem] theorem T_1:T 1=some ty1:=by rfl
@[go_sem] theorem T_2:T 2=some ty2:=by rfl
@[go_sem] theorem T_3:T 3=some ty3:=by rfl
@[go_sem] theorem T_4:T 4=some ty4:=by rfl
@[go_sem] theorem T_5:T 5=some ty5:=by rfl
@[go_sem] theorem T_9:T 9=some ty9:=by rfl
@[go_sem] theorem zrf:T 12=some zk5:=by rfl
@[go_sem] theorem zrg:T 22=some zk6:=by rfl
@[go_sem] theorem zrh:T 23=some zk7:=by rfl
@[go_sem] theorem zri:T 24=some zk8:=by rfl
@[go_sem] theorem zrj:T 25=some zk9:=by rfl
@[go_sem] theorem zrk:T 26=some zka:=by rfl
@[go_sem] theorem zrl:T 30=some zkb:=by rfl
@[go_sem] theorem zrm:T 31=some zkc:=by rfl
@[go_sem] theorem zrn:T 34=some zkd:=by rfl
@[go_sem] theorem zro:T 47=some zke:=by rfl
@[go_sem] theorem zrp:T 53=some zkf:=by rfl
@[go_sem] theorem zrq:T 54=some zkg:=by rfl
@[go_sem] theorem zrr:T 55=some zkh:=by rfl
@[go_sem] theorem zrs:T 56=some zki:=by rfl
@[go_sem] theorem zrt:T 58=some zkj:=by rfl
@[go_sem] theorem zru:T 59=some zkk:=by rfl
@[go_sem] theorem zrv:T 60=some zkl:=by rfl
@[go_sem] theorem zrw:T 61=some zkm:=by rfl
@[go_sem] theorem zrx:T 63=some zkn:=by rfl
@[go_sem] theorem zry:T 65=some zko:=by rfl
@[go_sem] theorem zrz:T 67=some zkp:=by rfl
@[go_sem] theorem zs0:T 68=some zkq:=by rfl
@[go_sem] theorem zs1:T 69=some zkr:=by rfl
@[go_sem] theorem zs2:T 70=some zks:=by rfl
@[go_sem] theorem zs3:T 71=some zkt:=by rfl
@[go_sem] theorem zs4:T 72=some zku:=by rfl
@[go_sem] theorem zs5:T 73=some zkv:=by rfl
@[go_sem] theorem zs6:T 74=some zkw:=by rfl
@[go_sem] theorem zs7:T 75=some zkx:=by rfl
@[go_sem] theorem zs8:T 80=some zky:=by rfl
@[go_sem] theorem zs9:T 81=some zkz:=by rfl
@[go_sem] theorem zsa:T 82=some zl0:=by rfl
@[go_sem] theorem zsb:T 83=some zl1:=by rfl
@[go_sem] theorem zsc:T 84=some zl2:=by rfl
@[go_sem] theorem zsd:T 86=some zl3:=by rfl
@[go_sem] theorem zse:T 88=some zl4:=by rfl
@[go_sem] theorem zsf:T 89=some zl5:=by rfl
@[go_sem] theorem zsg:T 92=some zl6:=by rfl
@[go_sem] theorem zon:T 103=some zUn:=by rfl
@[go_sem] theorem zoo:T 104=some zUo:=by rfl
@[go_sem] theorem zop:T 115=some zUp:=by rfl
@[go_sem] theorem zoq:T 116=some zUq:=by rfl
@[go_sem] theorem zor:T 120=some zUr:=by rfl
@[go_sem] theorem zos:T 121=some zUs:=by rfl
@[go_sem] theorem zot:T 124=some zUt:=by rfl
@[go_sem] theorem zou:T 126=some zUu:=by rfl
@[go_sem] theorem zov:T 127=some zUv:=by rfl
@[go_sem] theorem zow:T 128=some zUw:=by rfl
@[go_sem] theorem zox:T 129=some zUx:=by rfl
@[go_sem] theorem zoy:T 130=some zUy:=by rfl
@[go_sem] theorem zoz:T 131=some zUz:=by rfl
@[go_sem] theorem zp0:T 132=some zV0:=by rfl
@[go_sem] theorem zp1:T 133=some zV1:=by rfl
@[go_sem] theorem zp2:T 134=some zV2:=by rfl
@[go_sem] theorem zp3:T 135=some zV3:=by rfl
@[go_sem] theorem zp4:T 136=some zV4:=by rfl
@[go_sem] theorem zp5:T 137=some zV5:=by rfl
@[go_sem] theorem zp6:T 138=some zV6:=by rfl
@[go_sem] theorem zp7:T 139=some zV7:=by rfl
@[go_sem] theorem zp8:T 141=some zV8:=by rfl
@[go_sem] theorem zp9:T 162=some zV9:=by rfl
@[go_sem] theorem zpa:T 163=some zVa:=by rfl
@[go_sem] theorem zpb:T 176=some zVb:=by rfl
@[go_sem] theorem zpc:T 178=some zVc:=by rfl
@[go_sem] theorem zpd:T 179=some zVd:=by rfl
@[go_sem] theorem zpe:T 180=some zVe:=by rfl
@[go_sem] theorem zpf:T 183=some zVf:=by rfl
@[go_sem] theorem zpg:T 185=some zVg:=by rfl
@[go_sem] theorem zph:T 186=some zVh:=by rfl
@[go_sem] theorem zpi:T 187=some zVi:=by rfl
@[go_sem] theorem zpj:T 188=some zVj:=by rfl
@[go_sem] theorem zpk:T 194=some zVk:=by rfl
@[go_sem] theorem zpl:T 196=some zVl:=by rfl
@[go_sem] theorem zpm:T 201=some zVm:=by rfl
@[go_sem] theorem zpn:T 202=some zVn:=by rfl
@[go_sem] theorem zpo:T 218=some zVo:=by rfl
@[go_sem] theorem zpp:T 226=some zVp:=by rfl
@[go_sem] theorem zpq:T 232=some zVq:=by rfl
@[go_sem] theorem zpr:T 235=some zVr:=by rfl
@[go_sem] theorem zps:T 236=some zVs:=by rfl
@[go_sem] theorem zpt:T 237=some zVt:=by rfl
@[go_sem] theorem zpu:T 238=some zVu:=by rfl
@[go_sem] theorem zpv:T 239=some zVv:=by rfl
@[go_sem] theorem zpw:T 248=some zVw:=by rfl
@[go_sem] theorem zpx:T 261=some zVx:=by rfl
@[go_sem] theorem zpy:T 268=some zVy:=by rfl
@[go_sem] theorem zpz:T 280=some zVz:=by rfl
@[go_sem] theorem zq0:T 281=some zW0:=by rfl
@[go_sem] theorem zq1:T 282=some zW1:=by rfl
@[go_sem] theorem zq2:T 284=some zW2:=by rfl
@[go_sem] theorem zq3:T 288=some zW3:=by rfl
@[go_sem] theorem zq4:T 303=some zW4:=by rfl
theorem zq5:C8 Tryz.prog 1=some ty1:=by kernel_rfl
theorem zq6:C8 Tryz.prog 2=some ty2:=by kernel_rfl
theorem zq7:C8 Tryz.prog 3=some ty3:=by kernel_rfl
theorem zq8:C8 Tryz.prog 4=some ty4:=by kernel_rfl
theorem zq9:C8 Tryz.prog 5=some ty5:=by kernel_rfl
theorem zqa:C8 Tryz.prog 9=some ty9:=by kernel_rfl
theorem zl7:C8 Tryz.prog 12=some zk5:=by kernel_rfl
theorem zl8:C8 Tryz.prog 22=some zk6:=by kernel_rfl
theorem zl9:C8 Tryz.prog 23=some zk7:=by kernel_rfl
theorem zla:C8 Tryz.prog 24=some zk8:=by kernel_rfl
theorem zlb:C8 Tryz.prog 25=some zk9:=by kernel_rfl
theorem zlc:C8 Tryz.prog 26=some zka:=by kernel_rfl
theorem zld:C8 Tryz.prog 30=some zkb:=by kernel_rfl
theorem zle:C8 Tryz.prog 31=some zkc:=by kernel_rfl
theorem zlf:C8 Tryz.prog 34=some zkd:=by kernel_rfl
theorem zlg:C8 Tryz.prog 47=some zke:=by kernel_rfl
theorem zlh:C8 Tryz.prog 53=some zkf:=by kernel_rfl
theorem zli:C8 Tryz.prog 54=some zkg:=by kernel_rfl
theorem zlj:C8 Tryz.prog 55=some zkh:=by kernel_rfl
theorem zlk:C8 Tryz.prog 56=some zki:=by kernel_rfl
theorem zll:C8 Tryz.prog 58=some zkj:=by kernel_rfl
theorem zlm:C8 Tryz.prog 59=some zkk:=by kernel_rfl
theorem zln:C8 Tryz.prog 60=some zkl:=by kernel_rfl
theorem zlo:C8 Tryz.prog 61=some zkm:=by kernel_rfl
theorem zlp:C8 Tryz.prog 63=some zkn:=by kernel_rfl
theorem zlq:C8 Tryz.prog 65=some zko:=by kernel_rfl
theorem zlr:C8 Tryz.prog 67=some zkp:=by kernel_rfl
theorem zls:C8 Tryz.prog 68=some zkq:=by kernel_rfl
theorem zlt:C8 Tryz.prog 69=some zkr:=by kernel_rfl
theorem zlu:C8 Tryz.prog 70=some zks:=by kernel_rfl
theorem zlv:C8 Tryz.prog 71=some zkt:=by kernel_rfl
theorem zlw:C8 Tryz.prog 72=some zku:=by kernel_rfl
theorem zlx:C8 Tryz.prog 73=some zkv:=by kernel_rfl
theorem zly:C8 Tryz.prog 74=some zkw:=by kernel_rfl
theorem zlz:C8 Tryz.prog 75=some zkx:=by kernel_rfl
theorem zm0:C8 Tryz.prog 80=some zky:=by kernel_rfl
theorem zm1:C8 Tryz.prog 81=some zkz:=by kernel_rfl
theorem zm2:C8 Tryz.prog 82=some zl0:=by kernel_rfl
theorem zm3:C8 Tryz.prog 83=some zl1:=by kernel_rfl
theorem zm4:C8 Tryz.prog 84=some zl2:=by kernel_rfl
theorem zm5:C8 Tryz.prog 86=some zl3:=by kernel_rfl
theorem zm6:C8 Tryz.prog 88=some zl4:=by kernel_rfl
theorem zm7:C8 Tryz.prog 89=some zl5:=by kernel_rfl
theorem zm8:C8 Tryz.prog 92=some zl6:=by kernel_rfl
theorem zch:C8 Tryz.prog 103=some zUn:=by kernel_rfl
theorem zci:C8 Tryz.prog 104=some zUo:=by kernel_rfl
theorem zcj:C8 Tryz.prog 115=some zUp:=by kernel_rfl
theorem zck:C8 Tryz.prog 116=some zUq:=by kernel_rfl
theorem zcl:C8 Tryz.prog 120=some zUr:=by kernel_rfl
theorem zcm:C8 Tryz.prog 121=some zUs:=by kernel_rfl
theorem zcn:C8 Tryz.prog 124=some zUt:=by kernel_rfl
theorem zco:C8 Tryz.prog 126=some zUu:=by kernel_rfl
theorem zcp:C8 Tryz.prog 127=some zUv:=by kernel_rfl
theorem zcq:C8 Tryz.prog 128=some zUw:=by kernel_rfl
theorem zcr:C8 Tryz.prog 129=some zUx:=by kernel_rfl
theorem zcs:C8 Tryz.prog 130=some zUy:=by kernel_rfl
theorem zct:C8 Tryz.prog 131=some zUz:=by kernel_rfl
theorem zcu:C8 Tryz.prog 132=some zV0:=by kernel_rfl
theorem zcv:C8 Tryz.prog 133=some zV1:=by kernel_rfl
theorem zcw:C8 Tryz.prog 134=some zV2:=by kernel_rfl
theorem zcx:C8 Tryz.prog 135=some zV3:=by kernel_rfl
theorem zcy:C8 Tryz.prog 136=some zV4:=by kernel_rfl
theorem zcz:C8 Tryz.prog 137=some zV5:=by kernel_rfl
theorem zd0:C8 Tryz.prog 138=some zV6:=by kernel_rfl
theorem zd1:C8 Tryz.prog 139=some zV7:=by kernel_rfl
theorem zd2:C8 Tryz.prog 141=some zV8:=by kernel_rfl
theorem zd3:C8 Tryz.prog 162=some zV9:=by kernel_rfl
theorem zd4:C8 Tryz.prog 163=some zVa:=by kernel_rfl
theorem zd5:C8 Tryz.prog 176=some zVb:=by kernel_rfl
theorem zd6:C8 Tryz.prog 178=some zVc:=by kernel_rfl
theorem zd7:C8 Tryz.prog 179=some zVd:=by kernel_rfl
theorem zd8:C8 Tryz.prog 180=some zVe:=by kernel_rfl
theorem zd9:C8 Tryz.prog 183=some zVf:=by kernel_rfl
theorem zda:C8 Tryz.prog 185=some zVg:=by kernel_rfl
theorem zdb:C8 Tryz.prog 186=some zVh:=by kernel_rfl
theorem zdc:C8 Tryz.prog 187=some zVi:=by kernel_rfl
theorem zdd:C8 Tryz.prog 188=some zVj:=by kernel_rfl
theorem zde:C8 Tryz.prog 194=some zVk:=by kernel_rfl
theorem zdf:C8 Tryz.prog 196=some zVl:=by kernel_rfl
theorem zdg:C8 Tryz.prog 201=some zVm:=by kernel_rfl
theorem zdh:C8 Tryz.prog 202=some zVn:=by kernel_rfl
theorem zdi:C8 Tryz.prog 218=some zVo:=by kernel_rfl
theorem zdj:C8 Tryz.prog 226=some zVp:=by kernel_rfl
theorem zdk:C8 Tryz.prog 232=some zVq:=by kernel_rfl
theorem zdl:C8 Tryz.prog 235=some zVr:=by kernel_rfl
theorem zdm:C8 Tryz.prog 236=some zVs:=by kernel_rfl
theorem zdn:C8 Tryz.prog 237=some zVt:=by kernel_rfl
theorem zdo:C8 Tryz.prog 238=some zVu:=by kernel_rfl
theorem zdp:C8 Tryz.prog 239=some zVv:=by kernel_rfl
theorem zdq:C8 Tryz.prog 248=some zVw:=by kernel_rfl
theorem zdr:C8 Tryz.prog 261=some zVx:=by kernel_rfl
theorem zds:C8 Tryz.prog 268=some zVy:=by kernel_rfl
theorem zdt:C8 Tryz.prog 280=some zVz:=by kernel_rfl
theorem zdu:C8 Tryz.prog 281=some zW0:=by kernel_rfl
theorem zdv:C8 Tryz.prog 282=some zW1:=by kernel_rfl
theorem zdw:C8 Tryz.prog 284=some zW2:=by kernel_rfl
theorem zdx:C8 Tryz.prog 288=some zW3:=by kernel_rfl
theorem zdy:C8 Tryz.prog 303=some zW4:=by kernel_rfl
theorem VB_ {t:Nat} {ti:TI}:∀ {l:List (Nat × TI)},l.lookup t=some ti->(t,ti)∈l
 | [],h=>by simp at h
 | (s,x)::r,h=>by
  rw [lookup_cons] at h
  split at h
  .rename_i e
   cases h
   rw [eq_of_beq e];simp
  exact mem_cons_of_mem _ (VB_ h)
theorem all_cons {Q:Nat × TI->Prop} {x:Nat × TI} {l:List (Nat × TI)} (h:Q x) (hs:∀ p∈l,Q p):∀ p∈x::l,Q p:=fun p hp=>by
 rcases List.mem_cons.1 hp with rfl|hp
 .exact h
 exact hs p hp
theorem all_nil {Q:Nat × TI->Prop}:∀ p∈([]:List (Nat × TI)),Q p:=fun p hp=>by simp at hp
theorem zm9:∀ p∈Tl,C8 Tryz.prog p.1=some p.2 :=
 all_cons zq5 <| all_cons zq6 <| all_cons zq7 <| all_cons zq8 <| all_cons zq9 <| all_cons zqa <| all_cons zl7 <| all_cons zl8 <| all_cons zl9 <| all_cons zla <| all_cons zlb <| all_cons zlc <| all_cons zld <| all_cons zle <| all_cons zlf <| all_cons zlg <| all_cons zlh <| all_cons zli <| all_cons zlj <| all_cons zlk <| all_cons zll <| all_cons zlm <| all_cons zln <| all_cons zlo <| all_cons zlp <| all_cons zlq <| all_cons zlr <| all_cons zls <| all_cons zlt <| all_cons zlu <| all_cons zlv <| all_cons zlw <| all_cons zlx <| all_cons zly <| all_cons zlz <| all_cons zm0 <| all_cons zm1 <| all_cons zm2 <| all_cons zm3 <| all_cons zm4 <| all_cons zm5 <| all_cons zm6 <| all_cons zm7 <| all_cons zm8 <| all_cons zch <| all_cons zci <| all_cons zcj <| all_cons zck <| all_cons zcl <| all_cons zcm <| all_cons zcn <| all_cons zco <| all_cons zcp <| all_cons zcq <| all_cons zcr <| all_cons zcs <| all_cons zct <| all_cons zcu <| all_cons zcv <| all_cons zcw <| all_cons zcx <| all_cons zcy <| all_cons zcz <| all_cons zd0 <| all_cons zd1 <| all_cons zd2 <| all_cons zd3 <| all_cons zd4 <| all_cons zd5 <| all_cons zd6 <| all_cons zd7 <| all_cons zd8 <| all_cons zd9 <| all_cons zda <| all_cons zdb <| all_cons zdc <| all_cons zdd <| all_cons zde <| all_cons zdf <| all_cons zdg <| all_cons zdh <| all_cons zdi <| all_cons zdj <| all_cons zdk <| all_cons zdl <| all_cons zdm <| all_cons zdn <| all_cons zdo <| all_cons zdp <| all_cons zdq <| all_cons zdr <| all_cons zds <| all_cons zdt <| all_cons zdu <| all_cons zdv <| all_cons zdw <| all_cons zdx <| all_cons zdy <| all_nil
theorem T_ok:J9 Tryz.prog T:=fun t ti h=>zm9 (t,ti) (VB_ h)
instance:Go.Sl.Tq Tryz.prog T:=⟨T_ok,by kernel_rfl⟩
end Go.Proofs.Tryz
namespace Go.Sl
section
variable {F:Nat->Prop} {ι ι':E3} {O:Nat->Prop} {H H':A8} {σ σ':St} {a a':Act} {w w':World} {P:Program} {T:Tab} {Q:Exit->St->Prop}
theorem A3 {x y:Code} (h:∀ K:St->Prop,(∀ σ',Tr P y Q σ'->K σ')->Tr P x (zSb K Q) σ):Tr P (.seq x y) Q σ:=W7_ (h _ fun _ h=>h)
theorem V5_ (hT : J9 P T) {id : Nat} {l : List Oper} {y : Code} {N k : Nat} {t : List (Nat × V)} {H : A8} (hN : R8 l N = true)
    (h:∀ K:St->Prop,(∀ σ',Tr P y Q σ'->K σ')->vcL T P l N l K t H k):Tr P (.seq (.region id l.toArray false) y) Q ⟨N,t,H,k⟩ :=
  W7_ (QV_ hT hN (h _ fun _ h=>h))
theorem QW_ {c:Operand} {x y:Code} {b:Bool} (hc:A7 σ.t c=.val (.bool b)) (ht:b=true->Tr P x Q σ) (hf:b=false->Tr P y Q σ):Tr P (.cond c x y) Q σ:=zU7 hc ht hf
theorem B7 (hT : J9 P T) {f : FuncId} {fn : Func} {c : Code} {args : List V} {k : Nat} {K : V → A8 → Nat → Prop} {rs : List ResultVar} {N : Nat} (hf : P.funcs[f]? = some fn) (hb : fn.body = some c) (hname : (fn.name == "runtime.NumGoroutine") = false) (hNn : fn.ntmps = N) (hr : fn.results = rs.toArray)
    (hN:args.length<=N) (h:Tr P c (zo0 T rs K) ⟨N,zA2 0 args,H,k⟩):Fn P f args H k K:=by
  subst hNn
  refine zOd hT hf hb hname hN ?_
  rw [hr];exact h
end
section
variable {H H':A8} {ti ti':TI} {x x' y y':V} {K:V->Prop} {KH:A8->Prop} {KA:V->A8->Nat->Prop} {d d':D} {T:Tab}
@[congr] theorem zW5 (h1:H=H') (h3:x=x'):Wy_ H ti x K=Wy_ H' ti x' K:=by rw [h1,h3]
@[congr] theorem zSh (h1:H=H') (h3:x=x') (h4:y=y'):Xa_ H ti x y KH=Xa_ H' ti x' y' KH:=by rw [h1,h3,h4]
@[congr] theorem zGt (h1:H=H') (h2:d=d') (h3:x=x') (h4:y=y'):Q3 T H d x y K=Q3 T H' d' x' y' K:=by rw [h1,h2,h3,h4]
@[congr] theorem zSi (h2:d=d') (h3:x=x') (h4:y=y'):X0 T d x y K=X0 T d' x' y' K:=by rw [h2,h3,h4]
variable {args cs cs':List V} {k':Nat} {m' n':Int} {ops:List Oper} {t t':List (Nat × V)}
@[congr] theorem zGu {f:Nat} (h2:d=d') (h3:x=x'):Q4 T d x f K=Q4 T d' x' f K:=by rw [h2,h3]
@[congr] theorem zSj {f:Nat} (h2:d=d') (h3:x=x'):Xb_ T d x f K=Xb_ T d' x' f K:=by rw [h2,h3]
@[congr] theorem zW6 {op:BinOp} {k:IntKind} {m n:Int} (h3:m=m') (h4:n=n'):L3 op k m n K=L3 op k m' n' K:=by rw [h3,h4]
@[congr] theorem zbg {op:BinOp} {k:IntKind} {m n:Int} (h3:m=m') (h4:n=n'):zHh op k m n K=zHh op k m' n' K:=by rw [h3,h4]
@[congr] theorem zbh {op:BinOp} {t:TypeId} (h3:x=x') (h4:y=y'):zUm T op t x y K=zUm T op t x' y' K:=by rw [h3,h4]
@[congr] theorem zdz {op:BinOp} {sp sp':Option (List EK)} {ds ds':List V} (h1:sp=sp') (h2:cs=cs') (h3:ds=ds'):eqV sp op cs ds K=eqV sp' op cs' ds' K:=by rw [h1,h2,h3]
@[congr] theorem zbi {op:BinOp} {t:TypeId}:zOc T op t K=zOc T op t K:=rfl
@[congr] theorem zW7 {ty:TypeId} {k:Nat} (h1:x=x') (h2:y=y') (h3:H=H') (h4:k=k'):zA0 T ty x y k H KA=zA0 T ty x' y' k' H' KA:=by rw [h1,h2,h3,h4]
@[congr] theorem zSk {lo hi:Nat->Option Int} (h1:H=H') (h3:x=x'):Xc_ H ti x lo hi K=Xc_ H' ti x' lo hi K:=by rw [h1,h3]
@[congr] theorem zOe {k:Nat} (h1:H=H') (h3:x=x') (h4:y=y'):z8 H k ti x y KA=z8 H' k ti x' y' KA:=by rw [h1,h3,h4]
@[congr] theorem zbj {r r':Option (V × A8 × Nat)} (h:r=r'):zO9 r KA=zO9 r' KA:=by rw [h]
@[go_sem] theorem ze0 {v:V} {H:A8} {k:Nat}:zO9 (some (v,H,k)) KA=KA v H k:=Eq.trans rfl rfl
@[congr] theorem zW8 {pl:Nat->Option (Nat × Nat)} {r r':List (Nat × V)} {KL:List V->Prop} (h1:cs=cs') (h2:r=r'):Ym_ pl cs r KL=Ym_ pl cs' r' KL:=by rw [h1,h2]
@[congr] theorem ze1 {P:Program} {k:Nat} {op:Op} (h1:t=t') (h2:H=H') (h3:k=k'):opV T P t H k op KA=opV T P t' H' k' op KA:=by rw [h1,h2,h3]
@[congr] theorem ze2 {P:Program} {l:List Oper} {N k:Nat} {KS:St->Prop} (h1:t=t') (h2:H=H') (h3:k=k'):vcL T P ops N l KS t H k=vcL T P ops N l KS t' H' k':=by rw [h1,h2,h3]
@[congr] theorem zSl {g:Option (Nat × Bool)} {p q:Prop}:o6 ops t g p q=o6 ops t g p q:=rfl
@[congr] theorem zbk {rs:List ResultVar} {acc:List V}:zSg T t H rs acc K=zSg T t H rs acc K:=rfl
theorem A2 {P:Program} {f:FuncId} {r:V} {k:Nat} {K:V->A8->Nat->Prop} (h:Pf P f args r) (hk:K r H k):@x4 P f args H k ⟨K⟩:=h.fn hk
theorem zHm {P:Program} {f:FuncId} {k:Nat} {K:V->A8->Nat->Prop} (h:Sl.Fn P f args H k K):@x4 P f args H k ⟨K⟩:=h
@[congr] theorem zin {P:Program} {f:FuncId} {args':List V} {k:Nat} (h1:args=args') (h2:H=H'):Sl.Fn P f args H k KA=Sl.Fn P f args' H' k KA:=by rw [h1,h2]
end
@[go_sem] theorem zbl {T : Tab} {len : Nat} {e : TypeId} {cs : List V} {kd : IntKind} {m : Int} {K : V → Prop} : X0 T (.array len e) (.agg cs) (.val (.int kd m)) K =
    (match T e with|some te=>0<=m/\m<len/\m.toNat*te.size+te.size<=cs.length/\K (F5 te.agg te.size cs (m.toNat*te.size))|none=>False):=Eq.trans rfl rfl
@[go_sem low] theorem zio {T : Tab} {s : ByteArray} {kd : IntKind} {m : Int} {K : V → Prop} : X0 T .string (.val (.string s)) (.val (.int kd m)) K =
    (0<=m/\m<s.size/\K (.val (.int .u8 ((s.data.toList.getD m.toNat 0).toNat:Int)))):=Eq.trans rfl rfl
attribute [go_sem ↓] o6
attribute [go_sem] vcL opV
@[go_sem] theorem ze3 (t:List (Nat × V)) (i:Nat):A7 t (.tmp i)=get t i:=Eq.trans rfl rfl
@[go_sem] theorem zW9 (t:List (Nat × V)) (v:Value):A7 t (.const v)=zH6 v:=Eq.trans rfl rfl
@[go_sem] theorem zSm (t:List (Nat × V)) (g:Nat):A7 t (.global g)=.val (.pointer (some ⟨g,0,none⟩)):=Eq.trans rfl rfl
@[go_sem] theorem zbm (t:List (Nat × V)) (f:FuncId):A7 t (.func f)=.fn (.func f) [] []:=Eq.trans rfl rfl
attribute [go_sem] zOb V1_ V2_ zCf zCg zOa V3_ zbf Yo_ Js_
attribute [go_sem] V.cells Yp_ zH6 get W6_ Wy_ Xa_ Q3 Q4 Xb_ znz V.isAddr zOc zA0 zUm eqV L7 X8 E7 Xc_ z8 look put del Ym_ zA2 zSg Y3_ zSb XS_ N4 zHa zSe m7 TI.agg
end Go.Sl
namespace Go.Sl
def Pt1 (O:(V->Prop)->Prop):Prop:=∀ K0,O K0->∃ v,K0 v/\∀ K:V->Prop,K v->O K
def PtH (O:(A8->Prop)->Prop):Prop:=∀ K0,O K0->∃ v,K0 v/\∀ K:A8->Prop,K v->O K
def PtL (O:(List V->Prop)->Prop):Prop:=∀ K0,O K0->∃ v,K0 v/\∀ K:List V->Prop,K v->O K
def Pt (O:(V->A8->Nat->Prop)->Prop):Prop:=∀ K0,O K0->∃ v H k,K0 v H k/\∀ K:V->A8->Nat->Prop,K v H k->O K
section
variable {H:A8} {ti:TI} {x y:V} {T:Tab} {d:D} {f k:Nat} {op:BinOp} {kd:IntKind} {m n:Int}
theorem zOf:Pt1 (Wy_ H ti x):=by
 intro K0 h
 unfold Wy_ at h ⊢
 split at h
 .split at h
  .rename_i hn;exact ⟨_,h.2.2,fun K hK=>by first|exact ⟨h.1,h.2.1,hK⟩|(simp only [hn];exact ⟨h.1,h.2.1,hK⟩)⟩
  exact h.elim
 .exact ⟨_,h.2,fun K hK=>⟨h.1,hK⟩⟩
 exact h.elim
theorem zHn:PtH (Xa_ H ti x y):=by
 intro K0 h
 unfold Xa_ at h ⊢
 split at h
 .split at h
  .rename_i hn;exact ⟨_,h.2.2.2.2,fun K hK=>by first|exact ⟨h.1,h.2.1,h.2.2.1,h.2.2.2.1,hK⟩|(simp only [hn];exact ⟨h.1,h.2.1,h.2.2.1,h.2.2.2.1,hK⟩)⟩
  exact h.elim
 exact h.elim
theorem V6_:Pt1 (Q3 T H d x y):=by
 intro K0 h
 unfold Q3 at h ⊢
 split at h
 .split at h
  .split at h
   .rename_i ht
    split at h
    .exact ⟨_,h.2.2,fun K hK=>by first|exact ⟨h.1,h.2.1,hK⟩|(simp only [ht];exact ⟨h.1,h.2.1,hK⟩)⟩
    .exact ⟨_,h.2.2,fun K hK=>by first|exact ⟨h.1,h.2.1,hK⟩|(simp only [ht];exact ⟨h.1,h.2.1,hK⟩)⟩
    exact h.elim
   exact h.elim
  .split at h
   .rename_i ht
    split at h
    .split at h
     .rename_i hn;exact ⟨_,h.2.2.2,fun K hK=>by first|exact ⟨h.1,h.2.1,h.2.2.1,hK⟩|(simp only [ht,hn];exact ⟨h.1,h.2.1,h.2.2.1,hK⟩)⟩
     exact h.elim
    .exact ⟨_,h.2.2.2,fun K hK=>by first|exact ⟨h.1,h.2.1,h.2.2.1,hK⟩|(simp only [ht];exact ⟨h.1,h.2.1,h.2.2.1,hK⟩)⟩
    exact h.elim
   exact h.elim
  exact h.elim
 exact h.elim
theorem zHo:Pt1 (X0 T d x y):=by
 intro K0 h
 unfold X0 at h ⊢
 split at h
 .split at h
  .split at h
   .rename_i ht
    split at h
    .exact ⟨_,h.2.2.2,fun K hK=>by first|exact ⟨h.1,h.2.1,h.2.2.1,hK⟩|(simp only [ht];exact ⟨h.1,h.2.1,h.2.2.1,hK⟩)⟩
    exact h.elim
   exact h.elim
  .split at h
   .exact ⟨_,h.2.2,fun K hK=>⟨h.1,h.2.1,hK⟩⟩
   exact h.elim
  exact h.elim
 exact h.elim
theorem V7_:Pt1 (Q4 T d x f):=by
 intro K0 h
 unfold Q4 at h ⊢
 split at h
 .split at h
  .rename_i hf
   split at h
   .rename_i ht
    split at h
    .exact ⟨_,h.2,fun K hK=>by first|exact ⟨h.1,hK⟩|(simp only [hf,ht];exact ⟨h.1,hK⟩)⟩
    .exact ⟨_,h.2,fun K hK=>by first|exact ⟨h.1,hK⟩|(simp only [hf,ht];exact ⟨h.1,hK⟩)⟩
    exact h.elim
   exact h.elim
  exact h.elim
 exact h.elim
theorem zHp:Pt1 (Xb_ T d x f):=by
 intro K0 h
 unfold Xb_ at h ⊢
 split at h
 .split at h
  .rename_i hf
   split at h
   .rename_i ht
    split at h
    .exact ⟨_,h.2,fun K hK=>by first|exact ⟨h.1,hK⟩|(simp only [hf,ht];exact ⟨h.1,hK⟩)⟩
    exact h.elim
   exact h.elim
  exact h.elim
 exact h.elim
theorem zOg:Pt1 (L3 op kd m n):=by
 intro K0 h
 unfold L3 at h ⊢
 cases op<;>simp only [] at h ⊢<;>first|exact ⟨_,h,fun K hK=>hK⟩|exact ⟨_,h.2,fun K hK=>⟨h.1,hK⟩⟩|exact h.elim
theorem zWa:Pt1 (zHh op kd m n):=by
 intro K0 h
 unfold zHh at h ⊢
 cases op<;>simp only [] at h ⊢<;>first|exact ⟨_,h.2,fun K hK=>⟨h.1,hK⟩⟩|exact h.elim
variable {t:TypeId}
theorem ze4 {sp:Option (List EK)} {cs ds:List V}:Pt1 (eqV sp op cs ds):=by
 intro K0 h
 unfold eqV at h ⊢
 split at h
 .split at h
  .rename_i hb
   cases op<;>simp only [] at h ⊢<;>first|exact ⟨_,h,fun K hK=>hK⟩|exact ⟨_,h,fun K hK=>by simp only [hb];exact hK⟩|exact h.elim
  exact h.elim
 exact h.elim
theorem zHq:Pt1 (zOc T op t):=by
 intro K0 h
 unfold zOc at h ⊢
 split at h
 .rename_i ht
  split at h
  .rename_i hd
   cases op<;>simp only [] at h<;>first|exact ⟨_,h,fun K hK=>by simp only [ht,hd];exact hK⟩|exact h.elim
  exact h.elim
 exact h.elim
theorem zOh {ty:TypeId}:Pt (zA0 T ty x y k H):=by
 intro K0 h
 unfold zA0 at h ⊢
 split at h
 .split at h
  .rename_i ht
   split at h
   .rename_i hd
    split at h
    .rename_i hte
     exact ⟨_,_,_,h.2.2.2.2,fun K hK=>by first|exact ⟨h.1,h.2.1,h.2.2.1,h.2.2.2.1,hK⟩|(simp only [ht,hd,hte];exact ⟨h.1,h.2.1,h.2.2.1,h.2.2.2.1,hK⟩)⟩
    exact h.elim
   exact h.elim
  exact h.elim
 exact h.elim
theorem zWb:Pt1 (zUm T op t x y):=by
 intro K0 h
 unfold zUm at h ⊢
 split at h
 .split at h
  .rename_i ht
   obtain ⟨v,h1,h2⟩:=ze4 _ h.2
   exact ⟨v,h1,fun K hK=>by first|exact ⟨h.1,h2 K hK⟩|(simp only [ht];exact ⟨h.1,h2 K hK⟩)⟩
  exact h.elim
 .obtain ⟨v,h1,h2⟩:=zHq _ h;exact ⟨v,h1,fun K hK=>h2 K hK⟩
 .obtain ⟨v,h1,h2⟩:=zHq _ h;exact ⟨v,h1,fun K hK=>h2 K hK⟩
 .split at h
  .rename_i hs
   obtain ⟨v,h1,h2⟩:=zWa K0 h
   exact ⟨v,h1,fun K hK=>by first|exact h2 K hK|(simp only [hs,if_true];exact h2 K hK)⟩
  rename_i hs
  obtain ⟨v,h1,h2⟩:=zOg K0 h.2
  exact ⟨v,h1,fun K hK=>by first|exact ⟨h.1,h2 K hK⟩|(simp only [hs,if_false];exact ⟨h.1,h2 K hK⟩)⟩
 .cases op<;>simp only [] at h ⊢<;>first|exact ⟨_,h,fun K hK=>hK⟩|exact ⟨_,h.2,fun K hK=>⟨h.1,hK⟩⟩|exact h.elim
 .split at h
  .rename_i ht
   split at h
   .rename_i hd
    cases op<;>simp only [] at h<;>first|exact ⟨_,h,fun K hK=>by simp only [ht,hd];exact hK⟩|exact h.elim
   exact h.elim
  exact h.elim
 exact h.elim
theorem zHr {lo hi:Nat->Option Int}:Pt1 (Xc_ H ti x lo hi):=by
 intro K0 h
 unfold Xc_ at h ⊢
 split at h
 .split at h
  .rename_i h1 h2;exact ⟨_,h.2.2,fun K hK=>by first|exact ⟨h.1,h.2.1,hK⟩|(simp only [h1,h2];exact ⟨h.1,h.2.1,hK⟩)⟩
  exact h.elim
 .split at h
  .rename_i hn
   split at h
   .rename_i h1 h2;exact ⟨_,h.2.2.2.2,fun K hK=>by first|exact ⟨h.1,h.2.1,h.2.2.1,h.2.2.2.1,hK⟩|(simp only [hn,h1,h2];exact ⟨h.1,h.2.1,h.2.2.1,h.2.2.2.1,hK⟩)⟩
   exact h.elim
  exact h.elim
 .split at h
  .rename_i h1 h2;exact ⟨_,h.2.2.2.2,fun K hK=>by first|exact ⟨h.1,h.2.1,h.2.2.1,h.2.2.2.1,hK⟩|(simp only [h1,h2];exact ⟨h.1,h.2.1,h.2.2.1,h.2.2.2.1,hK⟩)⟩
  exact h.elim
 exact h.elim
theorem zFi:Pt (z8 H k ti x y):=by
 intro K0 h
 unfold z8 at h ⊢
 split at h
 .rename_i hnw
  split at h
  .exact ⟨_,_,_,h.2.2.2,fun K hK=>by first|exact ⟨h.1,h.2.1,h.2.2.1,hK⟩|(simp only [hnw];exact ⟨h.1,h.2.1,h.2.2.1,hK⟩)⟩
  .split at h
   .rename_i hn;exact ⟨_,_,_,h.2.2.2.2.2,fun K hK=>by first|exact ⟨h.1,h.2.1,h.2.2.1,h.2.2.2.1,h.2.2.2.2.1,hK⟩|(simp only [hnw,hn];exact ⟨h.1,h.2.1,h.2.2.1,h.2.2.2.1,h.2.2.2.2.1,hK⟩)⟩
   exact h.elim
  exact h.elim
 exact h.elim
theorem V8_ {pl:Nat->Option (Nat × Nat)}:∀ (ps:List (Nat × V)) (cs:List V),PtL (Ym_ pl cs ps)
 | [],cs=>fun K0 h=>⟨cs,h,fun K hK=>hK⟩
 | (i,v)::r,cs=>fun K0 h=>by
  simp only [Ym_] at h ⊢
  split at h
  .rename_i hp
   obtain ⟨cs',h1,h2⟩:=V8_ r _ K0 h.2.2.2
   exact ⟨cs',h1,fun K hK=>by first|exact ⟨h.1,h.2.1,h.2.2.1,h2 K hK⟩|(simp only [hp];exact ⟨h.1,h.2.1,h.2.2.1,h2 K hK⟩)⟩
  exact h.elim
theorem zSn {P:Program} {t:List (Nat × V)} {op:Op} (hc:Xd_ op=false):Pt (opV T P t H k op):=by
 intro K0 h
 unfold opV at h ⊢
 split at h
 .exact ⟨_,_,_,h,fun K hK=>hK⟩
 .exact ⟨_,_,_,h,fun K hK=>hK⟩
 .split at h
  .rename_i b hb
   cases b with
   | true=>exact ⟨_,_,_,(by simpa using h:K0 _ _ _),fun K hK=>by first|simpa using hK|(simp only [hb];simpa using hK)⟩
   | false=>exact ⟨_,_,_,(by simpa using h:K0 _ _ _),fun K hK=>by first|simpa using hK|(simp only [hb];simpa using hK)⟩
  exact h.elim
 .split at h
  .rename_i ht;exact ⟨_,_,_,h.2,fun K hK=>by first|exact ⟨h.1,hK⟩|(simp only [ht];exact ⟨h.1,hK⟩)⟩
  exact h.elim
 .split at h
  .rename_i ht;exact ⟨_,_,_,h,fun K hK=>by first|exact hK|(simp only [ht];exact hK)⟩
  exact h.elim
 .split at h
  .rename_i ht;obtain ⟨v,h1,h2⟩:=zOf _ h;exact ⟨_,_,_,h1,fun K hK=>by first|exact h2 _ hK|(simp only [ht];exact h2 _ hK)⟩
  exact h.elim
 .split at h
  .rename_i ht;obtain ⟨v,h1,h2⟩:=zHn _ h;exact ⟨_,_,_,h1,fun K hK=>by first|exact h2 _ hK|(simp only [ht];exact h2 _ hK)⟩
  exact h.elim
 .split at h
  .rename_i ht;obtain ⟨v,h1,h2⟩:=V6_ _ h;exact ⟨_,_,_,h1,fun K hK=>by first|exact h2 _ hK|(simp only [ht];exact h2 _ hK)⟩
  exact h.elim
 .split at h
  .rename_i ht;obtain ⟨v,h1,h2⟩:=zHo _ h;exact ⟨_,_,_,h1,fun K hK=>by first|exact h2 _ hK|(simp only [ht];exact h2 _ hK)⟩
  exact h.elim
 .split at h
  .rename_i ht;obtain ⟨v,h1,h2⟩:=V7_ _ h;exact ⟨_,_,_,h1,fun K hK=>by first|exact h2 _ hK|(simp only [ht];exact h2 _ hK)⟩
  exact h.elim
 .split at h
  .rename_i ht;obtain ⟨v,h1,h2⟩:=zHp _ h;exact ⟨_,_,_,h1,fun K hK=>by first|exact h2 _ hK|(simp only [ht];exact h2 _ hK)⟩
  exact h.elim
 .split at h
  .rename_i ht;exact ⟨_,_,_,h.2,fun K hK=>by first|exact ⟨h.1,hK⟩|(simp only [ht];exact ⟨h.1,hK⟩)⟩
  exact h.elim
 .obtain ⟨v,h1,h2⟩:=zWb _ h;exact ⟨_,_,_,h1,fun K hK=>h2 _ hK⟩
 .split at h
  .rename_i hx;exact ⟨_,_,_,h,fun K hK=>by first|exact hK|(simp only [hx];exact hK)⟩
  .rename_i hx;exact ⟨_,_,_,h,fun K hK=>by first|exact hK|(simp only [hx];exact hK)⟩
  .rename_i hx;exact ⟨_,_,_,h,fun K hK=>by first|exact hK|(simp only [hx];exact hK)⟩
  exact h.elim
 .split at h
  .rename_i h1 h2 h3
   split at h
   .rename_i h4 h5;exact ⟨_,_,_,h.2,fun K hK=>by first|exact ⟨h.1,hK⟩|(simp only [h1,h2,h3,h4,h5];exact ⟨h.1,hK⟩)⟩
   exact h.elim
  exact h.elim
 .split at h
  .rename_i ht
   split at h
   .rename_i hd
    obtain ⟨cs,h1,h2⟩:=V8_ _ _ _ h.2
    exact ⟨_,_,_,h1,fun K hK=>by first|exact ⟨h.1,h2 _ hK⟩|(simp only [ht,hd];exact ⟨h.1,h2 _ hK⟩)⟩
   .rename_i hd
    split at h
    .rename_i he
     obtain ⟨cs,h1,h2⟩:=V8_ _ _ _ h
     exact ⟨_,_,_,h1,fun K hK=>by first|exact h2 _ hK|(simp only [ht,hd,he];exact h2 _ hK)⟩
    exact h.elim
   exact h.elim
  exact h.elim
 .split at h
  .rename_i ht
   split at h
   .rename_i hd
    split at h
    .rename_i he;exact ⟨_,_,_,h.2.2.2.2,fun K hK=>by first|exact ⟨h.1,h.2.1,h.2.2.1,h.2.2.2.1,hK⟩|(simp only [ht,hd,he];exact ⟨h.1,h.2.1,h.2.2.1,h.2.2.2.1,hK⟩)⟩
    exact h.elim
   exact h.elim
  exact h.elim
 .split at h
  .rename_i ht
   split at h
   .rename_i hd
    split at h
    .rename_i hx
     split at h
     .rename_i h1 h2;exact ⟨_,_,_,h.2.2.2,fun K hK=>by first|exact ⟨h.1,h.2.1,h.2.2.1,hK⟩|(simp only [ht,hd,hx,h1,h2];exact ⟨h.1,h.2.1,h.2.2.1,hK⟩)⟩
     exact h.elim
    exact h.elim
   .rename_i hd
    split at h
    .rename_i he
     obtain ⟨v,h1,h2⟩:=zHr _ h
     exact ⟨_,_,_,h1,fun K hK=>by first|exact h2 _ hK|(simp only [ht,hd,he];exact h2 _ hK)⟩
    exact h.elim
   .rename_i hd
    obtain ⟨v,H',k',h1,h2⟩:=Y2_ h
    exact ⟨_,_,_,h2,fun K hK=>by first|exact J8_ h1 hK|(simp only [ht,hd];exact J8_ h1 hK)⟩
   exact h.elim
  exact h.elim
 .exact ⟨_,_,_,h.2,fun K hK=>⟨h.1,hK⟩⟩
 .obtain ⟨v,H',k',h1,h2⟩:=zOh _ h;exact ⟨_,_,_,h1,fun K hK=>h2 _ hK⟩
 .exact ⟨_,_,_,h,fun K hK=>hK⟩
 .simp [Xd_] at hc
 .split at h
  .rename_i h1 h2
   split at h
   .rename_i h3
    split at h
    .rename_i h4;exact ⟨_,_,_,h.2,fun K hK=>by first|exact ⟨h.1,hK⟩|(simp only [h1,h2,h3,h4];exact ⟨h.1,hK⟩)⟩
    exact h.elim
   exact h.elim
  exact h.elim
 .split at h
  .rename_i h1
   split at h
   .rename_i h2 h3;exact ⟨_,_,_,h,fun K hK=>by first|exact hK|(simp only [h1,h2,h3];exact hK)⟩
   exact h.elim
  exact h.elim
 .split at h
  .rename_i h1
   split at h
   .rename_i h2 h3;exact ⟨_,_,_,h,fun K hK=>by first|exact hK|(simp only [h1,h2,h3];exact hK)⟩
   exact h.elim
  exact h.elim
 .split at h
  .rename_i h1 h2
   split at h
   .rename_i h3 h4
    split at h
    .rename_i h5 h6
     split at h
     .rename_i h7
      obtain ⟨v,H',k',e1,e2⟩:=zFi _ h
      exact ⟨_,_,_,e1,fun K hK=>by first|exact e2 _ hK|(simp only [h1,h2,h3,h4,h5,h6,h7];exact e2 _ hK)⟩
     exact h.elim
    exact h.elim
   exact h.elim
  exact h.elim
 obtain ⟨v,H',k',h1,h2⟩:=Y2_ h
 exact ⟨_,_,_,h2,fun K hK=>J8_ h1 hK⟩
end
end Go.Sl
