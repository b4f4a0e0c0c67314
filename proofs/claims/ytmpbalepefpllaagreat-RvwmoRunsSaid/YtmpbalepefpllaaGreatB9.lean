/- Texts put together, in order: W82, W95, W83, Grvwm, Grvwo, Grvwp, W96, Grvwq. -/
import Derived.KernelRfl
import Derived.Test.YtmpbalepefpllaaGreatB8
open List
set_option maxRecDepth 100000
set_option maxHeartbeats 16000000
set_option linter.unusedVariables false
set_option linter.unusedSimpArgs false
namespace Go.Proofs.YtmpbalepefpllaaGreat
open Go Go.Sl
theorem zPq (l:List Ins):L5 l<=evL l:=by
 induction l with
 | nil=>exact Nat.le_refl _
 | cons x l ih =>
  have e1:L5 (x::l)=L5 l+if J8 x then 1 else 0:=by unfold L5;rw [countP_cons]
  have e2:evL (x::l)=evt x+evL l:=by simp [evL]
  rw [e1,e2]
  have:(if J8 x then 1 else 0)<=evt x:=by
   unfold J8 M2 evt
   cases rdB x.op<;>cases wrB x.op<;>decide
  omega
theorem JD_ (t:Tst):nO t<=I2 t.ths:=by
 rw [zXw]
 unfold Zw_ I2
 induction t.ths with
 | nil=>exact Nat.le_refl _
 | cons l r ih=>simp only [map_cons,sum_cons];have:=zPq l;omega
theorem zB1 (l:List Ins):L5 l=(l.filter fun x=>M2 x.op).length:=by
 unfold L5
 rw [countP_eq_length_filter];rfl
theorem JE_ (l:List (List Ins)):∀ n,n<=l.length->y4 l n=((l.take n).map L5).sum
 | 0,_=>by simp [y4]
 | n+1,h=>by
  have e:=List.getElem?_eq_getElem (show n<l.length by omega)
  rw [y4,JE_ l n (by omega),M1 e,map_append,sum_append]
  have:l.getD n []=l[n]:=by rw [List.getD,e];rfl
  rw [this]
  unfold Qh_
  rw [take_length,<-zB1]
  simp
theorem zRm (t:Tst):nO t=Zi_ t:=by
 rw [zXw]
 unfold Zw_ Zi_
 rw [JE_ _ _ (Nat.le_refl _),take_length]
theorem zey {t:Tst} {k:Nat} (hk:k<nO t):∃ l∈t.ths,opX t k∈l/\M2 (opX t k).op=true:=by
 obtain ⟨h1,h2,h3,h4⟩:=Q4 hk
 exact ⟨_,List.mem_of_getElem? (Y7_ h1),List.mem_of_getElem? h1,h2⟩
theorem Ub_ {t:Tst} (h:H5 t=0) {l:List Ins} (hl:l∈t.ths) {x:Ins} (hx:x∈l):zN9 x=false/\zBu x=false/\Jx_ t.locs.length x=false/\zNa x=false/\zEi x=false/\zLn x=false:=by
 obtain ⟨left,_,he⟩:=zCf h hl hx
 obtain ⟨e1,e2,e3,e4,e5,e6,_⟩:=x5.1 he
 exact ⟨e1,e2,e3,e4,e5,e6⟩
theorem f6 {t:Tst} (h:H5 t=0) (hw:Z4_ t):SeaOk t:=by
 have hs:=M9 (P8.1 h).1
 obtain ⟨g1,g2,g3⟩:=zVb h hw
 refine ⟨hs.2.1,hs.2.2.2.2.1,Nat.le_trans (JD_ t) hs.2.2.2.2.2,hs.2.2.1,fun k hk=>?_,g3,fun l hl x hx _=>⟨(g3 l hl x hx).rd0,(g3 l hl x hx).rd8⟩,fun l hl x hx h15=>?_⟩
 .obtain ⟨l,hl,hx,hm⟩:=zey hk
  obtain ⟨_,_,e3,_⟩:=Ub_ h hl hx
  simp only [Jx_,hm,Bool.true_and,Bool.or_eq_false_iff,decide_eq_false_iff_not] at e3
  omega
 obtain ⟨_,_,_,_,e5,_⟩:=Ub_ h hl hx
 simp only [zEi,h15,decide_true,Bool.true_and,Bool.or_eq_false_iff,decide_eq_false_iff_not] at e5
 omega
theorem zB2 {t:Tst} (h:H5 t=0):TG t:=by
 have hs:=M9 (P8.1 h).1
 refine ⟨by have:=JD_ t;omega,fun l hl x hx h1=>?_⟩
 obtain ⟨_,_,_,e4,_⟩:=Ub_ h hl hx
 simpa [zNa,h1] using e4
theorem zY4 {t:Tst} (h:H5 t=0) (hw:Z4_ t):TB t:=by
 have hs:=f6 h hw
 exact ⟨by have:=hs.n8;omega,hs.locs,hs.loc⟩
section
variable {t:Tst} {reads:List Vl} {works:List Bool} {i:Nat}
theorem JF_ (hl:∀ l∈t.ths,l.length<=8):∀ b,U64 (F1 t reads works i b).1.w.left
 | 0=>L9
 | b+1=>by
  have ih:=JF_ hl b
  by_cases hb:b<(lth t i).length
  .have hx:=List.getElem?_eq_getElem hb
   have h8:=hl _ (List.mem_of_getElem? (Y7_ hx))
   rw [G0 hx]
   split
   rotate_left
   .exact ih
   generalize (F1 t reads works i b).1=s at *
   dsimp only
   unfold S6
   split
   .exact (O5 ih (Zn_ (by omega)).1).1
   split
   .dsimp only
    unfold U5
    split
    .exact ih
    split
    .exact ih
    split
    .exact ih
    split
    .exact ih
    split
    .unfold Xo_
     cases works.getD s.k false<;>exact ih
    exact ih
   split
   .exact ih
   dsimp only
   unfold N9
   split
   .exact ih
   split<;>exact ih
  rw [I3 hb];exact ih
theorem zez (ht:TG t) {k:Nat} (hk:k<nO t):U64 (fxO t reads works k).pl/\U64 (fxO t reads works k).vl/\U64 (fxO t reads works k).ph/\0<=(fxO t reads works k).pr/\(fxO t reads works k).pr<=nO t:=by
 have h0:U64 0/\U64 0/\U64 0/\(0:Int)<=0/\(0:Int)<=nO t:=⟨L9,L9,L9,Int.le_refl _,by omega⟩
 rw [V5 hk]
 by_cases hp:(F1 t reads works (G5 t k) (opAt t k)).2=true
 .rw [if_pos hp]
  have hu:=y6 ht _ hp
  have hlr:=zAy _ hp
  generalize (F1 t reads works (G5 t k) (opAt t k)).1=s at *
  unfold fxP
  split
  .exact h0
  unfold fxM
  refine ⟨?_,?_,?_,?_⟩
  .dsimp only
   split
   .exact L9
   split
   .exact hu.hangs _
   exact L9
  .dsimp only
   split
   .exact Q8 hu _ _
   exact L9
  .dsimp only
   split
   .exact L9
   exact hu.path
  dsimp only
  split
  .rcases hlr with hlr|⟨q,h1,h2,_⟩<;>omega
  exact ⟨Int.le_refl _,by omega⟩
 rw [if_neg hp];exact h0
end
theorem Uc_ {t:Tst} {reads:List Vl} {works:List Bool} (ht:TG t) {l:List Int} {g:Fx->Int} (hl:l.length=nO t) (hg:∀ k,k<nO t->l.getD k 0=g (fxO t reads works k)) {P:Int->Prop} (hP:∀ k,k<nO t->P (g (fxO t reads works k))):∀ (k:Nat) (x:Int),l[k]?=some x->P x:=fun k x h=>by
 have hk:k<nO t:=by rw [<-hl];exact (List.getElem?_eq_some_iff.1 h).1
 have:=hg k hk
 rw [List.getD,h] at this
 replace this:x=g (fxO t reads works k):=this
 rw [this];exact hP k hk
theorem zY5 {t:Tst} (hs:SeaOk t) (ht:TG t) (reads:List Vl) (works:List Bool) (fr:List Int) (hf:fr.length=nO t) (hfr:∀ (k:Nat) (x:Int),fr[k]?=some x->-1<=x/\x<nO t):CsOk ⟨t,C9 t reads works,fr⟩:=by
 have ok:=Q1 t reads works
 have h:∀ k,k<nO t->_:=fun k hk=>zez (reads:=reads) (works:=works) ht hk
 refine ⟨hs.ths,hs.len,hs.n8,ok,(Zm_ t reads works).2,hf,hfr,?_,?_,?_,?_,?_,hs.fen⟩
 .exact Uc_ (g:=Fx.pr) ht ok.l3 (fun _ _=>rfl) fun k hk=>(h k hk).2.2.2
 .intro k x hx
  have hk:k<t.ths.length:=by rw [<-(Zm_ t reads works).2];exact (List.getElem?_eq_some_iff.1 hx).1
  have e:=(p7 t reads works hk).2
  rw [hx] at e
  cases e
  exact JF_ hs.len _
 .exact Uc_ (g:=Fx.pl) ht ok.l4 (fun _ _=>rfl) fun k hk=>(h k hk).1
 .exact Uc_ (g:=Fx.vl) ht ok.l5 (fun _ _=>rfl) fun k hk=>(h k hk).2.1
 exact Uc_ (g:=Fx.ph) ht ok.l6 (fun _ _=>rfl) fun k hk=>(h k hk).2.2.1
theorem zLd {t:Tst} {w:List Bool} {fr:List Int} {f:Os'} (h:U6 t w fr=some f):∃ R,f=C9 t R w:=by
 unfold U6 at h
 dsimp only at h
 split at h
 .split at h
  .cases h
  cases h
  exact ⟨_,WO_ fr _⟩
 cases h
theorem JG_ {t:Tst} (hs:SeaOk t) (ht:TG t) (w:List Bool) (fr:List Int) (hw:w.length=nO t) (hf:fr.length=nO t) (hfr:∀ (k:Nat) (x:Int),fr[k]?=some x->-1<=x/\x<nO t) (f:Os') (h:U6 t w fr=some f):CsOk ⟨t,f,fr⟩/\f.regs.length=t.ths.length:=by
 obtain ⟨R,rfl⟩:=zLd h
 exact ⟨zY5 hs ht R w fr hf hfr,(Zm_ t R w).1⟩
theorem I9 {α β:Type} {l:List α} {f:α->List β} {m:Nat} (h:∀ a∈l,(f a).length<=m):(l.flatMap f).length<=l.length*m:=by
 induction l with
 | nil=>simp
 | cons a l ih =>
  have h1:=h a (.head _)
  have h2:=ih fun b hb=>h b (.tail _ hb)
  rw [flatMap_cons,length_append,length_cons,Nat.add_mul]
  omega
theorem zB3 (t:Tst):∀ (f k:Nat) (v:List Bool),(zA6 t f k v).length<=2 ^ f
 | 0,_,_=>Nat.le_refl _
 | f+1,k,v=>by
  unfold zA6
  rw [length_append,Nat.pow_succ]
  have h1:=zB3 t f (k+1) v
  have h2:(if (opX t k).op=14 then zA6 t f (k+1) (v.set k true) else []).length<=2 ^ f:=by
   split
   .exact zB3 t f (k+1) _
   simp
  omega
theorem zY6 (t:Tst) (k:Nat):(YU_ t k).length<=nO t+1:=by
 unfold YU_
 split
 .unfold JO_
  have:=length_filter_le (zCs t k) (List.range (nO t))
  rw [length_range] at this
  simp only [length_cons,length_map];omega
 simp
theorem zLe (t:Tst):∀ (f k:Nat) (p:List Int),(Wc_ t f k p).length<=(nO t+1) ^ f
 | 0,_,_=>Nat.le_refl _
 | f+1,k,p=>by
  unfold Wc_
  refine Nat.le_trans (I9 (m:=(nO t+1) ^ f) fun i _=>zLe t f (k+1) _) ?_
  rw [Nat.pow_succ,Nat.mul_comm]
  exact Nat.mul_le_mul_left _ (zY6 t k)
theorem zLf:∀ (f m:Nat) (a l:List Nat),l.length=f->f<=m->(zIy f a l).length<=m ^ f
 | 0,_,_,_,_,_=>Nat.le_refl _
 | f+1,m,a,l,h,hm=>by
  unfold zIy
  refine Nat.le_trans (I9 (m:=m ^ f) fun i hi=>zLf f m _ _ (by rw [length_eraseIdx_of_lt (List.mem_range.1 hi)];omega) (by omega)) ?_
  rw [length_range,Nat.pow_succ,Nat.mul_comm,h]
  exact Nat.mul_le_mul_left _ hm
def zM0 (c:Cs) (loc f m:Nat):Nat:=(List.range m).countP fun k=>c.wr k&&(decide ((loc:Int)<=(c.x k).loc)&&decide ((c.x k).loc<(loc:Int)+f))
theorem VT_ {α:Type} {p q r:α->Bool} (h:∀ a,(p a=true->r a=true)/\(q a=true->r a=true)/\¬ (p a=true/\q a=true)):∀ l:List α,l.countP p+l.countP q<=l.countP r
 | []=>by simp
 | a::l=>by
  have ih:=VT_ h l
  obtain ⟨h1,h2,h3⟩:=h a
  rw [countP_cons,countP_cons,countP_cons]
  cases hp:p a<;>cases hq:q a
  .simp;omega
  .rw [h2 hq];simp;omega
  .rw [h1 hp];simp;omega
  exact absurd ⟨hp,hq⟩ h3
theorem zB4 (c:Cs):∀ (f loc:Nat) (l:List Int) (co:Rl),(zLq c f loc l co).length<=c.n ^ zM0 c loc f c.n
 | 0,loc,_,_=>by
  have:zM0 c loc 0 c.n=0:=List.countP_eq_zero.2 fun k _=>by
   simp only [Bool.and_eq_true,decide_eq_true_eq];omega
  rw [this];exact Nat.le_refl _
 | f+1,loc,l,co=>by
  unfold zLq
  refine Nat.le_trans (I9 (m:=c.n ^ zM0 c (loc+1) f c.n) fun p _=>zB4 c f (loc+1) _ _) ?_
  have hl:(W8 c loc c.n).length<=c.n:=by
   unfold W8
   have:=length_filter_le (fun k=>c.wr k&&decide ((c.x k).loc=(loc:Nat))) (List.range c.n)
   rwa [length_range] at this
  have h1:=zLf _ c.n [] (W8 c loc c.n) rfl hl
  have h2:(W8 c loc c.n).length+zM0 c (loc+1) f c.n<=zM0 c loc (f+1) c.n:=by
   unfold W8 zM0
   rw [<-countP_eq_length_filter]
   refine VT_ (fun k=>?_) _
   cases c.wr k
   .simp
   simp only [Bool.true_and,Bool.and_eq_true,decide_eq_true_eq];omega
  refine Nat.le_trans (Nat.mul_le_mul_right _ h1) ?_
  rw [<-Nat.pow_add]
  rcases Nat.eq_zero_or_pos c.n with h0|h0
  .have e0:∀ q:Nat->Bool,(List.range c.n).countP q=0:=fun q=>by rw [h0];rfl
   have:W8 c loc c.n=[]:=by unfold W8;rw [h0];rfl
   rw [this]
   unfold zM0
   rw [e0,e0];exact Nat.le_refl _
  exact Nat.pow_le_pow_right h0 h2
theorem zLg (c:Cs) (loc f:Nat):zM0 c loc f c.n<=c.n:=by
 unfold zM0
 have:=countP_le_length (l:=List.range c.n) (p:=fun k=>c.wr k&&(decide ((loc:Int)<=(c.x k).loc)&&decide ((c.x k).loc<(loc:Int)+f)))
 rwa [length_range] at this
theorem zLh (kept:Rl) (c:Cs) (las:List Int) (co:Rl):(V8_ kept c las co).length<=1:=by
 unfold V8_;split<;>simp
theorem zPr (ord:Cs->Rl) (t:Tst) (h:0<nO t):(O8 ord t).length<=2 ^ nO t*((nO t+1) ^ nO t*nO t ^ nO t):=by
 unfold O8
 refine Nat.le_trans (I9 (m:=(nO t+1) ^ nO t*nO t ^ nO t) fun w _=>?_) (Nat.mul_le_mul_right _ (zB3 t _ _ _))
 refine Nat.le_trans (I9 (m:=nO t ^ nO t) fun fr _=>?_) (Nat.mul_le_mul_right _ (zLe t _ _ _))
 unfold Yj_
 split
 .simp
 rename_i f _
 refine Nat.le_trans (I9 (m:=1) fun p _=>zLh _ _ _ _) ?_
 rw [Nat.mul_one]
 refine Nat.le_trans (zB4 ⟨t,f,fr⟩ _ _ _ _) ?_
 exact Nat.pow_le_pow_right h (zLg ⟨t,f,fr⟩ _ _)
theorem zLi:∀ (l:List Rn) (s:List (List Int)),(l.foldl (fun s r=>if r.st∈s then s else s++[r.st]) s).length<=s.length+l.length
 | [],s=>Nat.le_refl _
 | r::l,s=>by
  rw [foldl_cons]
  refine Nat.le_trans (zLi l _) ?_
  split
  .simp only [length_cons];omega
  simp only [length_append,length_cons,length_nil];omega
theorem zRn (ord:Cs->Rl) (t:Tst) (h6:nO t<=6):(I0 ord t).length<=400000000000:=by
 unfold I0 zLs
 refine Nat.le_trans (zLi _ _) ?_
 rw [length_nil,Nat.zero_add]
 rcases Nat.eq_zero_or_pos (nO t) with h0|h0
 .unfold O8
  rw [h0]
  refine Nat.le_trans (I9 (m:=1) fun w _=>?_) (by show 1*1<=_;omega)
  refine Nat.le_trans (I9 (m:=1) fun fr _=>?_) (by show 1*1<=_;omega)
  unfold Yj_
  split
  .simp
  rename_i f _
  refine Nat.le_trans (I9 (m:=1) fun p _=>zLh _ _ _ _) ?_
  have hl:=zB4 ⟨t,f,fr⟩ t.locs.length 0 (List.replicate 8 0) fun _ _=>false
  have hu:=zLg ⟨t,f,fr⟩ 0 t.locs.length
  have hn:(⟨t,f,fr⟩:Cs).n=0:=h0
  rw [hn] at hl hu
  have e:zM0 ⟨t,f,fr⟩ 0 t.locs.length 0=0:=by omega
  rw [e] at hl
  simpa using hl
 refine Nat.le_trans (zPr ord t h0) ?_
 have h1:2 ^ nO t<=2 ^ 6:=Nat.pow_le_pow_right (by omega) h6
 have h2:(nO t+1) ^ nO t<=7 ^ 6:=Nat.le_trans (Nat.pow_le_pow_right (by omega) h6) (Nat.pow_le_pow_left (by omega) 6)
 have h3:nO t ^ nO t<=6 ^ 6:=Nat.le_trans (Nat.pow_le_pow_right h0 h6) (Nat.pow_le_pow_left h6 6)
 exact Nat.le_trans (Nat.mul_le_mul h1 (Nat.mul_le_mul h2 h3)) (by decide)
theorem zY7 {ord:Cs->Rl} {t:Tst} (hs:SeaOk t):∀ r∈O8 ord t,r.st.length=41:=fun r hr=>zWd (fun g f=>ZY_ hs.ths hs.locs g f) hr
structure RnOk (ord:Cs->Rl) (r:Rn):Prop where
 co:∀ a b,r.co a b=true->r.c.wr a=true/\r.c.wr b=true/\lcP r.c a b=true
 le:∀ a b,r.co a b=true->r.ah a b=true
 kept:∀ a b,ord r.c a b=true->r.ah a b=true
 lp:a8 r.ah=false
 fr:∀ (k:Nat) (m:Nat),r.c.fr[k]?=some (m:Int)->r.c.run k=true/\r.c.wr m=true/\lcP r.c m k=true/\m<r.c.n
theorem zY8 {t:Tst} {ord:Cs->Rl} {r:Rn} (hr:r∈O8 ord t):RnOk ord r:=by
 unfold O8 at hr
 obtain ⟨w,hw,hr⟩:=List.mem_flatMap.1 hr
 obtain ⟨fr,hfr,hr⟩:=List.mem_flatMap.1 hr
 obtain ⟨f1,f2⟩:=zAv.1 hfr
 unfold Yj_ U6 at hr
 dsimp only at hr
 rw [WO_] at hr
 by_cases hwh:(C9 t (itR t w (stN t fr) (nO t)) w).whole=true
 rotate_left
 .rw [if_neg hwh] at hr;cases hr
 rw [if_pos hwh] at hr
 by_cases hbad:(List.range (nO t)).any (JP_ (C9 t (itR t w (stN t fr) (nO t)) w).f w fr)=true
 .rw [if_pos hbad] at hr;cases hr
 rw [if_neg hbad] at hr
 dsimp only at hr
 obtain ⟨⟨las,co⟩,hl,hr⟩:=List.mem_flatMap.1 hr
 obtain ⟨ps,p1,p2,p3,p4⟩:=(WN_ _ _ _ _).1 hl
 replace p4:co=coO ps:=p4
 subst p4
 have p2':∀ i,i<t.locs.length->(ps.getD i []).Perm (W8 (csR t (itR t w (stN t fr) (nO t)) w fr) i (nO t)):=fun i hi=>by
  have:=p2 i hi
  rw [Nat.zero_add] at this;exact this
 have hbad':∀ k,k<nO t->JP_ (C9 t (itR t w (stN t fr) (nO t)) w).f w fr k=false:=fun k hk=>by
  rw [Bool.not_eq_true,any_eq_false] at hbad
  have:=hbad k (List.mem_range.2 hk)
  rwa [Bool.not_eq_true] at this
 unfold V8_ at hr
 split at hr
 .cases hr
 rename_i hj
 rw [mem_singleton] at hr
 simp only [Bool.or_eq_true,not_or,Bool.not_eq_true,Bool.not_eq_false'] at hj
 obtain ⟨j1,j2,j3⟩:=hj
 subst hr
 have hlc:∀ {a b:Nat},a<nO t->b<nO t->(opX t a).loc=(opX t b).loc->lcP (csR t (itR t w (stN t fr) (nO t)) w fr) a b=true:=fun {a b} h1 h2 h3=>by
  unfold lcP
  simp only [Bool.and_eq_true,decide_eq_true_eq]
  exact ⟨⟨h1,h2⟩,h3⟩
 refine ⟨fun a b hc=>?_,fun a b hc=>by unfold Zc_;dsimp only at hc ⊢;rw [hc];simp,fun a b hc=>by unfold Zc_ WU_;dsimp only at hc ⊢;rw [hc];rfl,j2,fun k m hm=>?_⟩
 .dsimp only at hc
  unfold coO at hc
  rw [Bool.false_or,any_eq_true] at hc
  obtain ⟨p,hp,h0⟩:=hc
  obtain ⟨i,hi⟩:=List.getElem?_of_mem hp
  have hi2:i<t.locs.length:=by rw [<-p1];exact (List.getElem?_eq_some_iff.1 hi).1
  have hperm:=p2' i hi2
  rw [List.getD,hi] at hperm
  obtain ⟨h1,h2⟩:=zDs h0
  obtain ⟨a1,a2,a3⟩:=L3.1 (hperm.mem_iff.1 h1)
  obtain ⟨b1,b2,b3⟩:=L3.1 (hperm.mem_iff.1 h2)
  exact ⟨a2,b2,hlc a1 b1 (a3.trans b3.symm)⟩
 replace hm:fr[k]?=some (m:Int):=hm
 have hk:k<nO t:=by rw [<-f1];exact (List.getElem?_eq_some_iff.1 hm).1
 have hg:fr.getD k 0=m:=by rw [List.getD,hm];rfl
 rcases WM_.1 (f2 k hk) with h0|⟨h1,m',h2,h3,h4⟩
 .omega
 obtain rfl:m=m':=by omega
 obtain ⟨b1,b2,b3⟩:=Zv_ (hbad' k hk)
 unfold zCs at h4
 simp only [Bool.and_eq_true,Bool.or_eq_true,Bool.not_eq_true',decide_eq_true_eq,decide_eq_false_iff_not] at h4
 obtain ⟨c1,c2,c3,c4⟩:=h4
 have hkr:(fxO t (itR t w (stN t fr) (nO t)) w k).st=1:=Classical.byContradiction fun hc=>(b1 hc).1 (by omega)
 have hmr:=b2 hkr (by omega)
 rw [hg] at hmr
 exact ⟨UX_.2 hkr,S2.2 ⟨hmr,c2⟩,hlc h3 hk c3,h3⟩
theorem Z9 {p:Rl} (h:∀ a b,a<16->b<16->p a b=false):∀ n,n<=16->Wb_ p n=0
 | 0,_=>rfl
 | n+1,hn=>by
  rw [Wb_,Z9 h n (by omega)]
  have:D7 (p n)=0:=Nat.eq_of_testBit_eq fun i=>by
   rw [B4,Nat.zero_testBit]
   by_cases hi:i<16
   .rw [h n i (by omega) hi];simp
   simp [hi]
  rw [this]
  simp [Uf_]
def wwP (c:Cs) (a b:Nat):Bool:=(c.at_ (fun x=>wrB x.op) a&&c.at_ (fun x=>wrB x.op) b)&&lcP c a b
theorem RnOk.c1 {ord:Cs->Rl} {r:Rn} (h:RnOk ord r):Wb_ (fun a b=>r.co a b&&!wwP r.c a b) 16=0:=Z9 (fun a b _ _=>by
 cases e:r.co a b with
 | false=>rfl
 | true =>
  obtain ⟨h1,h2,h3⟩:=h.co a b e
  have:wwP r.c a b=true:=by
   unfold wwP
   rw [h3,Bool.and_true,Bool.and_eq_true];exact ⟨h1,h2⟩
  rw [this];rfl) 16 (Nat.le_refl _)
theorem RnOk.c2 {ord:Cs->Rl} {r:Rn} (h:RnOk ord r):Wb_ (fun a b=>r.co a b&&!r.ah a b) 16=0:=Z9 (fun a b _ _=>by
 cases e:r.co a b with
 | false=>rfl
 | true=>rw [h.le a b e];rfl) 16 (Nat.le_refl _)
theorem RnOk.c3 {ord:Cs->Rl} {r:Rn} (h:RnOk ord r):Wb_ (fun a b=>ord r.c a b&&!r.ah a b) 16=0:=Z9 (fun a b _ _=>by
 cases e:ord r.c a b with
 | false=>rfl
 | true=>rw [h.kept a b e];rfl) 16 (Nat.le_refl _)
def zFj (p s:Int):Ins:={ op:=15,rd:=0,loc:=0,aR:=false,aN:=0,bR:=false,bN:=0,acq:=false,rel:=false,dep:=0,pred:=p,succ:=s,skip:=0 }
def zY9 (f:Bool) (i:Int):List Ins:=if i=0 then (if f then [Qe_ 0,zFj 2 2,Qe_ 1] else [Qe_ 0,Qe_ 1]) else (if f then [Qf_ 1,zFj 1 1,{ Qf_ 0 with rd:=1 }] else [Qf_ 1,{ Qf_ 0 with rd:=1 }])
def YF_ (f:Bool):Tst:={ locs:=zF0,ths:=[zY9 f 0,zY9 f 1],asks:=[] }
theorem zFk:passing=YF_ false:=rfl
theorem zLj (f:Bool):(YF_ f).cs=[.ro 2 (W7 zF0),.ro 1 (N3 (YF_ f).ths),.ro 3 []]:=rfl
def zFu (a b:Int):List Int:=4::([a,b,1,1]++List.replicate 36 0)
theorem JH_:I0 Q9 (YF_ false)=[zFu 0 0,zFu 0 1,zFu 1 0,zFu 1 1]:=by kernel_rfl
theorem JI_:I0 Q9 (YF_ true)=[zFu 0 0,zFu 0 1,zFu 1 1]:=by kernel_rfl
theorem XB_ (f:Bool):H5 (YF_ f)=0:=by
 cases f
 .kernel_rfl
 kernel_rfl
theorem zDx (f:Bool):Z4_ (YF_ f):=fun l hl x hx=>by
 cases f<;>simp only [YF_,zY9,mem_cons,not_mem_nil,or_false,Bool.false_eq_true,if_true,if_false] at hl<;>rcases hl with rfl|rfl<;>simp only [mem_cons,not_mem_nil,or_false,Int.reduceEq,if_false] at hx
 .rcases hx with rfl|rfl<;>exact ⟨by decide,by decide⟩
 .rcases hx with rfl|rfl<;>exact ⟨by decide,by decide⟩
 .rcases hx with rfl|rfl|rfl<;>exact ⟨by decide,by decide⟩
 rcases hx with rfl|rfl|rfl<;>exact ⟨by decide,by decide⟩
theorem zf0 (f:Bool):nO (YF_ f)<=6:=by cases f<;>decide
theorem zPs {r:Rn} {s:List (List Int)} (h:s.Nodup):(if r.st∈s then s else s++[r.st]).Nodup:=by
 split
 .exact h
 rename_i hn
 exact List.nodup_append.2 ⟨h,by simp,fun a ha b hb=>by cases List.mem_singleton.1 hb;exact fun e=>hn (e▸ha)⟩
theorem zLk:∀ (l:List Rn) (s:List (List Int)),s.Nodup->(l.foldl (fun s r=>if r.st∈s then s else s++[r.st]) s).Nodup
 | [],_,h=>h
 | r::l,s,h=>zLk l _ (zPs h)
theorem zDy (ord:Cs->Rl) (t:Tst):(I0 ord t).Nodup:=zLk _ [] nodup_nil
theorem u1 {ord:Cs->Rl} {t:Tst} (hs:SeaOk t):∀ q∈J4 (I0 ord t),q.length=41:=fun q hq=>by
 have h:=mem_setOf.1 hq
 have key:∀ (l:List Rn) (s:List (List Int)),(∀ r∈l,r.st.length=41)->(∀ q∈s,q.length=41)->∀ q∈l.foldl (fun s r=>if r.st∈s then s else s++[r.st]) s,q.length=41:=fun l=>by
  induction l with
  | nil=>exact fun s _ h=>h
  | cons r l ih =>
   intro s h1 h2
   refine ih _ (fun r' hr'=>h1 r' (.tail _ hr')) fun q hq=>?_
   dsimp only at hq
   split at hq
   .exact h2 q hq
   rcases List.mem_append.1 hq with hq|hq
   .exact h2 q hq
   rw [List.mem_singleton.1 hq];exact h1 r (.head _)
 exact key _ [] (zY7 hs) (fun q h=>nomatch h) q h
theorem Ud_:decide (zFu 1 0∈J4 (I0 Q9 (YF_ false)))=true:=by
 rw [decide_eq_true_eq,mem_setOf,JH_];exact .tail _ (.tail _ (.head _))
theorem zPt:decide (zFu 1 0∈J4 (I0 Q9 (YF_ true)))=false:=by
 rw [decide_eq_false_iff_not,mem_setOf,JI_];decide
theorem zf1 {ord:Cs->Rl} {t:Tst} {e:List Int}:e∈I0 ord t↔∃ r∈O8 ord t,r.st=e:=by
 have key:∀ (l:List Rn) (s:List (List Int)),e∈l.foldl (fun s r=>if r.st∈s then s else s++[r.st]) s↔e∈s\/∃ r∈l,r.st=e:=fun l=>by
  induction l with
  | nil=>intro s;simp
  | cons r l ih =>
   intro s
   rw [foldl_cons,ih]
   by_cases h:r.st∈s
   .rw [if_pos h]
    constructor
    .rintro (h1|⟨q,h1,h2⟩)
     .exact .inl h1
     exact .inr ⟨q,.tail _ h1,h2⟩
    rintro (h1|⟨q,h1,h2⟩)
    .exact .inl h1
    rcases List.mem_cons.1 h1 with rfl|h1
    .exact .inl (h2▸h)
    exact .inr ⟨q,h1,h2⟩
   rw [if_neg h]
   constructor
   .rintro (h1|⟨q,h1,h2⟩)
    .rcases List.mem_append.1 h1 with h1|h1
     .exact .inl h1
     exact .inr ⟨r,.head _,(List.mem_singleton.1 h1).symm⟩
    exact .inr ⟨q,.tail _ h1,h2⟩
   rintro (h1|⟨q,h1,h2⟩)
   .exact .inl (mem_append_left _ h1)
   rcases List.mem_cons.1 h1 with rfl|h1
   .exact .inl (mem_append_right _ (by rw [h2];simp))
   exact .inr ⟨q,h1,h2⟩
 have:=key (O8 ord t) []
 simpa [I0,zLs] using this
open Go.Proofs.Tryz
theorem U3 (ord:Cs->Rl) (t:Tst):(J4 (I0 ord t)).length=(I0 ord t).length:=Zk_ (zDy ord t)
theorem u2:(J4 (I0 Q9 (YF_ false))).length=4:=by rw [U3,JH_];rfl
theorem u3:(J4 (I0 Q9 (YF_ true))).length=3:=by rw [U3,JI_];rfl
theorem zDz (x:Ins):∀ v∈x.cs,v.one=true:=fun v hv=>by
 simp only [Ins.cs,mem_cons,not_mem_nil,or_false] at hv
 rcases hv with rfl|rfl|rfl|rfl|rfl|rfl|rfl|rfl|rfl|rfl|rfl|rfl|rfl<;>rfl
theorem zE0 (t:Tst) (h:H5 t=0) (hw:Z4_ t) (h6:nO t<=6):Pf Tryz.prog 34 [.rp t.cs 0] (.ro 41 (stR (J4 (I0 Q9 t)))) :=
 zAr t (f6 h hw) (fun ws fr h1 h2 h3 f h4=>JG_ (f6 h hw) (zB2 h) ws fr h1 h2 h3 f h4) (fun c hc=>zK8 c hc) (zY7 (f6 h hw)) (zRn _ _ h6)
theorem YZ_ (f:Bool):Pf Tryz.prog 85 [bV f] (.agg (YF_ f).cs):=by
 refine Pf.of_fz 3 (.cons (.val _) .nil) (.agg (YQ_ _)) ?_
 refine B7 T_ok func85 rfl rfl ntmps85 rfl (by simp) ?_
 refine rG ?_
 refine rK fun K hK=>?_
 simp [go_sem]
 refine A2 zEj ?_
 simp [go_sem,zFk,zLj]
 apply hK
 refine A3 fun K1 hK1=>?_
 refine rG ?_
 refine cJ (fun h=>?_) fun h=>?_
 .have hf:f=false:=h
  subst hf
  apply A1
  apply hK1
  refine rG ?_
  refine A4 ?_
  first|simp [go_sem,ha,hb,hc,hd,zY9,YF_,zF0,nmX,nmY,Qe_,Qf_,zFj,W7,Xa_,Ini.cs,N3,W0,B6,Ins.cs,Tst.cs,WR_]|simp [go_sem,zY9,YF_,zF0,nmX,nmY,Qe_,Qf_,zFj,W7,Xa_,Ini.cs,N3,W0,B6,Ins.cs,Tst.cs,WR_]
 have hf:f=true:=h
 subst hf
 clear h
 obtain ⟨a,ha⟩:∃ a,a=Qe_ 0:=⟨_,rfl⟩
 obtain ⟨b,hb⟩:∃ b,b=Qe_ 1:=⟨_,rfl⟩
 obtain ⟨c,hc⟩:∃ c,c=Qf_ 1:=⟨_,rfl⟩
 obtain ⟨d,hd⟩:∃ d,d=({ Qf_ 0 with rd:=1 }:Ins):=⟨_,rfl⟩
 have e0:∀ h,(YF_ false).ths[0]'h=[a,b]:=fun _=>by rw [ha,hb];rfl
 have e1:∀ h,(YF_ false).ths[1]'h=[c,d]:=fun _=>by rw [hc,hd];rfl
 have g0:(YF_ false).ths[0]?=some [a,b]:=by rw [ha,hb];rfl
 have g1:(YF_ false).ths[1]?=some [c,d]:=by rw [hc,hd];rfl
 have gl:(YF_ false).ths.length=2:=rfl
 refine X4 T_ok (by kernel_rfl) 28 [[],[0],[0,1],[0,1,2],[0,1,2,3],[0,1,2,3,4],[],[],[7],[7,8],[7,8,9],[7,8,9,10],[7,8,9,10,11],[0,1,2,3,4,5,6,7,8,9,10,11,12],[],[14],[14,15],[14,15,16],[14,15,16,17],[14,15,16,17,18],[],[],[21],[21,22],[21,22,23],[21,22,23,24],[21,22,23,24,25],[14,15,16,17,18,19,20,21,22,23,24,25,26],[0,1,2,3,4,5,6,7,8,9,10,11,12,13,14,15,16,17,18,19,20,21,22,23,24,25,26,27],[0,1,2,3,4,5,6,7,8,9,10,11,12,13,14,15,16,17,18,19,20,21,22,23,24,25,26,27,28],[0,1,2,3,4,5,6,7,8,9,10,11,12,13,14,15,16,17,18,19,20,21,22,23,24,25,26,27,28,29]] [(13,14),(13,15),(13,16),(13,17),(13,18),(13,19),(13,20),(13,21),(13,22),(13,23),(13,24),(13,25),(13,26),(0,27),(1,27),(2,27),(3,27),(4,27),(5,27),(6,27),(7,27),(8,27),(9,27),(10,27),(11,27),(12,27),(13,27)] (by decide) (by decide) (by decide) fun K hK=>?_
 first|dsimp only [List.take,List.drop]|dsimp [List.take,List.drop]
 simp [go_sem,e0,e1,g0,g1,gl,B6,W0,zHb,zBs]
 refine ⟨⟨zDz a,zDz b⟩,⟨zDz c,zDz d⟩,?_⟩
 apply hK
 apply hK1
 refine rG ?_
 refine A4 ?_
 first|simp [go_sem,ha,hb,hc,hd,zY9,YF_,zF0,nmX,nmY,Qe_,Qf_,zFj,W7,Xa_,Ini.cs,N3,W0,B6,Ins.cs,Tst.cs,WR_]|simp [go_sem,zY9,YF_,zF0,nmX,nmY,Qe_,Qf_,zFj,W7,Xa_,Ini.cs,N3,W0,B6,Ins.cs,Tst.cs,WR_]
theorem VU_ :Pf Tryz.prog 67 [.ro 1 [uV 1,uV 0,uV 1,uV 1]] (.agg (stK (zFu 1 0))):=by
 refine Pf.of_fn (.cons (.ro (fun v hv=>by simp only [mem_cons,not_mem_nil,or_false] at hv;rcases hv with rfl|rfl|rfl|rfl<;>exact .cons (.val _) .nil)) .nil) (.agg (W7_ _)) ?_
 refine B7 T_ok func67 rfl rfl ntmps67 rfl (by simp) ?_
 refine rG ?_
 refine rG ?_
 refine rG ?_
 refine rG ?_
 refine A4 ?_
 simp [go_sem]
 rfl
theorem y8 :Pf Tryz.prog 33 [] (bV true):=by
 refine Pf.of_fn .nil (.val _) ?_
 refine B7 T_ok func33 rfl rfl ntmps33 rfl (by simp) ?_
 refine rG ?_
 refine rK fun K hK=>?_
 simp [go_sem]
 refine A2 (YZ_ false) ?_
 simp [go_sem]
 refine A2 (YZ_ true) ?_
 simp [go_sem,zLj]
 apply hK
 refine Tr.weaken (Weaker.fz (t':=[(1,.rp (YF_ false).cs 0),(2,.rp (YF_ true).cs 0)]) (H':=[]) 1 0 (by simp [go_sem,zLj]) (by simp) (by simp)) ?_
 refine rK fun K hK=>?_
 simp [go_sem]
 refine A2 (zE0 (YF_ false) (XB_ _) (zDx _) (zf0 _)) ?_
 simp [go_sem]
 refine A2 (zE0 (YF_ true) (XB_ _) (zDx _) (zf0 _)) ?_
 simp [go_sem]
 apply hK
 refine rK fun K hK=>?_
 simp [go_sem,u2,u3]
 refine r7 VU_ (r6 (S5 _)) 2 (by simp [go_sem]) ?_
 simp [go_sem,u2,u3]
 refine A2 (Qp_ _ (u1 (f6 (XB_ false) (zDx false))) (H6 _) (by rw [u2];decide) (zFu 1 0) rfl) ?_
 simp [go_sem,u2,u3,Ud_]
 refine r7 VU_ (r6 (S5 _)) 2 (by simp [go_sem]) ?_
 simp [go_sem,u2,u3,Ud_]
 refine A2 (Qp_ _ (u1 (f6 (XB_ true) (zDx true))) (H6 _) (by rw [u3];decide) (zFu 1 0) rfl) ?_
 simp [go_sem,u2,u3,Ud_,zPt]
 apply hK
 refine A4 ?_
 simp [go_sem]
theorem zPu (c:Cs):Pf Tryz.prog 43 [.agg (B5 fun a b=>c.at_ (fun x=>wrB x.op) a&&c.at_ (fun x=>wrB x.op) b),.agg (B5 (lcP c))] (.agg (B5 (wwP c))):=J7 _ _
theorem zk8 {r:Rn}:E5 true 16 (rnC r) 1=.agg (B5 r.co):=by
 have e:E5 true 16 (rnC r) 1=.agg (((rnC r).drop 1).take 16):=rfl
 rw [e]
 unfold rnC
 rw [drop_succ_cons,drop_zero,take_left' (by simp [B5])]
theorem zk9 {r:Rn}:E5 true 16 (rnC r) 17=.agg (B5 r.ah):=by
 have e:E5 true 16 (rnC r) 17=.agg (((rnC r).drop 17).take 16):=rfl
 rw [e]
 unfold rnC
 rw [show (17:Nat)=16+1 from rfl,drop_succ_cons,drop_left' (by simp [B5]),take_left' (by simp [B5])]
def runH (p m q:Nat) (l:List (List Int)):A7:=[(p,.rows 1 [.map m]),(m,.map (M4 l)),(q,.rows 1 [bV true])]
theorem zYa (r:Rn) (h41:r.st.length=41) (hc:CsOk r.c) (hr:RnOk Q9 r) (l:List (List Int)) (hl:∀ q∈l,q.length=41) (p m q j:Nat) (hpm:¬ p=m) (hpq:¬ p=q) (hmq:¬ m=q) (hpj:p<j) (hmj:m<j) (hqj:q<j):Sl.Fn Tryz.prog 39 [.agg (rnC r),.ptr p 0 0,.ptr q 0 0] (runH p m q l) j fun v H _=>v=.tup []/\H=runH p m q (if r.st∈l then l else l++[r.st]):=by
 refine Fn.view ?_
 have he:E3 [EK.int,EK.int,EK.int,EK.int,EK.int,EK.int,EK.int,EK.int,EK.int,EK.int,EK.int,EK.int,EK.int,EK.int,EK.int,EK.int,EK.int,EK.int,EK.int,EK.int,EK.int,EK.int,EK.int,EK.int,EK.int,EK.int,EK.int,EK.int,EK.int,EK.int,EK.int,EK.int,EK.int,EK.int,EK.int,EK.int,EK.int,EK.int,EK.int,EK.int,EK.int] (stK r.st) (stK r.st)=_:=QU_ h41 h41
 have hi:Us_ [EK.int,EK.int,EK.int,EK.int,EK.int,EK.int,EK.int,EK.int,EK.int,EK.int,EK.int,EK.int,EK.int,EK.int,EK.int,EK.int,EK.int,EK.int,EK.int,EK.int,EK.int,EK.int,EK.int,EK.int,EK.int,EK.int,EK.int,EK.int,EK.int,EK.int,EK.int,EK.int,EK.int,EK.int,EK.int,EK.int,EK.int,EK.int,EK.int,EK.int,EK.int] (stK r.st) (bV true) (M4 l)=_:=Y2_ h41 hl
 have g150:¬ p=m/\¬ m=p/\¬ p=q/\¬ q=p/\¬ m=q/\¬ q=m/\¬ p=j/\¬ j=p/\¬ m=j/\¬ j=m/\¬ q=j/\¬ j=q:=by and_intros<;>omega
 have hn8:=hc.n8
 have hfl:=hc.frl
 have k1:=hr.c1
 have k2:=hr.c2
 have k3:=hr.c3
 have k4:=hr.lp
 have q0:E5 false 1 (rnC r) 0=.rp r.c.cs 0:=rfl
 have q1:E5 true 16 (rnC r) 1=.agg (B5 r.co):=zk8
 have q2:E5 true 16 (rnC r) 17=.agg (B5 r.ah):=zk9
 refine B7 T_ok func39 rfl rfl ntmps39 rfl (by simp) ?_
 refine rG ?_ fun K h=>by simp [go_sem,P2 h41,M7 h41];exact h
 refine rG ?_ fun K h=>by simp [go_sem,runH,P2 h41,M7 h41,zee h41,he,hi,g150];exact h
 refine rG ?_ fun K h=>by simp [go_sem,P2 h41,q0,g150];exact h
 refine rK fun K hK=>?_
 simp [go_sem]
 refine A2 (U2 r.c hc) ?_
 simp [go_sem]
 apply hK
 refine dK 28 [[],[0],[0,1],[0,1,2],[0,1],[0,1],[0,1,4,5],[0,1],[0,1,4,5,6,7],[0,1,4,5,6,7,8],[0,1,2,3,4,5,6,7,8,9],[0,1,2,3,4,5,6,7,8,9,10],[0,1,2,3,4,5,6,7,8,9,10,11],[0,1,2,3,4,5,6,7,8,9,10,11,12],[0,1,2,3,4,5,6,7,8,9,10,11,12,13],[0,1,2,3,4,5,6,7,8,9,10,11,12,13,14],[0,1,2,3,4,5,6,7,8,9,10,11,12,13,14,15],[0,1,2,3,4,5,6,7,8,9,10,11,12,13,14],[0,1,2,3,4,5,6,7,8,9,10,11,12,13,14,17],[0,1,2,3,4,5,6,7,8,9,10,11,12,13,14,15,16,17,18],[0,1,2,3,4,5,6,7,8,9,10,11,12,13,14,15,16,17,18,19],[0,1,2,3,4,5,6,7,8,9,10,11,12,13,14,15,16,17,18,19,20],[0,1,2,3,4,5,6,7,8,9,10,11,12,13,14,15,16,17,18,19,20,21],[0,1,2,3,4,5,6,7,8,9,10,11,12,13,14,15,16,17,18,19,20,21,22],[0,1,2,3,4,5,6,7,8,9,10,11,12,13,14,15,16,17,18,19,20,21,22,23],[0,1,2,3,4,5,6,7,8,9,10,11,12,13,14,15,16,17,18,19,20,21,22,23,24],[0,1,2,3,4,5,6,7,8,9,10,11,12,13,14,15,16,17,18,19,20,21,22,23],[0,1,2,3,4,5,6,7,8,9,10,11,12,13,14,15,16,17,18,19,20,21,22,23,26],[0,1,2,3,4,5,6,7,8,9,10,11,12,13,14,15,16,17,18,19,20,21,22,23,24,25,26,27],[0,1,2,3,4,5,6,7,8,9,10,11,12,13,14,15,16,17,18,19,20,21,22,23,24,25,26,27,28],[0,1,2,3,4,5,6,7,8,9,10,11,12,13,14,15,16,17,18,19,20,21,22,23,24,25,26,27,28,29],[0,1,2,3,4,5,6,7,8,9,10,11,12,13,14,15,16,17,18,19,20,21,22,23,24,25,26,27,28,29,30],[0,1,2,3,4,5,6,7,8,9,10,11,12,13,14,15,16,17,18,19,20,21,22,23,24,25,26,27,28,29,30,31],[0,1,2,3,4,5,6,7,8,9,10,11,12,13,14,15,16,17,18,19,20,21,22,23,24,25,26,27,28,29,30,31,32],[0,1,2,3,4,5,6,7,8,9,10,11,12,13,14,15,16,17,18,19,20,21,22,23,24,25,26,27,28,29,30,31,32,33],[0,1,2,3,4,5,6,7,8,9,10,11,12,13,14,15,16,17,18,19,20,21,22,23,24,25,26,27,28,29,30,31,32,33,34],[0,1,2,3,4,5,6,7,8,9,10,11,12,13,14,15,16,17,18,19,20,21,22,23,24,25,26,27,28,29,30,31,32,33,34,35],[0,1,2,3,4,5,6,7,8,9,10,11,12,13,14,15,16,17,18,19,20,21,22,23,24,25,26,27,28,29,30,31,32,33,34,35,36],[0,1,2,3,4,5,6,7,8,9,10,11,12,13,14,15,16,17,18,19,20,21,22,23,24,25,26,27,28,29,30,31,32,33,34,35,36,37]] fun K hK=>?_
 first|dsimp only [List.take,List.drop]|dsimp [List.take,List.drop]
 simp [go_sem,P2 h41,q1,q2,g150]
 refine A5 (G8 _ _) ?_
 simp [go_sem,g150,P2 h41,M7 h41]
 refine A5 (zD3 r.c hc) ?_
 simp [go_sem,g150,P2 h41,M7 h41]
 refine A5 (zPu r.c) ?_
 simp [go_sem,g150,P2 h41,M7 h41]
 refine A5 (Xf_ _ _) ?_
 simp [go_sem,g150,P2 h41,M7 h41]
 refine A5 (X9 _) ?_
 simp [go_sem,g150,P2 h41,M7 h41,k1]
 refine A5 (Xf_ _ _) ?_
 simp [go_sem,g150,P2 h41,M7 h41]
 refine A5 (X9 _) ?_
 simp [go_sem,g150,P2 h41,M7 h41,k2]
 refine A5 (zK8 r.c hc) ?_
 simp [go_sem,g150,P2 h41,M7 h41]
 refine A2 (Xf_ _ _) ?_
 simp [go_sem,g150,P2 h41,M7 h41]
 refine A2 (X9 _) ?_
 simp [go_sem,g150,P2 h41,M7 h41,k3]
 refine A2 (Xh_ _) ?_
 simp [go_sem,g150,P2 h41,M7 h41,k4]
 apply hK
 refine rG ?_ fun K h=>by simp [go_sem,Cs.cs];exact h
 apply A0
 refine A9 (α:=Nat × Nat) (fun a=>⟨89,[(1,.ptr p 0 0),(2,.ptr q 0 0),(4,.rp r.c.cs 0),(5,.val (.int .u16 (D7 (r.c.at_ fun x=>wrB x.op)))),(56,.ro 1 (iVs r.c.fr)),(57,iV (r.c.n:Nat)),(58,iV (a.1:Nat))],[(p,.rows 1 [.map m]),(m,.map (M4 (if r.st∈l then l else l++[r.st]))),(q,.rows 1 [bV true])],a.2⟩) (fun a=>a.1<=r.c.n/\j<a.2) (fun a=>r.c.n-a.1) (0,j+200) ?_ ?_ ?_
 .exact ⟨Nat.zero_le _,by dsimp only;omega⟩
 .refine Weaker.fy 1 0 ?_ ?_
  .simp [go_sem,Cs.cs,hfl]
  simp [go_sem,g150]
 rintro ⟨i,jj⟩ ⟨hi,hjj⟩
 dsimp only at hi hjj ⊢
 refine rG ?_
 refine A3 fun K1 hK1=>?_
 refine cJ (fun h=>?_) fun h=>?_
 .simp at h
  obtain rfl:i=r.c.n:=by omega
  clear h
  apply A6
  refine ⟨.inl rfl,?_⟩
  simp [go_sem]
  first
  | exact ⟨_,_,View.tail [] _ _,rfl,rfl⟩
  | exact ⟨_,_,View.tail [_] _ _,rfl,rfl⟩
  | exact ⟨_,_,View.tail [_,_] _ _,rfl,rfl⟩
 simp at h
 have hin:i<r.c.n:=by omega
 clear h
 have hwi:=wI i
 have hi16:i<16:=by omega
 have g151:(i:Int)<16/\i<=15/\(0:Int)<=(i:Nat)/\(i:Int)<(r.c.fr.length:Nat):=by and_intros<;>omega
 have hiF:i<r.c.fr.length:=by omega
 obtain ⟨x,hx,hx'⟩:=E0 hiF
 have hxr:=hc.fr1 i x hx
 apply A1
 apply hK1
 refine A3 fun K2 hK2=>?_
 apply A0
 refine rG ?_ fun K h=>by simp [go_sem,hiF,g151,hx,hx'];exact h
 refine D8 T_ok (by decide) ⟨89,[(1,.ptr p 0 0),(2,.ptr q 0 0),(4,.rp r.c.cs 0),(5,.val (.int .u16 (D7 (r.c.at_ fun x=>wrB x.op)))),(56,.ro 1 (iVs r.c.fr)),(57,iV (r.c.n:Nat)),(58,iV (i:Nat)),(6,iV (i:Nat)),(7,iV x),(87,bV false)],[(p,.rows 1 [.map m]),(m,.map (M4 (if r.st∈l then l else l++[r.st]))),(q,.rows 1 [bV true])],jj⟩ ?_ ?_
 .by_cases c1:0<=x
  .obtain ⟨y,rfl⟩:=Int.eq_ofNat_of_zero_le (show 0<=x by omega)
   have hy16:y<16:=by omega
   have g152:(y:Int)<16/\y<=15/\(0:Int)<=(y:Nat):=by and_intros<;>omega
   obtain ⟨g1,g2,g3,g4⟩:=hr.fr i y hx
   have g5:r.c.at_ (fun x=>wrB x.op) y=true:=g2
   simp [go_sem,c1,hi16,g151,B8 hi16]
   refine A2 (WC_ r.c hc) ?_
   simp [go_sem,g1,g5,hy16,g152,B8 hy16,hi16,g151,B8 hi16]
   refine A2 (zD3 r.c hc) ?_
   simp [go_sem,g1,g5]
   refine A2 (n7 _ y hy16 _) ?_
   simp [go_sem,g3,g151]
   refine Weaker.fw 1 0 ?_ ?_<;>simp [go_sem,c1,g150]
  simp [go_sem,c1,hi16,g151,B8 hi16]
  refine Weaker.fw 1 0 ?_ ?_<;>simp [go_sem,c1,g150]
 skip
 refine cK (fun h=>?_) fun h=>?_
 .simp at h
 clear h
 apply A1
 apply hK2
 refine rF ?_ fun K h=>by simp [go_sem,hwi];exact h
 refine ⟨(i+1,jj),?_,?_,?_⟩
 .exact ⟨by dsimp only;omega,by dsimp only;omega⟩
 .dsimp only;omega
 refine Weaker.fy 1 0 ?_ ?_
 .simp [go_sem]
 simp [go_sem,g150]
theorem zYb (T:Tst) (n:Int):o9 T n=0\/(o9 T n=1/\H5 T=0/\(nO T:Int)<=n):=by
 unfold o9
 by_cases h:H5 T=0
 .rw [zRm]
  by_cases h2:n<(Zi_ T:Int)
  .simp [h,h2]
  right;refine ⟨by simp [h,h2],h,by omega⟩
 simp [h]
theorem zYc (p m q j0:Nat) (hpm:¬ p=m) (hpq:¬ p=q) (hmq:¬ m=q) (hp:p<j0) (hm:m<j0) (hq:q<j0):VisOk (fun r=>r.st.length=41/\RnOk Q9 r) (runH p m q) zRc (fun l=>∀ q∈l,q.length=41) 39 [.ptr p 0 0,.ptr q 0 0] j0 where
 call:=fun s r j hs hr hc _ hj=>zYa r hr.1 hc hr.2 s hs p m q j hpm hpq hmq (by omega) (by omega) (by omega)
 okS:=fun s r hs hr=>by
  unfold zRc
  split
  .exact hs
  intro q hm
  rcases List.mem_append.1 hm with hm|hm
  .exact hs q hm
  cases List.mem_singleton.1 hm;exact hr.1
 names:=fun s _ x hx=>by
  rcases List.mem_cons.1 hx with rfl|hx
  .exact hp
  rcases List.mem_cons.1 hx with rfl|hx
  .exact hm
  cases List.mem_singleton.1 hx;exact hq
 plain:=fun s _=>by
  have h:(M4 s).all (fun p=>p.1.pureE&&p.2.pureE)=true:=by
   rw [all_eq_true]
   intro q hq
   obtain ⟨k,_,rfl⟩:=List.mem_map.1 hq
   have h2:(stK k).all V.pure1=true:=by
    rw [all_eq_true];intro v hv;obtain ⟨x,rfl⟩:=S5 _ _ hv;rfl
   show ((stK k).all V.pure1&&true)=true
   rw [h2];rfl
  have h2:zC2 (.map (M4 s))=true:=h
  unfold zC3 runH
  rw [List.all_cons,List.all_cons,h2]
  rfl
 still:=fun s _ d S H x hx=>by
  rcases List.mem_cons.1 hx with rfl|hx
  .cases d<;>rfl
  rcases List.mem_cons.1 hx with rfl|hx
  .rfl
  cases List.mem_singleton.1 hx;cases d<;>rfl
theorem sub_self (A:List (List Int)):decide (∀ x∈A,x∈A)=true:=by rw [decide_eq_true_eq];exact fun x h=>h
theorem JJ_ (t:Tst) (hs:∀ l∈t.locs,l.name.size<=9223372036854775807) (hwf:Z4_ t):Pf Tryz.prog 9 [.agg t.cs] (bV true):=by
 refine Pf.of_fn (.cons (.agg (YQ_ t)) .nil) (.val _) ?_
 have hnm:∀ l∈(few t).locs,l.name.size<=1000000:=zWk
 have hfew:=zce t hs
 have hwT:=zcz hwf
 obtain ⟨T,hT⟩:∃ T,few t=T:=⟨_,rfl⟩
 rw [hT] at hnm hfew hwT
 have hcl:T.cs.length=3:=rfl
 have hct:List.take 3 T.cs=T.cs:=rfl
 refine B7 T_ok func9 rfl rfl ntmps9 rfl (by simp) ?_
 refine rG ?_ fun K h=>by simp [go_sem,Tst.cs];exact h
 refine rK fun K hK=>?_
 simp [go_sem,Tst.cs]
 refine A2 (hfew) ?_
 simp [go_sem,Tst.cs]
 apply hK
 refine A3 fun K1 hK1=>?_
 refine Tr.weaken (Weaker.fz (H':=[]) (t':=[(1,.rp T.cs 0)]) 1 0 ?_ ?_ ?_) ?_
 .simp [go_sem,Tst.cs]
 .simp
 .simp
 refine rK fun K hK=>?_
 simp [go_sem]
 refine A2 (y8) ?_
 simp [go_sem,hcl,hct]
 refine A2 (zD0 T hnm 4) ?_
 simp [go_sem]
 rcases zYb T 4 with hz|⟨hz,hc,hm⟩
 .simp [go_sem,hz]
  apply hK
  refine cJ (fun h=>?_) fun h=>?_
  .simp at h
  clear h
  refine rK fun K hK=>?_
  simp [go_sem]
  refine A2 (y8) ?_
  simp [go_sem]
  apply hK
  refine A4 ?_
  simp [go_sem]
 simp [go_sem,hz]
 apply hK
 refine cK (fun h=>?_) fun h=>?_
 .simp at h
 clear h
 apply A1
 apply hK1
 have hsea:=f6 hc hwT
 have htg:=zB2 hc
 have hrf:=fun ord=>zRn ord T (by omega:nO T<=6)
 have hQ:∀ r∈O8 Q9 T,r.st.length=41/\RnOk Q9 r:=fun r hr=>⟨zY7 hsea r hr,zY8 hr⟩
 have hE1:=zKm fun r hr=>(hQ r hr).1
 have hE2:=VN_ (O8 Q9 T)
 have hb:(zLs (O8 Q9 T)).length<=400000000000:=hrf Q9
 have hEE:J4 (zLs (O8 Q9 T))=J4 (I0 Q9 T):=rfl
 refine rG ?_
 refine rG ?_
 refine rK fun K hK=>?_
 simp [go_sem]
 refine Q7 (A:=[]) (G:=runH 3 2 1 []) (zKl (zYc 3 2 1 4 (by decide) (by decide) (by decide) (by decide) (by decide) (by decide)) T hsea (fun ws fr h1 h2 h3 f h4=>JG_ hsea htg ws fr h1 h2 h3 f h4) _ Q9 (fun c hc=>zK8 c hc) hQ [] (fun q h=>nomatch h) 4 (Nat.le_refl _)) fun k2 hk2=>?_
 rw [Q1_,show zLs (O8 Q9 T)=I0 Q9 T from rfl]
 simp [go_sem,runH]
 apply hK
 refine dK 2 [[],[],[0,1],[0,1,2],[0,1,2,3]] fun K hK=>?_
 first|dsimp only [List.take,List.drop]|dsimp [List.take,List.drop]
 simp [go_sem]
 refine A5 (zE0 T hc hwT (by omega)) ?_
 simp [go_sem]
 refine Jg_ ((of_fn (I0 Q9 T) hE1 hE2 hb 2 (k2+2) (by omega)).frame (G:=[_,_]) (List.Perm.swap _ _ _) ?_)
 rintro v H' k' hk' ⟨rfl,rfl⟩
 simp [go_sem]
 apply hK
 refine rK fun K hK=>?_
 simp [go_sem]
 refine A2 (y8) ?_
 simp [go_sem]
 refine A2 (Qq_ _ (u1 hsea) (by rw [U3];exact hrf Q9) _ (u1 hsea) (H6 _) (by rw [U3];exact hrf Q9)) ?_
 simp [go_sem,sub_self]
 refine A2 (Qq_ _ (u1 hsea) (by rw [U3];exact hrf Q9) _ (u1 hsea) (H6 _) (by rw [U3];exact hrf Q9)) ?_
 simp [go_sem,sub_self]
 apply hK
 refine A4 ?_
 simp [go_sem]
theorem zLl {t:Tst} {ord:Cs->Rl} (ht:TG t) (hb:TB t) (ho:OrdOk t ord) {e:List Int}:e∈I0 ord t↔∃ w pos,OrdE ord t w pos/\(∀ k,w.getD k false=true->(opX t k).op=14)/\e=Z1 t w pos:=by
 rw [zf1]
 constructor
 .rintro ⟨r,hr,rfl⟩
  obtain ⟨w,pos,h1,_,h3,h4,_⟩:=G2 ht hb ho hr
  exact ⟨w,pos,h1,h3,h4.symm⟩
 rintro ⟨w,pos,h1,h3,rfl⟩
 exact G1 ht hb ho h1 h3
section
variable {t:Tst} {w w':List Bool} {pos:Nat->Nat}
structure Al (t:Tst):Prop where
 ht:TG t
 hb:TB t
 one:t.ths.length=1
 np:∀ k,k<nO t->(opX t k).op≠14
theorem Al.th (h:Al t) {k:Nat} (hk:k<nO t):G5 t k=0:=by
 have:=(Q4 hk).2.2.2
 have:=h.one
 omega
theorem Al.lt (h:Al t) {a b:Nat} (ha:a<nO t) (hb:b<nO t):a<b↔opAt t a<opAt t b:=UT_ hb ha ((h.th ha).trans (h.th hb).symm)
theorem Al.known (h:Al t):∀ b,b<=(lth t 0).length->(F1 t (U4 t w id) w 0 b).2=true/\∀ k,k<nO t->opAt t k<b->rdB (opX t k).op=true->(D6 t w id k).st=1->((U4 t w id).getD k zV).k=true
 | 0,_=>⟨rfl,fun k _ hk=>absurd hk (Nat.not_lt_zero _)⟩
 | b+1,hb=>by
  obtain ⟨h1,h2⟩:=h.known b (by omega)
  have hx:=List.getElem?_eq_getElem (show b<(lth t 0).length by omega)
  have hkin:=t7 (works:=w) h.ht b h1
  have hbt:=WJ_ (works:=w) h.ht b h1
  have hkn:∀ q,G5 t q=0/\opAt t q<b/\q<nO t/\(fxO t (U4 t w id) w q).st=1->(rdB (opX t q).op=true->((U4 t w id).getD q zV).k=true):=fun q hq hr=>h2 q hq.2.2.1 hq.2.1 hr hq.2.2.2
  refine ⟨?_,fun k hk hlt hr hs=>?_⟩
  .rw [G0 hx,if_pos h1]
   have hbr:brK (F1 t (U4 t w id) w 0 b).1.w (lth t 0)[b]=true:=by
    unfold brK
    rw [Bool.and_eq_true]
    exact ⟨hkin.arg fun q hq=>hkn q (hbt.arg _ _ q hq),hkin.arg fun q hq=>hkn q (hbt.arg _ _ q hq)⟩
   show goB _ _=true
   unfold goB
   rw [hbr];simp
  by_cases e:opAt t k<b
  .exact h2 k hk e hr hs
  have hnx:(nxO t id (D6 t w id) k).k=true:=by
   unfold nxO
   have hcan:∀ i,i<nO t->Wf_ t id k i=true->i<k/\wrB (opX t i).op=true:=fun i hi hc=>by
    unfold Wf_ poA id at hc
    simp only [Bool.and_eq_true,Bool.or_eq_true,Bool.not_eq_true',decide_eq_true_eq,decide_eq_false_iff_not] at hc
    exact ⟨by omega,hc.2.1⟩
   have hd:Q6_ t id (D6 t w id) k=true:=u0.2 fun i hi hc=>by
    have:=(h.lt hi hk).1 (hcan i hi hc).1
    refine (O6 hi).2 ?_
    rw [h.th hi]
    exact UR_ (by omega) h1
   rw [if_pos (show (rdB (opX t k).op&&Q6_ t id (D6 t w id) k)=true by rw [hr,hd];rfl)]
   split
   .rfl
   rename_i hL
   obtain ⟨s1,s2,s3,s4⟩:=(G7 (t:=t) (pos:=id) (f:=D6 t w id) (k:=k) (nO t)).2 hL
   obtain ⟨c1,c2⟩:=hcan _ s1 s2
   have hlt2:=(h.lt s1 hk).1 c1
   refine Zr_ h.ht s1 c2 s3 (fun q hq hqr=>?_) fun _ hir=>h2 _ s1 (by omega) hir s3
   obtain ⟨v1,v2,v3,v4⟩:=y7 h.ht s1 s3 hq
   exact h2 q v3 (by omega) hqr v4
  have e:(itR t w (nxN t id) (nO t+1)).getD k zV=nxO t id (D6 t w id) k:=I1 hk
  have hs2:=t8 (t:=t) (w:=w) (N:=nxN t id) k
  rw [e] at hs2
  show ((itR t w (nxN t id) (nO t)).getD k zV).k=true
  rw [<-hs2 hnx];exact hnx
theorem Al.whole (h:Al t):(flO t w id).whole=true:=by
 refine (s9 t (U4 t w id) w).2 fun i hi=>?_
 have:=h.one
 obtain rfl:i=0:=by omega
 obtain ⟨h1,h2⟩:=h.known (w:=w) _ (Nat.le_refl _)
 refine ⟨h1,?_⟩
 unfold zYy
 rw [all_eq_true]
 intro r _
 refine t7 (works:=w) h.ht _ h1 r fun q hq hr=>?_
 obtain ⟨_,b2,b3,b4⟩:=(WJ_ (works:=w) h.ht _ h1).hangs r q hq
 exact h2 q b3 b2 hr b4
theorem Al.ordE (h:Al t):OrdE Q9 t w id where
 inj a b _ _ e:=e
 whole:=h.whole
 kept a b _ _ hk:=by
  unfold Q9 at hk
  exact (O7 (Bool.and_eq_true_iff.1 hk).2).1
 par k hk h14:=absurd h14 (h.np k hk)
theorem Al.locs (h:Al t) (hE:OrdE Q9 t w pos) {a b:Nat} (hlt:a<b) (ha:(D6 t w pos a).st=1) (hb:(D6 t w pos b).st=1) (hw:wrB (opX t b).op=true) (hl:(opX t a).loc=(opX t b).loc):pos a<pos b:=by
 have han:=run_lt ha
 have hbn:=run_lt hb
 exact hE.kept a b han hbn ((Ua_ h.hb.n16).loc (csO t w pos) rfl (Q1 t (U4 t w pos) w) a b (JA_.2 ⟨hlt,hbn,(h.th han).trans (h.th hbn).symm,ha,hb⟩) hl (p9.2 ⟨hb,hw⟩))
theorem Al.can (h:Al t) (hE:OrdE Q9 t w pos) {k i:Nat} (hk:(D6 t w pos k).st=1) (hi:(D6 t w pos i).st=1):Wf_ t pos k i=true↔i<k/\wrB (opX t i).op=true/\(opX t i).loc=(opX t k).loc:=by
 have hkn:=run_lt hk
 have hin:=run_lt hi
 constructor
 .intro hc
  obtain ⟨c1,c2,c3,c4⟩:=L4 hE.inj hkn hin hc
  refine ⟨?_,c2,c3⟩
  rcases c4 with c4|c4
  .rcases Nat.lt_or_ge i k with h1|h1
   .exact h1
   have:=h.locs hE (show k<i by omega) hk hi c2 c3.symm;omega
  exact c4.2
 rintro ⟨h1,h2,h3⟩
 exact zDv (by omega) h2 h3 (.inr ⟨(h.th hin).trans (h.th hkn).symm,h1⟩)
theorem Al.lst (h : Al t) (hE : OrdE Q9 t w pos) (hE' : OrdE Q9 t w' id) {k : Nat} (hk : (D6 t w pos k).st = 1) (hk' : (D6 t w' id k).st = 1) (hf : ∀ i, i < k → D6 t w pos i = D6 t w' id i) :
    H3 t pos (D6 t w pos) k (nO t)=H3 t id (D6 t w' id) k (nO t):=by
  obtain ⟨a1,a2⟩:=G7 (t:=t) (pos:=pos) (f:=D6 t w pos) (k:=k) (nO t)
  obtain ⟨b1,b2⟩:=G7 (t:=t) (pos:=id) (f:=D6 t w' id) (k:=k) (nO t)
  by_cases hA:H3 t pos (D6 t w pos) k (nO t)=0
  . by_cases hB:H3 t id (D6 t w' id) k (nO t)=0
    . rw [hA,hB]
    obtain ⟨s1,s2,s3,s4⟩:=b2 hB
    obtain ⟨c1,c2,c3⟩:=(h.can hE' hk' s3).1 s2
    have hs:(D6 t w pos (H3 t id (D6 t w' id) k (nO t)-1)).st=1:=by rw [hf _ c1];exact s3
    exact absurd ⟨(h.can hE hk hs).2 ⟨c1,c2,c3⟩,hs⟩ (a1 hA _ s1)
  obtain ⟨r1,r2,r3,r4⟩:=a2 hA
  obtain ⟨d1,d2,d3⟩:=(h.can hE hk r3).1 r2
  have hr:(D6 t w' id (H3 t pos (D6 t w pos) k (nO t)-1)).st=1:=by rw [<-hf _ d1];exact r3
  have hcr:=(h.can hE' hk' hr).2 ⟨d1,d2,d3⟩
  by_cases hB:H3 t id (D6 t w' id) k (nO t)=0
  . exact absurd ⟨hcr,hr⟩ (b1 hB _ r1)
  obtain ⟨s1,s2,s3,s4⟩:=b2 hB
  obtain ⟨c1,c2,c3⟩:=(h.can hE' hk' s3).1 s2
  have hs:(D6 t w pos (H3 t id (D6 t w' id) k (nO t)-1)).st=1:=by rw [hf _ c1];exact s3
  have hcs:=(h.can hE hk hs).2 ⟨c1,c2,c3⟩
  have g1:=s4 _ r1 hcr hr
  have g2:=r4 _ s1 hcs hs
  replace g1:H3 t pos (D6 t w pos) k (nO t)-1<=H3 t id (D6 t w' id) k (nO t)-1:=g1
  rcases Nat.lt_trichotomy (H3 t pos (D6 t w pos) k (nO t)-1) (H3 t id (D6 t w' id) k (nO t)-1) with e|e|e
  . have:=h.locs hE e r3 hs c2 (d3.trans c3.symm);omega
  . omega
  exact absurd g1 (by omega)
theorem zRo (h:Al t) (hE:OrdE Q9 t w pos) {k:Nat} (hs:(D6 t w pos k).st=1) (hr:rdB (opX t k).op=true):(U4 t w pos).getD k zV=if H3 t pos (D6 t w pos) k (nO t)=0 then zel t k else (D6 t w pos (H3 t pos (D6 t w pos) k (nO t)-1)).wr:=by
 have hkn:=run_lt hs
 have hk:=Q8_ h.ht (Ua_ h.hb.n16) hE hs hr
 have e:(itR t w (nxN t pos) (nO t+1)).getD k zV=nxO t pos (D6 t w pos) k:=I1 hkn
 have e2:(U4 t w pos).getD k zV=nxO t pos (D6 t w pos) k:=by
  rw [<-e];exact Zt_ (nO t) k hk
 rw [e2]
 have hd:Q6_ t pos (D6 t w pos) k=true:=u0.2 fun i hi _=>Y9_ hE.whole hi
 unfold nxO
 rw [if_pos (show (rdB (opX t k).op&&Q6_ t pos (D6 t w pos) k)=true by rw [hr,hd];rfl)]
theorem Al.same (h:Al t) (hE:OrdE Q9 t w pos):∀ n k,k<n->k<nO t->D6 t w pos k=D6 t w id k/\((D6 t w pos k).st=1->rdB (opX t k).op=true->(U4 t w pos).getD k zV=(U4 t w id).getD k zV)
 | 0,k,hk,_=>absurd hk (Nat.not_lt_zero _)
 | n+1,k,hk,hkn=>by
  have ih:=h.same hE n
  have hE':OrdE Q9 t w id:=h.ordE
  have hpre:F1 t (U4 t w pos) w 0 (opAt t k)=F1 t (U4 t w id) w 0 (opAt t k):=by
   have key:∀ b,b<=opAt t k->F1 t (U4 t w pos) w 0 b=F1 t (U4 t w id) w 0 b:=fun b=>by
    induction b with
    | zero=>exact fun _=>rfl
    | succ b ihb =>
     intro hb
     have ihb:=ihb (by omega)
     by_cases hlt:b<(lth t 0).length
     .have hx:=List.getElem?_eq_getElem hlt
      rw [G0 hx,G0 (reads:=U4 t w id) hx,<-ihb]
      by_cases hp:(F1 t (U4 t w pos) w 0 b).2=true
      .rw [if_pos hp,if_pos hp]
       congr 1
       unfold S6
       split
       .rfl
       rename_i ho
       split
       .rename_i hm
        obtain ⟨a1,a2,a3⟩:=VP_ hx hm hp ho
        obtain ⟨b1,b2,b3,b4⟩:=y5 hx hm
        rw [a2]
        congr 1
        refine zKu fun hr=>?_
        have hlt2:Yl_ t 0 b<k:=(h.lt b1 hkn).2 (by omega)
        refine (ih (Yl_ t 0 b) (by omega) b1).2 ?_ (by rw [b2];exact hr)
        show (fxO t (U4 t w pos) w _).st=1
        rw [a3]
        unfold z7
        rw [if_neg fun hc=>h.np _ b1 (by rw [b2];exact hc.1)]
       rfl
      rw [if_neg hp,if_neg hp]
     rw [I3 hlt,I3 hlt];exact ihb
   exact key _ (Nat.le_refl _)
  have hth:=h.th hkn
  have hst:(D6 t w pos k).st=(D6 t w id k).st:=by
   show (fxO t (U4 t w pos) w k).st=(fxO t (U4 t w id) w k).st
   rw [V5 hkn,V5 hkn,hth,hpre]
   split
   .unfold fxP
    split
    .rfl
    rfl
   rfl
  have hread:(D6 t w pos k).st=1->rdB (opX t k).op=true->(U4 t w pos).getD k zV=(U4 t w id).getD k zV:=fun hs hr=>by
   have hs':(D6 t w id k).st=1:=by rw [<-hst];exact hs
   have hl:=h.lst hE hE' hs hs' fun i hi=>(ih i (by omega) (by omega)).1
   rw [zRo h hE hs hr,zRo h hE' hs' hr,hl]
   split
   .rfl
   rename_i hL
   obtain ⟨s1,s2,s3,s4⟩:=(G7 (t:=t) (pos:=id) (f:=D6 t w id) (k:=k) (nO t)).2 hL
   obtain ⟨c1,_⟩:=(h.can hE' hs' s3).1 s2
   rw [(ih _ (by omega) s1).1]
  refine ⟨?_,hread⟩
  show fxO t (U4 t w pos) w k=fxO t (U4 t w id) w k
  have e1:=V5 (reads:=U4 t w pos) (works:=w) hkn
  have e2:=V5 (reads:=U4 t w id) (works:=w) hkn
  rw [hth,hpre] at e1
  rw [hth] at e2
  rw [e1,e2]
  by_cases hp:(F1 t (U4 t w id) w 0 (opAt t k)).2=true
  .rw [if_pos hp,if_pos hp]
   have hkk:(F1 t (U4 t w id) w 0 (opAt t k)).1.k=k:=by
    have:=(Q4 hkn).2.2.1
    rw [hth] at this
    rw [Zo_ hp];exact this
   unfold fxP
   split
   .rfl
   rename_i ho
   rw [hkk]
   refine zRi (fun hr hs=>hread ?_ hr) fun _=>rfl
   show (fxO t (U4 t w pos) w k).st=1
   rw [e1,if_pos hp]
   unfold fxP
   rw [if_neg ho,hkk]
   exact hs
  rw [if_neg hp,if_neg hp]
theorem Al.flo (h:Al t) (hE:OrdE Q9 t w pos):flO t w pos=flO t w' id:=by
 have e1:flO t w pos=flO t w id:=Alike.eq ⟨fun q hq hr hs=>(h.same hE (q+1) q (by omega) hq).2 hs hr,fun _ _ _ _ _ _ _ _=>rfl⟩
 rw [e1]
 have hw:∀ (R:List Vl),C9 t R w=C9 t R w':=fun R=>Alike.eq ⟨fun _ _ _ _=>rfl,fun i b x hx hm h14 _ _=>by
  obtain ⟨b1,b2,_⟩:=y5 hx hm
  exact absurd (by rw [b2];exact h14) (h.np _ b1)⟩
 have hit:∀ j,itR t w (nxN t id) j=itR t w' (nxN t id) j:=fun j=>by
  induction j with
  | zero=>rfl
  | succ j ih =>
   show tab (nO t) ((nxN t id).N (fxO t (itR t w (nxN t id) j) w))=tab (nO t) ((nxN t id).N (fxO t (itR t w' (nxN t id) j) w'))
   rw [<-ih]
   have:fxO t (itR t w (nxN t id) j) w=fxO t (itR t w (nxN t id) j) w':=by
    funext k;unfold fxO;rw [hw]
   rw [this]
 show C9 t (itR t w (nxN t id) (nO t)) w=C9 t (itR t w' (nxN t id) (nO t)) w'
 rw [hit,hw]
theorem Al.fin (h:Al t) (hE:OrdE Q9 t w pos) (hf:D6 t w pos=D6 t w' id) (y:Nat):ZA_ t pos (D6 t w pos) y (nO t)=ZA_ t id (D6 t w pos) y (nO t):=by
 obtain ⟨a1,a2⟩:=XA_ (t:=t) (pos:=pos) (f:=D6 t w pos) (loc:=y) (nO t)
 obtain ⟨b1,b2⟩:=XA_ (t:=t) (pos:=id) (f:=D6 t w pos) (loc:=y) (nO t)
 by_cases hA:ZA_ t pos (D6 t w pos) y (nO t)=0
 .by_cases hB:ZA_ t id (D6 t w pos) y (nO t)=0
  .rw [hA,hB]
  obtain ⟨s1,s2,s3,s4,_⟩:=b2 hB
  exact absurd ⟨s2,s3,s4⟩ (a1 hA _ s1)
 obtain ⟨r1,r2,r3,r4,r5⟩:=a2 hA
 by_cases hB:ZA_ t id (D6 t w pos) y (nO t)=0
 .exact absurd ⟨r2,r3,r4⟩ (b1 hB _ r1)
 obtain ⟨s1,s2,s3,s4,s5⟩:=b2 hB
 have g1:=s5 _ r1 r2 r3 r4
 have g2:=r5 _ s1 s2 s3 s4
 replace g1:ZA_ t pos (D6 t w pos) y (nO t)-1<=ZA_ t id (D6 t w pos) y (nO t)-1:=g1
 rcases Nat.lt_trichotomy (ZA_ t pos (D6 t w pos) y (nO t)-1) (ZA_ t id (D6 t w pos) y (nO t)-1) with e|e|e
 .have:=h.locs hE e r4 s4 s2 (r3.trans s3.symm);omega
 .omega
 exact absurd g1 (by omega)
theorem Al.ends (h:Al t) (hE:OrdE Q9 t w pos):Z1 t w pos=Z1 t w' id:=by
 have hfl:=h.flo (w':=w') hE
 have hfx:D6 t w pos=D6 t w' id:=by
  funext k
  show d9 (flO t w pos).f k=d9 (flO t w' id).f k
  rw [hfl]
 unfold Z1
 have e1:X4_ (csO t w pos)=X4_ (csO t w' id):=by
  show (flO t w pos).regs.map _=(flO t w' id).regs.map _
  rw [hfl]
 rw [e1]
 congr 1
 funext i
 split
 .unfold zem
  rw [h.fin hE hfx i,hfx]
 rfl
theorem Al.one_end (h:Al t):(I0 Q9 t).length=1:=by
 have hin:Z1 t (List.replicate (nO t) false) id∈I0 Q9 t:=(zLl h.ht h.hb (Ua_ h.hb.n16)).2 ⟨List.replicate (nO t) false,id,h.ordE,fun k hk=>(by
  rw [List.getD,List.getElem?_replicate] at hk
  split at hk<;>cases hk),rfl⟩
 have hall:∀ e∈I0 Q9 t,e=Z1 t (List.replicate (nO t) false) id:=fun e he=>by
  obtain ⟨w,pos,h1,_,rfl⟩:=(zLl h.ht h.hb (Ua_ h.hb.n16)).1 he
  exact h.ends h1
 have hnd:=zDy Q9 t
 generalize I0 Q9 t=l at *
 match l,hin,hall,hnd with
 | [_],_,_,_=>rfl
 | a::b::r,_,hall,hnd =>
  exfalso
  have h1:=hall a (.head _)
  have h2:=hall b (.tail _ (.head _))
  exact (List.nodup_cons.1 hnd).1 (by rw [h1,h2];exact .head _)
end
theorem zYd (T:Tst) (n:Int):o9 T n=0\/(o9 T n=1/\H5 T=0/\(nO T:Int)<=n/\N7 T.ths=true)\/(o9 T n=1/\H5 T=0/\(nO T:Int)<=n/\N7 T.ths=false):=by
 unfold o9
 by_cases h:H5 T=0
 .rw [zRm]
  by_cases h2:n<(Zi_ T:Int)
  .simp [h,h2]
  cases N7 T.ths
  .refine .inr (.inr ⟨by simp [h,h2],h,by omega,rfl⟩)
  refine .inr (.inl ⟨by simp [h,h2],h,by omega,rfl⟩)
 simp [h]
theorem zPv {t:Tst} (h:N7 t.ths=false) {k:Nat} (hk:k<nO t):(opX t k).op≠14:=fun e=>by
 obtain ⟨l,hl,hx,_⟩:=zey hk
 unfold N7 at h
 rw [any_eq_false] at h
 have h1:=h l hl
 rw [Bool.not_eq_true,any_eq_false] at h1
 have h2:=h1 _ hx
 unfold YS_ at h2
 simp [e] at h2
theorem zka {t:Tst} (h:H5 t=0) (hw:Z4_ t) (hp:N7 t.ths=false) (h1:t.ths.length=1):Al t:=⟨zB2 h,zY4 h hw,h1,fun _ hk=>zPv hp hk⟩
theorem Ue_ (l:List Ins) (hl:l.length<=maxLen) (hwf:∀ x∈l,J9_ x):Pf Tryz.prog 7 [.ro 13 (W0 l)] (bV true):=by
 refine Pf.of_fn (.cons (.ro (fun v hv=>by obtain ⟨x,_,rfl⟩:=List.mem_map.1 hv;exact m8 x)) .nil) (.val _) ?_
 have hnm:=zOt (l:=l)
 have hwT:=zOu hwf
 obtain ⟨T,hT⟩:∃ T,VJ_ l=T:=⟨_,rfl⟩
 rw [hT] at hnm hwT
 have h1T:T.ths.length=1:=by rw [<-hT];rfl
 have hcl:T.cs.length=3:=rfl
 have hct:List.take 3 T.cs=T.cs:=rfl
 refine B7 T_ok func7 rfl rfl ntmps7 rfl (by simp) ?_
 refine rG ?_
 refine rK fun K hK=>?_
 simp [go_sem]
 refine ⟨by split<;>omega,by split<;>omega,?_⟩
 have e8:List.take (if (8:Int)<(l.length:Int) then (8:Int) else (l.length:Int)).toNat l=List.take 8 l:=by
  split
  .rfl
  rw [take_of_length_le (by omega),take_of_length_le (by omega)]
 rw [e8]
 apply hK
 refine A3 fun K1 hK1=>?_
 refine Tr.weaken (Weaker.ghostH (sz:=3) (es:=[.agg [.sl 0 0 2,.sl 1 0 1,.val (.slice none 0 0)]]) 2 3 [.agg [.sl 0 0 2,.sl 1 0 1,.sl 3 0 0]] (by simp [Sl.look,onV]) (by simp) (by simp) (by simp [V.fits,V.cells,V.one]) (by simp only [flatMap_cons,flatMap_nil,V.cells,append_nil];exact .same (.same (.to .nil)))) ?_
 simp only [Sl.put,if_true,if_false,Nat.reduceEqDiff,reduceIte]
 refine Tr.weaken (Weaker.fz (H':=[]) (t':=[(3,.rp T.cs 0)]) 3 0 ?_ ?_ ?_) ?_
 .simp [go_sem,<-hT,Tst.cs,VJ_,zF0,W7,Xa_,Ini.cs,nmX,nmY,N3,WR_]
 .simp
 .simp
 refine rK fun K hK=>?_
 simp [go_sem]
 refine A2 (y8) ?_
 simp [go_sem,hcl,hct]
 refine A2 (zD0 T hnm 6) ?_
 simp [go_sem]
 rcases zYd T 6 with hz|⟨hz,hc,hm,hp⟩|⟨hz,hc,hm,hp⟩
 .simp [go_sem,hz]
  apply hK
  refine cJ (fun h=>?_) fun h=>?_
  .simp at h
  clear h
  refine rK fun K hK=>?_
  simp [go_sem]
  refine A2 (y8) ?_
  simp [go_sem]
  apply hK
  refine A4 ?_
  simp [go_sem]
 .simp [go_sem,hz]
  refine A2 (x6 T (by have:=(UC_ hc hwT).ths;omega) (UI_ (UC_ hc hwT))) ?_
  simp [go_sem,hp,hz]
  apply hK
  refine cJ (fun h=>?_) fun h=>?_
  .simp at h
  clear h
  refine rK fun K hK=>?_
  simp [go_sem]
  refine A2 (y8) ?_
  simp [go_sem]
  apply hK
  refine A4 ?_
  simp [go_sem]
 simp [go_sem,hz]
 refine A2 (x6 T (by have:=(UC_ hc hwT).ths;omega) (UI_ (UC_ hc hwT))) ?_
 simp [go_sem,hp,hz]
 apply hK
 refine cK (fun h=>?_) fun h=>?_
 .simp at h
 clear h
 apply A1
 apply hK1
 have hone:(J4 (I0 Q9 T)).length=1:=by rw [U3];exact (zka hc hwT hp h1T).one_end
 refine rK fun K hK=>?_
 simp [go_sem]
 refine A2 (y8) ?_
 simp [go_sem]
 refine A2 (zE0 T hc hwT (by omega)) ?_
 simp [go_sem,hone]
 apply hK
 refine A4 ?_
 simp [go_sem]
end Go.Proofs.YtmpbalepefpllaaGreat
