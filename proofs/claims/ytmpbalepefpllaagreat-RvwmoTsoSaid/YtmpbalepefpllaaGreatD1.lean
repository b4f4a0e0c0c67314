/- Texts put together, in order: Sl1, Sl2, Sl3, Sl4, Sl5, Sl6, Sl7, Sl8, Sl9, Sl9a, Sl9b. -/
import Derived.Tactics
import Derived.Laws.AppendOwn
import Derived.Laws.Rows
import Derived.Laws.Tables
import Derived.Laws.Cells
import Derived.Laws.Small
import Derived.Laws.StructEq
import Derived.Great.FillDense
import Derived.ChangeKeysEq
import Derived.Laws.MakeOwn
import Derived.Laws.Pointers
open List
set_option linter.unusedVariables false
set_option linter.unusedSimpArgs false
namespace Go.Sl
inductive V where
 | any
 | val (v:Value)
 | agg (cs:List V)
 | tup (vs:List V)
 | ptr (n i j:Nat)
 | sl (n i len:Nat)
 | sub (n i j z len:Nat)
 | ro (sz:Nat) (es:List V)
 | rp (cs:List V) (j:Nat)
 | map (n:Nat)
 | fn (f:Fn) (fs cs:List V)
 deriving Inhabited
def V.cells:V->List V
 | .agg cs=>cs
 | v=>[v]
def V.isAny:V->Bool
 | .any=>true
 | _=>false
def V.one:V->Bool
 | .any|.agg _|.tup _=>false
 | _=>true
def V.fits (sz:Nat) (v:V):Bool:=v.cells.length==sz&&v.cells.all V.one
structure Loc where
 b:Nat
 o:Nat
 sz:Nat
 size:Nat
 ghost:Bool
 map:Bool
 deriving Inhabited
abbrev E3:=Nat->Option Loc
mutual
inductive VRel (ι:E3) (O:Nat->Prop) (w:World):V->Value->Prop
  | any (v:Value):VRel ι O w .any v
  | val (v:Value) (h:v.oneCell'=true):VRel ι O w (.val v) v
  | agg {cs:List V} {vs:List Value} (h:VRels ι O w cs vs):VRel ι O w (.agg cs) (.agg vs.toArray)
  | tup {cs:List V} {vs:List Value} (h:VRels ι O w cs vs):VRel ι O w (.tup cs) (.tuple vs.toArray)
  | ptr {n i j off:Nat} {l:Loc} (h:ι n=some l) (hg:l.ghost=false) (hm:l.map=false) (ho:off=l.o+i*l.sz+j):VRel ι O w (.ptr n i j) (.pointer (some ⟨l.b,off,none⟩))
  | sl {n i len off cap : Nat} {l : Loc} (h : ι n = some l) (hg : l.ghost = false) (hm : l.map = false) (ho : off = l.o + i * l.sz) (h0 : 0 < cap) (hl : len ≤ cap) (hc : cap ≤ maxLen)
      (hs:off+cap*l.sz<=l.size):VRel ι O w (.sl n i len) (.slice (some ⟨l.b,off,none⟩) len cap)
  | sl0 {n i:Nat} {l:Loc} {a:Option Addr} (h:ι n=some l):VRel ι O w (.sl n i 0) (.slice a 0 0)
  | sub {n i j z len off cap : Nat} {l : Loc} (h : ι n = some l) (hg : l.ghost = false) (hm : l.map = false) (ho : off = l.o + i * l.sz + j) (hl : len ≤ cap) (hc : cap ≤ maxLen)
      (hs:off+cap*z<=l.size):VRel ι O w (.sub n i j z len) (.slice (some ⟨l.b,off,none⟩) len cap)
  | ro0 {sz cap:Nat} {a:Option Addr}:VRel ι O w (.ro sz []) (.slice a 0 cap)
  | ro {sz b off len cap : Nat} {es : List V} {c : Array Value} {e : TypeId} {fr : Nat × Nat} {vs : List Value} (hb : b < w.heap.size) (hO : ¬ O b) (hw : w.heap[b]? = some (.cells c e fr))
      (hsz:∀ v∈es,v.fits sz=true) (hlen:len=es.length) (hlc:len<=cap) (hin:off+es.length*sz<=c.size) (hvs:vs=(c.toList.drop off).take (es.length*sz)) (h:VRels ι O w (es.flatMap V.cells) vs) :
      VRel ι O w (.ro sz es) (.slice (some ⟨b,off,none⟩) len cap)
  | rp {b off off' j : Nat} {cs : List V} {c : Array Value} {e : TypeId} {fr : Nat × Nat} {vs : List Value} (hb : b < w.heap.size) (hO : ¬ O b) (hw : w.heap[b]? = some (.cells c e fr))
      (hsz:cs.all V.one=true) (hin:off+cs.length<=c.size) (hvs:vs=(c.toList.drop off).take cs.length) (h:VRels ι O w cs vs) (ho:off'=off+j):VRel ι O w (.rp cs j) (.pointer (some ⟨b,off',none⟩))
  | map {n:Nat} {l:Loc} (h:ι n=some l) (hg:l.ghost=false) (hm:l.map=true):VRel ι O w (.map n) (.map (some l.b))
  | fn {f:Fn} {fs cs:List V} {fs' cs':List Value} (h1:VRels ι O w fs fs') (h2:VRels ι O w cs cs'):VRel ι O w (.fn f fs cs) (.func f fs'.toArray cs'.toArray)
inductive VRels (ι:E3) (O:Nat->Prop) (w:World):List V->List Value->Prop
  | nil:VRels ι O w [] []
  | cons {v:V} {x:Value} {vs:List V} {xs:List Value} (h:VRel ι O w v x) (hs:VRels ι O w vs xs):VRels ι O w (v::vs) (x::xs)
end
section
variable {ι ι':E3} {O O':Nat->Prop} {w w':World}
theorem VRels.length {vs:List V} {xs:List Value} (h:VRels ι O w vs xs):vs.length=xs.length:=by
 induction vs generalizing xs with
 | nil=>cases h;rfl
 | cons v vs ih=>cases h with|cons h hs=>simp [ih hs]
variable {us vs:List V} {v:V} {x:Value} {xs:List Value}
theorem VRels.get (h:VRels ι O w vs xs):∀ (i:Nat) (v:V),vs[i]?=some v->∃ x,xs[i]?=some x/\VRel ι O w v x:=by
 induction vs generalizing xs with
 | nil=>intro i v hv;simp at hv
 | cons u vs ih =>
  cases h with
  | cons h hs =>
   rename_i x xs
   intro i v hv
   cases i with
   | zero=>simp at hv;subst hv;exact ⟨x,rfl,h⟩
   | succ i=>simpa using ih hs i v (by simpa using hv)
theorem VRels.of_get (hl:vs.length=xs.length) (h:∀ (i:Nat) (v:V) (x:Value),vs[i]?=some v->xs[i]?=some x->VRel ι O w v x):VRels ι O w vs xs:=by
 induction vs generalizing xs with
 | nil=>cases xs with|nil=>exact .nil|cons=>simp at hl
 | cons v vs ih =>
  cases xs with
  | nil=>simp at hl
  | cons x xs =>
   refine .cons (h 0 v x rfl rfl) (ih (by simpa using hl) fun i v x hv hx=>h (i+1) v x (by simpa using hv) (by simpa using hx))
theorem VRels.append {ys:List Value} (h:VRels ι O w vs xs) (h':VRels ι O w us ys):VRels ι O w (vs++us) (xs++ys):=by
 induction vs generalizing xs with
 | nil=>cases h;exact h'
 | cons v vs ih=>cases h with|cons h hs=>exact .cons h (ih hs)
theorem VRels.take {vs:List V} {xs:List Value} (h:VRels ι O w vs xs) (n:Nat):VRels ι O w (vs.take n) (xs.take n):=by
 induction vs generalizing xs n with
 | nil=>cases h;simpa using VRels.nil
 | cons v vs ih =>
  cases h with
  | cons h hs =>
   cases n with
   | zero=>exact .nil
   | succ n=>exact .cons h (ih hs n)
theorem VRels.drop {vs:List V} {xs:List Value} (h:VRels ι O w vs xs) (n:Nat):VRels ι O w (vs.drop n) (xs.drop n):=by
 induction vs generalizing xs n with
 | nil=>cases h;simpa using VRels.nil
 | cons v vs ih =>
  cases h with
  | cons h hs =>
   cases n with
   | zero=>exact .cons h hs
   | succ n=>exact ih hs n
theorem VRels.split (h:VRels ι O w (vs++us) xs):∃ ys zs,xs=ys++zs/\VRels ι O w vs ys/\VRels ι O w us zs:=by
 refine ⟨xs.take vs.length,xs.drop vs.length,(take_append_drop _ _).symm,?_,?_⟩
 .have:=h.take vs.length;simpa using this
 have:=h.drop vs.length;simpa using this
theorem VRels.snoc (h:VRels ι O w vs xs) (hv:VRel ι O w v x):VRels ι O w (vs++[v]) (xs++[x]):=h.append (.cons hv .nil)
theorem VRel.oneCell (h:VRel ι O w v x) (hv:v.one=true):x.oneCell'=true:=by
 cases h<;>simp_all [V.one,Value.oneCell']
theorem Yk_ (h:x.oneCell'=true):x.cells=#[x]:=by cases x<;>simp_all [Value.oneCell',Value.cells]
theorem VRel.cells {v:V} {x:Value} (h:VRel ι O w v x) (hv:v.isAny=false):VRels ι O w v.cells x.cells.toList:=by
 cases h with
 | any=>simp [V.isAny] at hv
 | val _ h=>simp only [V.cells,Yk_ h];exact .cons (.val _ h) .nil
 | agg h=>simpa [V.cells,Value.cells] using h
 | tup h=>exact .cons (.tup h) .nil
 | ptr h hg hm ho=>exact .cons (.ptr h hg hm ho) .nil
 | sl h hg hm ho h0 hl hc hs=>exact .cons (.sl h hg hm ho h0 hl hc hs) .nil
 | sl0 h=>exact .cons (.sl0 h) .nil
 | sub h hg hm ho hl hc hs=>exact .cons (.sub h hg hm ho hl hc hs) .nil
 | ro0=>exact .cons .ro0 .nil
 | ro hb hO hw hsz hlen hlc hin hvs h=>exact .cons (.ro hb hO hw hsz hlen hlc hin hvs h) .nil
 | rp hb hO hw hsz hin hvs h ho=>exact .cons (.rp hb hO hw hsz hin hvs h ho) .nil
 | map h hg hm=>exact .cons (.map h hg hm) .nil
 | fn h1 h2=>exact .cons (.fn h1 h2) .nil
structure Stays (ι:E3) (O:Nat->Prop) (w:World) (ι':E3) (O':Nat->Prop) (w':World):Prop where
 le:∀ n l,ι n=some l->ι' n=some l
 size:w.heap.size<=w'.heap.size
 heap:∀ b,b<w.heap.size->¬ O b->¬ O' b/\w'.heap[b]?=w.heap[b]?
mutual
theorem VRel.stays (S:Stays ι O w ι' O' w'):{v:V}->{x:Value}->VRel ι O w v x->VRel ι' O' w' v x
 | _,_,.any v=>.any v
 | _,_,.val v h=>.val v h
 | _,_,.agg h=>.agg (VRels.stays S h)
 | _,_,.tup h=>.tup (VRels.stays S h)
 | _,_,.ptr h hg hm ho=>.ptr (S.le _ _ h) hg hm ho
 | _,_,.sl h hg hm ho h0 hl hc hs=>.sl (S.le _ _ h) hg hm ho h0 hl hc hs
 | _,_,.sl0 h=>.sl0 (S.le _ _ h)
 | _,_,.sub h hg hm ho hl hc hs=>.sub (S.le _ _ h) hg hm ho hl hc hs
 | _,_,.ro0=>.ro0
 | _,_,.ro hb hO hw hsz hlen hlc hin hvs h=>.ro (Nat.lt_of_lt_of_le hb S.size) (S.heap _ hb hO).1 ((S.heap _ hb hO).2.trans hw) hsz hlen hlc hin hvs (VRels.stays S h)
 | _,_,.rp hb hO hw hsz hin hvs h ho=>.rp (Nat.lt_of_lt_of_le hb S.size) (S.heap _ hb hO).1 ((S.heap _ hb hO).2.trans hw) hsz hin hvs (VRels.stays S h) ho
 | _,_,.map h hg hm=>.map (S.le _ _ h) hg hm
 | _,_,.fn h1 h2=>.fn (VRels.stays S h1) (VRels.stays S h2)
theorem VRels.stays (S:Stays ι O w ι' O' w'):{vs:List V}->{xs:List Value}->VRels ι O w vs xs->VRels ι' O' w' vs xs
 | _,_,.nil=>.nil
 | _,_,.cons h hs=>.cons (VRel.stays S h) (VRels.stays S hs)
end
end
inductive B where
 | rows (sz:Nat) (es:List V)
 | map (es:List (V × V))
 | iter (m:Nat) (done:List Nat) (n:Nat)
abbrev A8:=List (Nat × B)
def OwnH (ι:E3) (H:A8) (b:Nat):Prop:=∃ n B l,(n,B)∈H/\ι n=some l/\l.ghost=false/\l.b=b
def Own (F:Nat->Prop) (ι:E3) (H:A8) (b:Nat):Prop:=F b\/OwnH ι H b
def BRel (ι:E3) (O:Nat->Prop) (w:World) (l:Loc):B->Prop
  | .rows sz es => l.sz = sz ∧ l.map = false ∧ (∀ v ∈ es, v.fits sz = true) ∧
      ((l.ghost=true/\es=[]) ∨
       (l.ghost=false/\∃ c e,w.heap[l.b]?=some (.cells c e (0,0))/\c.size=l.size/\l.o+es.length*sz<=c.size ∧
          VRels ι O w (es.flatMap V.cells) ((c.toList.drop l.o).take (es.length*sz))))
  | .map es => l.ghost = false ∧ l.map = true ∧ ∃ mes : Array MapEntry, w.heap[l.b]? = some (.map mes mes.size) ∧ VRels ι O w (es.map (·.1)) (mes.toList.map (·.key)) ∧
      VRels ι O w (es.map (·.2)) (mes.toList.map (·.val))/\mes.toList.map (·.born)=List.range mes.size
  | .iter m done n=>l.ghost=false/\l.map=false/\l.o=0/\∃ lm,ι m=some lm/\lm.ghost=false/\w.heap[l.b]?=some (.mapIter (some lm.b) n done.toArray n)
structure Rep (F:Nat->Prop) (ι:E3) (H:A8) (w:World):Prop where
 frame:∀ b,F b->b<w.heap.size
 names:(H.map Prod.fst).Nodup
 own:∀ n B,(n,B)∈H->∃ l,ι n=some l/\BRel ι (Own F ι H) w l B/\(l.ghost=false->l.b<w.heap.size/\¬ F l.b)
 apart:∀ n B m C l l',(n,B)∈H->(m,C)∈H->n≠m->ι n=some l->ι m=some l'->l.ghost=false->l'.ghost=false->l.b≠l'.b
def Tp (w w':World):Prop:=w'.tape=w.tape/\w.drawn<=w'.drawn
theorem Tp.refl (w:World):Tp w w:=⟨rfl,Nat.le_refl _⟩
theorem Tp.same {w w':World} (h:w'.tape=w.tape) (h':w'.drawn=w.drawn):Tp w w':=⟨h,Nat.le_of_eq h'.symm⟩
theorem Tp.trans {w w' w'':World} (h:Tp w w') (h':Tp w' w''):Tp w w'':=⟨h'.1.trans h.1,Nat.le_trans h.2 h'.2⟩
theorem Tp.drew (w:World):Tp w w.drew:=⟨rfl,Nat.le_succ _⟩
structure Kept (ι:E3) (H:A8) (w:World) (ι':E3) (H':A8) (w':World):Prop where
 le:∀ n l,ι n=some l->ι' n=some l
 os:w'.os=w.os
 tape:Tp w w'
 output:w'.output=w.output
 size:w.heap.size<=w'.heap.size
 stay:∀ b,b<w.heap.size->¬ OwnH ι H b->w'.heap[b]?=w.heap[b]?
 old:∀ b,b<w.heap.size->OwnH ι' H' b->OwnH ι H b
theorem Kept.refl (ι:E3) (H:A8) (w:World):Kept ι H w ι H w :=
 ⟨fun _ _ h=>h,rfl,Tp.refl _,rfl,Nat.le_refl _,fun _ _ _=>rfl,fun _ _ h=>h⟩
theorem Kept.trans {ι ι' ι'':E3} {H H' H'':A8} {w w' w'':World} (h:Kept ι H w ι' H' w') (h':Kept ι' H' w' ι'' H'' w''):Kept ι H w ι'' H'' w'' :=
  ⟨fun n l e=>h'.le n l (h.le n l e),h'.os.trans h.os,h.tape.trans h'.tape,h'.output.trans h.output,Nat.le_trans h.size h'.size,
   fun b hb hn=>(h'.stay b (Nat.lt_of_lt_of_le hb h.size) (fun ho=>hn (h.old b hb ho))).trans (h.stay b hb hn),
   fun b hb ho=>h.old b hb (h'.old b (Nat.lt_of_lt_of_le hb h.size) ho)⟩
theorem Kept.stays {F:Nat->Prop} {ι ι':E3} {H H':A8} {w w':World} (h:Kept ι H w ι' H' w'):Stays ι (Own F ι H) w ι' (Own F ι' H') w' :=
 ⟨h.le,h.size,fun b hb hn=>⟨fun ho=>hn (ho.elim .inl fun ho=>.inr (h.old b hb ho)),h.stay b hb fun ho=>hn (.inr ho)⟩⟩
end Go.Sl
namespace Go.Sl
def look (n:Nat):A8->Option B
 | []=>none
 | (m,b)::r=>if n=m then some b else look n r
def put (n:Nat) (b:B):A8->A8
 | []=>[]
 | (m,c)::r=>if n=m then (m,b)::r else (m,c)::put n b r
def del (n:Nat):A8->A8
 | []=>[]
 | (m,c)::r=>if n=m then r else (m,c)::del n r
def upd (ι:E3) (k:Nat) (l:Loc):E3:=fun n=>if n=k then some l else ι n
theorem B4 (ι:E3) (k:Nat) (l:Loc):upd ι k l k=some l:=by simp [upd]
theorem F9 (ι:E3) (k n:Nat) (l:Loc) (h:n≠k):upd ι k l n=ι n:=by simp [upd,h]
theorem zH4 {ι:E3} {k:Nat} (l:Loc) (h:ι k=none) (n:Nat) (l':Loc) (hn:ι n=some l'):upd ι k l n=some l':=by
 unfold upd;split
 .subst_vars;rw [h] at hn;cases hn
 exact hn
theorem D6 {n:Nat} {b:B}:∀ {H:A8},look n H=some b->(n,b)∈H
 | [],h=>by simp [look] at h
 | (m,c)::r,h=>by
  simp only [look] at h
  split at h
  .subst_vars;simp at h;subst h;exact .head _
  exact .tail _ (D6 h)
theorem I1 {n:Nat} {b:B}:∀ {H:A8},(H.map Prod.fst).Nodup->(n,b)∈H->look n H=some b
 | (m,c)::r,hd,h=>by
  simp only [map_cons,nodup_cons] at hd
  simp only [look]
  cases h with
  | head=>simp
  | tail _ h =>
   rw [if_neg,I1 hd.2 h]
   intro e;subst e;exact hd.1 (List.mem_map.2 ⟨(n,b),h,rfl⟩)
theorem T8 (n:Nat) (b:B):∀ H:A8,(put n b H).map Prod.fst=H.map Prod.fst
 | []=>rfl
 | (m,c)::r=>by simp only [put];split<;>simp [T8 n b r]
theorem Z4_ {n m:Nat} {b c:B}:∀ {H:A8},(H.map Prod.fst).Nodup->(m,c)∈put n b H->(m=n/\c=b)\/(m≠n/\(m,c)∈H)
 | (p,d)::r,hd,h=>by
  simp only [map_cons,nodup_cons] at hd
  simp only [put] at h
  split at h
  .subst_vars
   cases h with
   | head=>exact .inl ⟨rfl,rfl⟩
   | tail _ h=>exact .inr ⟨fun e=>hd.1 (e▸List.mem_map.2 ⟨(m,c),h,rfl⟩),.tail _ h⟩
  rename_i hne
  cases h with
  | head=>exact .inr ⟨fun e=>hne e.symm,.head _⟩
  | tail _ h=>exact (Z4_ hd.2 h).imp id fun h=>⟨h.1,.tail _ h.2⟩
theorem QE_ {n:Nat} {b c:B}:∀ {H:A8},(n,c)∈H->(n,b)∈put n b H
 | (p,d)::r,h=>by
  simp only [put]
  split
  .subst_vars;exact .head _
  rename_i hne
  cases h with
  | head=>exact absurd rfl hne
  | tail _ h=>exact .tail _ (QE_ h)
theorem S5 {n m:Nat} {c:B}:∀ {H:A8},(H.map Prod.fst).Nodup->(m,c)∈del n H->m≠n/\(m,c)∈H
 | (p,d)::r,hd,h=>by
  simp only [map_cons,nodup_cons] at hd
  simp only [del] at h
  split at h
  .subst_vars;exact ⟨fun e=>hd.1 (e▸List.mem_map.2 ⟨(m,c),h,rfl⟩),.tail _ h⟩
  rename_i hne
  cases h with
  | head=>exact ⟨fun e=>hne e.symm,.head _⟩
  | tail _ h=>exact ⟨(S5 hd.2 h).1,.tail _ (S5 hd.2 h).2⟩
theorem F4 (n:Nat):∀ H:A8,((del n H).map Prod.fst).Sublist (H.map Prod.fst)
 | []=>.refl _
 | (m,c)::r=>by
  simp only [del];split
  .exact .cons _ (.refl _)
  exact .cons_cons _ (F4 n r)
section
variable {F:Nat->Prop} {ι ι':E3} {H H':A8} {w w':World} {O O':Nat->Prop}
theorem BRel.stays {l:Loc} {b:B} (S:Stays ι O w ι' O' w') (hh:l.ghost=false->w'.heap[l.b]?=w.heap[l.b]?) (h:BRel ι O w l b):BRel ι' O' w' l b:=by
 cases b with
 | rows sz es =>
  obtain ⟨h1,h2,h3,h4⟩:=h
  refine ⟨h1,h2,h3,?_⟩
  rcases h4 with h4|⟨hg,c,e,hw,hc,ho,hv⟩
  .exact .inl h4
  exact .inr ⟨hg,c,e,(hh hg).trans hw,hc,ho,VRels.stays S hv⟩
 | map es =>
  obtain ⟨h1,h2,mes,hw,hk,hv,hb⟩:=h
  exact ⟨h1,h2,mes,(hh h1).trans hw,VRels.stays S hk,VRels.stays S hv,hb⟩
 | iter m done n =>
  obtain ⟨h1,h2,h3,lm,hm,hg,hw⟩:=h
  exact ⟨h1,h2,h3,lm,S.le _ _ hm,hg,(hh h1).trans hw⟩
theorem Rep.change (R : Rep F ι H w) (K : Kept ι H w ι' H' w') (hn : (H'.map Prod.fst).Nodup) (x : Nat)
    (h1:∀ m C,(m,C)∈H'->m≠x->(m,C)∈H)
    (h2:∀ m C l,(m,C)∈H'->m≠x->ι m=some l->l.ghost=false->w'.heap[l.b]?=w.heap[l.b]?)
    (h3:∀ C,(x,C)∈H'->∃ l,ι' x=some l/\BRel ι' (Own F ι' H') w' l C ∧
      (l.ghost=false->l.b<w'.heap.size/\¬ F l.b/\∀ m C lm,(m,C)∈H'->m≠x->ι m=some lm->lm.ghost=false->lm.b≠l.b)) :
    Rep F ι' H' w':=by
  refine ⟨fun b hb=>Nat.lt_of_lt_of_le (R.frame b hb) K.size,hn,?_,?_⟩
  . intro n C hC
    by_cases hx:n=x
    . subst hx
      obtain ⟨l,hl,hB,hg⟩:=h3 C hC
      exact ⟨l,hl,hB,fun hgh=>⟨(hg hgh).1,(hg hgh).2.1⟩⟩
    obtain ⟨l,hl,hB,hg⟩:=R.own n C (h1 n C hC hx)
    refine ⟨l,K.le _ _ hl,BRel.stays K.stays (h2 n C l hC hx hl) hB,fun hgh=>⟨Nat.lt_of_lt_of_le (hg hgh).1 K.size,(hg hgh).2⟩⟩
  intro n C m D l l' hC hD hne hl hl' hg hg'
  by_cases hx:n=x
  . subst hx
    obtain ⟨l0,hl0,_,h⟩:=h3 C hC
    rw [hl] at hl0;cases hl0
    obtain ⟨lm,hlm,_,_⟩:=R.own m D (h1 m D hD (Ne.symm hne))
    have:=K.le _ _ hlm
    rw [hl'] at this;cases this
    exact Ne.symm ((h hg).2.2 m D _ hD (Ne.symm hne) hlm hg')
  by_cases hy:m=x
  . subst hy
    obtain ⟨l0,hl0,_,h⟩:=h3 D hD
    rw [hl'] at hl0;cases hl0
    obtain ⟨lm,hlm,_,_⟩:=R.own n C (h1 n C hC hne)
    have:=K.le _ _ hlm
    rw [hl] at this;cases this
    exact (h hg').2.2 n C _ hC hne hlm hg
  obtain ⟨la,hla,_,_⟩:=R.own n C (h1 n C hC hx)
  obtain ⟨lb,hlb,_,_⟩:=R.own m D (h1 m D hD hy)
  have e1:=K.le _ _ hla
  have e2:=K.le _ _ hlb
  rw [hl] at e1;cases e1
  rw [hl'] at e2;cases e2
  exact R.apart n C m D _ _ (h1 n C hC hx) (h1 m D hD hy) hne hla hlb hg hg'
theorem Rep.known (R:Rep F ι H w) {n:Nat} {b:B} (h:look n H=some b):∃ l,ι n=some l/\BRel ι (Own F ι H) w l b/\(l.ghost=false->l.b<w.heap.size/\¬ F l.b) :=
 R.own n b (D6 h)
theorem Rep.fresh_not (R:Rep F ι H w) {k:Nat} (hk:ι k=none) (b:B):(k,b)∉H:=fun h=>by
 obtain ⟨l,hl,_⟩:=R.own k b h
 rw [hk] at hl;cases hl
theorem Rep.fresh_names (R:Rep F ι H w) {k:Nat} (hk:ι k=none):k∉H.map Prod.fst:=fun h=>by
 obtain ⟨⟨n,b⟩,hm,he⟩:=List.mem_map.1 h
 simp only at he;subst he
 exact R.fresh_not hk b hm
theorem u1 (_R : Rep F ι H w) {k : Nat} (hk : ι k = none) (l : Loc) (b : B) (hl : l.b = w.heap.size) (ho : w'.os = w.os) (ht : Tp w w') (hu : w'.output = w.output)
    (hs:w.heap.size<=w'.heap.size) (hh:∀ i,i<w.heap.size->w'.heap[i]?=w.heap[i]?):Kept ι H w (upd ι k l) ((k,b)::H) w':=by
  refine ⟨fun n l' h=>zH4 l hk n l' h,ho,ht,hu,hs,fun i hi _=>hh i hi,?_⟩
  rintro i hi ⟨n,B',l',hm,hι,hg,rfl⟩
  by_cases hn:n=k
  . subst hn;rw [B4] at hι;cases hι;omega
  rw [F9 _ _ _ _ hn] at hι
  cases hm with
  | head=>exact absurd rfl hn
  | tail _ hm=>exact ⟨n,B',l',hm,hι,hg,rfl⟩
theorem Rep.alloc (R : Rep F ι H w) {k : Nat} (hk : ι k = none) (l : Loc) (b : B) (hl : l.b = w.heap.size) (ho : w'.os = w.os) (ht : Tp w w') (hu : w'.output = w.output)
    (hs:w.heap.size<w'.heap.size) (hh:∀ i,i<w.heap.size->w'.heap[i]?=w.heap[i]?)
    (hb:∀ ι' O',Stays ι (Own F ι H) w ι' O' w'->BRel ι' O' w' l b):Rep F (upd ι k l) ((k,b)::H) w':=by
  have K:=u1 R hk l b hl ho ht hu (Nat.le_of_lt hs) hh
  refine R.change K ?_ k ?_ ?_ ?_
  . simp only [map_cons,nodup_cons];exact ⟨R.fresh_names hk,R.names⟩
  . intro m C h hne;cases h with
    | head=>exact absurd rfl hne
    | tail _ h=>exact h
  . intro m C l' h hne hι hg
    cases h with
    | head=>exact absurd rfl hne
    | tail _ h =>
      obtain ⟨l0,hl0,_,h0⟩:=R.own m C h
      rw [hι] at hl0;cases hl0
      exact hh _ (h0 hg).1
  intro C hC
  have hCb:C=b:=by
    cases hC with
    | head=>rfl
    | tail _ h=>exact absurd h (R.fresh_not hk C)
  subst hCb
  refine ⟨l,B4 _ _ _,hb _ _ K.stays,fun _=>⟨by omega,fun hF=>by have:=R.frame _ hF;omega,?_⟩⟩
  intro m C lm h hne hι hg
  cases h with
  | head=>exact absurd rfl hne
  | tail _ h =>
    obtain ⟨l0,hl0,_,h0⟩:=R.own m C h
    rw [hι] at hl0;cases hl0
    have:=(h0 hg).1;omega
variable {G:A8}
theorem f9 {n:Nat} {b b':B} (hm : (n, b) ∈ H) {l : Loc} (hl : ι n = some l) (hg : l.ghost = false) (hd : (H.map Prod.fst).Nodup)
    (ho:w'.os=w.os) (ht:Tp w w') (hu:w'.output=w.output) (hs:w.heap.size<=w'.heap.size) (hh:∀ i,i<w.heap.size->i≠l.b->w'.heap[i]?=w.heap[i]?):Kept ι H w ι (put n b' H) w':=by
  refine ⟨fun _ _ h=>h,ho,ht,hu,hs,fun i hi hno=>hh i hi fun e=>hno ⟨n,b,l,hm,hl,hg,e.symm⟩,?_⟩
  rintro i hi ⟨m,B',l',hm',hι,hg',rfl⟩
  rcases Z4_ hd hm' with ⟨rfl,rfl⟩|⟨_,h⟩
  . rw [hl] at hι;cases hι;exact ⟨m,b,l,hm,hl,hg,rfl⟩
  exact ⟨m,B',l',h,hι,hg',rfl⟩
theorem Rep.put (R : Rep F ι H w) {n : Nat} {b b' : B} (hm : (n, b) ∈ H) {l : Loc} (hl : ι n = some l) (hg : l.ghost = false)
    (ho:w'.os=w.os) (ht:Tp w w') (hu:w'.output=w.output) (hs:w.heap.size<=w'.heap.size) (hh:∀ i,i<w.heap.size->i≠l.b->w'.heap[i]?=w.heap[i]?)
    (hb:∀ O',Stays ι (Own F ι H) w ι O' w'->BRel ι O' w' l b'):Rep F ι (put n b' H) w':=by
  have K:=f9 (b':=b') hm hl hg R.names ho ht hu hs hh
  refine R.change K (by rw [T8];exact R.names) n ?_ ?_ ?_
  . intro m C h hne;exact ((Z4_ R.names h).resolve_left fun e=>hne e.1).2
  . intro m C lm h hne hι hgm
    have h':=((Z4_ R.names h).resolve_left fun e=>hne e.1).2
    obtain ⟨l0,hl0,_,h0⟩:=R.own m C h'
    rw [hι] at hl0;cases hl0
    exact hh _ (h0 hgm).1 (R.apart m C n b _ _ h' hm hne hι hl hgm hg)
  intro C hC
  have hCb:C=b':=((Z4_ R.names hC).resolve_right fun e=>e.1 rfl).2
  subst hCb
  obtain ⟨l0,hl0,_,h0⟩:=R.own n b hm
  rw [hl] at hl0;cases hl0
  refine ⟨l,hl,hb _ K.stays,fun _=>⟨Nat.lt_of_lt_of_le (h0 hg).1 hs,(h0 hg).2,?_⟩⟩
  intro m C lm h hne hι hgm
  have h':=((Z4_ R.names h).resolve_left fun e=>hne e.1).2
  exact R.apart m C n b _ _ h' hm hne hι hl hgm hg
theorem O9 (R:Rep F ι H w) (n:Nat):Kept ι H w ι (del n H) w :=
 ⟨fun _ _ h=>h,rfl,Tp.refl _,rfl,Nat.le_refl _,fun _ _ _=>rfl,by
  rintro i hi ⟨m,B',l',hm',hι,hg',rfl⟩
  exact ⟨m,B',l',(S5 R.names hm').2,hι,hg',rfl⟩⟩
theorem Rep.del (R:Rep F ι H w) (n:Nat):Rep F ι (del n H) w:=by
 refine R.change (O9 R n) ((F4 n H).nodup R.names) n ?_ ?_ ?_
 .intro m C h _;exact (S5 R.names h).2
 .intro _ _ _ _ _ _ _;rfl
 intro C hC;exact absurd rfl (S5 R.names hC).1
theorem Rep.ghost (R : Rep F ι H w) {k : Nat} (hk : ι k = none) (sz : Nat) :
    Rep F (upd ι k ⟨0,0,sz,0,true,false⟩) ((k,.rows sz [])::H) w/\Kept ι H w (upd ι k ⟨0,0,sz,0,true,false⟩) ((k,.rows sz [])::H) w:=by
  have K:Kept ι H w (upd ι k ⟨0,0,sz,0,true,false⟩) ((k,.rows sz [])::H) w:=by
    refine ⟨fun n l' h=>zH4 _ hk n l' h,rfl,Tp.refl _,rfl,Nat.le_refl _,fun i hi _=>rfl,?_⟩
    rintro i hi ⟨n,B',l',hm,hι,hg,rfl⟩
    by_cases hn:n=k
    . subst hn;rw [B4] at hι;cases hι;simp at hg
    rw [F9 _ _ _ _ hn] at hι
    cases hm with
    | head=>exact absurd rfl hn
    | tail _ hm=>exact ⟨n,B',l',hm,hι,hg,rfl⟩
  refine ⟨R.change K ?_ k ?_ ?_ ?_,K⟩
  . simp only [map_cons,nodup_cons];exact ⟨R.fresh_names hk,R.names⟩
  . intro m C h hne;cases h with
    | head=>exact absurd rfl hne
    | tail _ h=>exact h
  . intro _ _ _ _ _ _ _;rfl
  intro C hC
  have hCb:C=.rows sz []:=by
    cases hC with
    | head=>rfl
    | tail _ h=>exact absurd h (R.fresh_not hk C)
  subst hCb
  exact ⟨_,B4 _ _ _,⟨rfl,rfl,by simp,.inl ⟨rfl,rfl⟩⟩,by simp⟩
theorem Rep.move (R : Rep F ι H w) {n : Nat} {b : B} (hm : (n, b) ∈ H) {l : Loc} (hl : ι n = some l) (hg : l.ghost = false) {k : Nat} (hk : ι k = none) (l' : Loc) (hl' : l'.b = l.b) (b' : B)
    (ho:w'.os=w.os) (ht:Tp w w') (hu:w'.output=w.output) (hs:w.heap.size<=w'.heap.size) (hh:∀ i,i<w.heap.size->i≠l.b->w'.heap[i]?=w.heap[i]?)
    (hb:∀ ι' O',Stays ι (Own F ι H) w ι' O' w'->BRel ι' O' w' l' b') :
    Rep F (upd ι k l') ((k,b')::Sl.del n H) w'/\Kept ι H w (upd ι k l') ((k,b')::Sl.del n H) w':=by
  have hnk:n≠k:=fun e=>by subst e;rw [hk] at hl;cases hl
  have K:Kept ι H w (upd ι k l') ((k,b')::Sl.del n H) w':=by
    refine ⟨fun n l' h=>zH4 _ hk n l' h,ho,ht,hu,hs,fun i hi hno=>hh i hi fun e=>hno ⟨n,b,l,hm,hl,hg,e.symm⟩,?_⟩
    rintro i hi ⟨m,B',lm,hm',hι,hg',rfl⟩
    by_cases hmk:m=k
    . subst hmk;rw [B4] at hι;cases hι
      exact ⟨n,b,l,hm,hl,hg,hl'.symm⟩
    rw [F9 _ _ _ _ hmk] at hι
    cases hm' with
    | head=>exact absurd rfl hmk
    | tail _ hm'=>exact ⟨m,B',lm,(S5 R.names hm').2,hι,hg',rfl⟩
  refine ⟨R.change K ?_ k ?_ ?_ ?_,K⟩
  . simp only [map_cons,nodup_cons]
    exact ⟨fun h=>R.fresh_names hk ((F4 n H).mem h),(F4 n H).nodup R.names⟩
  . intro m C h hne;cases h with
    | head=>exact absurd rfl hne
    | tail _ h=>exact (S5 R.names h).2
  . intro m C lm h hne hι hgm
    cases h with
    | head=>exact absurd rfl hne
    | tail _ h =>
      have h':=S5 R.names h
      obtain ⟨l0,hl0,_,h0⟩:=R.own m C h'.2
      rw [hι] at hl0;cases hl0
      exact hh _ (h0 hgm).1 (R.apart m C n b _ _ h'.2 hm h'.1 hι hl hgm hg)
  intro C hC
  have hCb:C=b':=by
    cases hC with
    | head=>rfl
    | tail _ h=>exact absurd (S5 R.names h).2 (R.fresh_not hk C)
  subst hCb
  obtain ⟨l0,hl0,_,h0⟩:=R.own n b hm
  rw [hl] at hl0;cases hl0
  refine ⟨l',B4 _ _ _,hb _ _ K.stays,fun _=>⟨hl'▸Nat.lt_of_lt_of_le (h0 hg).1 hs,hl'▸(h0 hg).2,?_⟩⟩
  intro m C lm h hne hι hgm
  cases h with
  | head=>exact absurd rfl hne
  | tail _ h =>
    have h':=S5 R.names h
    rw [hl']
    exact R.apart m C n b _ _ h'.2 hm h'.1 hι hl hgm hg
theorem OwnH.perm (p:H.Perm H') (b:Nat):OwnH ι H b↔OwnH ι H' b :=
 ⟨fun ⟨n,B,l,h,r⟩=>⟨n,B,l,p.mem_iff.1 h,r⟩,fun ⟨n,B,l,h,r⟩=>⟨n,B,l,p.mem_iff.2 h,r⟩⟩
theorem Kept.perm (p:H.Perm H'):Kept ι H w ι H' w :=
 ⟨fun _ _ h=>h,rfl,Tp.refl _,rfl,Nat.le_refl _,fun _ _ _=>rfl,fun b _ h=>(OwnH.perm p b).2 h⟩
theorem Rep.perm (R:Rep F ι H w) (p:H.Perm H'):Rep F ι H' w:=by
 refine ⟨R.frame,(p.map _).nodup_iff.1 R.names,?_,?_⟩
 .intro n C hC
  obtain ⟨l,hl,hB,h⟩:=R.own n C (p.mem_iff.2 hC)
  exact ⟨l,hl,BRel.stays (Kept.perm p).stays (fun _=>rfl) hB,h⟩
 intro n C m D l l' hC hD
 exact R.apart n C m D l l' (p.mem_iff.2 hC) (p.mem_iff.2 hD)
def Fr (F:Nat->Prop) (ι:E3) (G:A8):Nat->Prop:=fun b=>F b\/OwnH ι G b
theorem zH5 (H G:A8) (b:Nat):Own F ι (H++G) b↔Own (Fr F ι G) ι H b:=by
 unfold Own Fr OwnH
 constructor
 .rintro (h|⟨n,B,l,h,r⟩)
  .exact .inl (.inl h)
  rcases List.mem_append.1 h with h|h
  .exact .inr ⟨n,B,l,h,r⟩
  exact .inl (.inr ⟨n,B,l,h,r⟩)
 rintro ((h|⟨n,B,l,h,r⟩)|⟨n,B,l,h,r⟩)
 .exact .inl h
 .exact .inr ⟨n,B,l,List.mem_append.2 (.inr h),r⟩
 exact .inr ⟨n,B,l,List.mem_append.2 (.inl h),r⟩
theorem R7 (F:Nat->Prop) (ι:E3) (H G:A8):Own F ι (H++G)=Own (Fr F ι G) ι H:=funext fun b=>propext (zH5 H G b)
theorem Rep.lend (R:Rep F ι (H++G) w):Rep (Fr F ι G) ι H w:=by
 have hn:=R.names
 simp only [map_append] at hn
 rw [nodup_append] at hn
 refine ⟨?_,hn.1,?_,?_⟩
 .rintro b (h|⟨n,B,l,h,hl,hg,rfl⟩)
  .exact R.frame b h
  obtain ⟨l',hl',_,h'⟩:=R.own n B (List.mem_append.2 (.inr h))
  rw [hl] at hl';cases hl'
  exact (h' hg).1
 .intro n C hC
  obtain ⟨l,hl,hB,h⟩:=R.own n C (List.mem_append.2 (.inl hC))
  rw [R7] at hB
  refine ⟨l,hl,hB,fun hg=>⟨(h hg).1,?_⟩⟩
  rintro (hF|⟨m,D,l',hD,hl',hg',he⟩)
  .exact (h hg).2 hF
  have hne:n≠m:=fun e=>hn.2.2 n (List.mem_map.2 ⟨(n,C),hC,rfl⟩) m (List.mem_map.2 ⟨(m,D),hD,rfl⟩) e
  exact R.apart n C m D l l' (List.mem_append.2 (.inl hC)) (List.mem_append.2 (.inr hD)) hne hl hl' hg hg' he.symm
 intro n C m D l l' hC hD
 exact R.apart n C m D l l' (List.mem_append.2 (.inl hC)) (List.mem_append.2 (.inl hD))
theorem Kept.frame (R:Rep F ι (H++G) w) (K:Kept ι H w ι' H' w'):Kept ι (H++G) w ι' (H'++G) w':=by
 refine ⟨K.le,K.os,K.tape,K.output,K.size,fun b hb hn=>K.stay b hb fun ⟨n,B,l,h,r⟩=>hn ⟨n,B,l,List.mem_append.2 (.inl h),r⟩,?_⟩
 rintro b hb ⟨n,B,l,h,hl,hg,rfl⟩
 rcases List.mem_append.1 h with h|h
 .obtain ⟨m,D,l',h',r⟩:=K.old _ hb ⟨n,B,l,h,hl,hg,rfl⟩
  exact ⟨m,D,l',List.mem_append.2 (.inl h'),r⟩
 obtain ⟨l',hl',_⟩:=R.own n B (List.mem_append.2 (.inr h))
 have:=K.le _ _ hl'
 rw [hl] at this;cases this
 exact ⟨n,B,l,List.mem_append.2 (.inr h),hl',hg,rfl⟩
theorem Fr.later (R:Rep F ι (H++G) w) (hle:∀ n l,ι n=some l->ι' n=some l) (b:Nat):Fr F ι' G b↔Fr F ι G b:=by
 constructor
 .rintro (h|⟨n,B,l,h,hl,hg,rfl⟩)
  .exact .inl h
  obtain ⟨l',hl',_⟩:=R.own n B (List.mem_append.2 (.inr h))
  have:=hle _ _ hl'
  rw [hl] at this;cases this
  exact .inr ⟨n,B,l,h,hl',hg,rfl⟩
 rintro (h|⟨n,B,l,h,hl,hg,rfl⟩)
 .exact .inl h
 exact .inr ⟨n,B,l,h,hle _ _ hl,hg,rfl⟩
theorem Rep.give (R:Rep F ι (H++G) w) (K:Kept ι H w ι' H' w') (R':Rep (Fr F ι G) ι' H' w') (hd:∀ n,n∈H'.map Prod.fst->n∉G.map Prod.fst):Rep F ι' (H'++G) w':=by
 have hFr:Fr F ι' G=Fr F ι G:=funext fun b=>propext (Fr.later R K.le b)
 have hn:=R.names
 simp only [map_append] at hn
 rw [nodup_append] at hn
 have hS:Stays ι (Own F ι (H++G)) w ι' (Own F ι' (H'++G)) w':=(Kept.frame R K).stays
 refine ⟨fun b hb=>R'.frame b (.inl hb),?_,?_,?_⟩
 .simp only [map_append];rw [nodup_append]
  exact ⟨R'.names,hn.2.1,fun a ha b hb e=>hd a ha (e▸hb)⟩
 .intro n C hC
  rcases List.mem_append.1 hC with hC|hC
  .obtain ⟨l,hl,hB,h⟩:=R'.own n C hC
   refine ⟨l,hl,?_,fun hg=>⟨(h hg).1,fun hF=>(h hg).2 (.inl hF)⟩⟩
   rw [R7,hFr];exact hB
  obtain ⟨l,hl,hB,h⟩:=R.own n C (List.mem_append.2 (.inr hC))
  refine ⟨l,K.le _ _ hl,BRel.stays hS (fun hg=>?_) hB,fun hg=>⟨Nat.lt_of_lt_of_le (h hg).1 K.size,(h hg).2⟩⟩
  refine K.stay _ (h hg).1 ?_
  rintro ⟨m,D,l',hD,hl',hg',he⟩
  have hne:m≠n:=fun e=>hn.2.2 m (List.mem_map.2 ⟨(m,D),hD,rfl⟩) n (List.mem_map.2 ⟨(n,C),hC,rfl⟩) e
  exact R.apart m D n C l' l (List.mem_append.2 (.inl hD)) (List.mem_append.2 (.inr hC)) hne hl' hl hg' hg he
 intro n C m D l l' hC hD hne hl hl' hg hg'
 have inG:∀ n C l,(n,C)∈G->ι' n=some l->ι n=some l:=fun n C l h hl=>by
  obtain ⟨l0,hl0,_⟩:=R.own n C (List.mem_append.2 (.inr h))
  have:=K.le _ _ hl0
  rw [hl] at this;cases this;exact hl0
 have cross:∀ n C m D l l',(n,C)∈H'->(m,D)∈G->ι' n=some l->ι' m=some l'->l.ghost=false->l'.ghost=false->l.b≠l'.b:=by
  intro n C m D l l' h1 h2 hl hl' hg hg' he
  obtain ⟨l0,hl0,_,h0⟩:=R'.own n C h1
  rw [hl] at hl0;cases hl0
  exact (h0 hg).2 (.inr ⟨m,D,l',h2,inG m D l' h2 hl',hg',he.symm⟩)
 rcases List.mem_append.1 hC with hC|hC<;>rcases List.mem_append.1 hD with hD|hD
 .exact R'.apart n C m D l l' hC hD hne hl hl' hg hg'
 .exact cross n C m D l l' hC hD hl hl' hg hg'
 .exact fun e=>cross m D n C l' l hD hC hl' hl hg' hg e.symm
 exact R.apart n C m D l l' (List.mem_append.2 (.inr hC)) (List.mem_append.2 (.inr hD)) hne (inG n C l hC hl) (inG m D l' hD hl') hg hg'
end
end Go.Sl
namespace Go.Sl
structure St where
 N:Nat
 t:List (Nat × V)
 H:A8
 k:Nat
def get:List (Nat × V)->Nat->V
 | [],_=>.any
 | (j,v)::r,i=>if i=j then v else get r i
def W6_ (t:List (Nat × V)):Option Tmp->V->List (Nat × V)
 | none,_=>t
 | some d,v=>(d,v)::t
def All:Nat->Prop:=fun _=>True
structure Holds (fr:Nat->Prop) (F:Nat->Prop) (ι:E3) (σ:St) (a:Act) (w:World):Prop where
 defers:a.defers=[]
 size:a.tmps.size=σ.N
 tmps:∀ i,VRel ι (Own F ι σ.H) w (get σ.t i) (a.tmps.getD i undef)
 rep:Rep F ι σ.H w
 fresh:∀ n,fr n->σ.k<=n->ι n=none
def zH6:Value->V
 | .agg _=>.any
 | .tuple _=>.any
 | v=>.val v
def A7 (t:List (Nat × V)):Operand->V
 | .tmp i=>get t i
 | .const v=>zH6 v
 | .global g=>.val (.pointer (some ⟨g,0,none⟩))
 | .func f=>.fn (.func f) [] []
structure Ext (fr:Nat->Prop) (ι:E3) (H:A8) (k:Nat) (w:World) (ι':E3) (H':A8) (k':Nat) (w':World):Prop where
 kept:Kept ι H w ι' H' w'
 le:k<=k'
 same:∀ n,(fr n->n<k)->ι' n=ι n
 dom:∀ n,n∈H'.map Prod.fst->n∈H.map Prod.fst\/(fr n/\k<=n)
theorem Ext.refl (fr:Nat->Prop) (ι:E3) (H:A8) (k:Nat) (w:World):Ext fr ι H k w ι H k w:=⟨.refl _ _ _,Nat.le_refl _,fun _ _=>rfl,fun _ h=>.inl h⟩
theorem Ext.trans {fr:Nat->Prop} {ι ι' ι'':E3} {H H' H'':A8} {k k' k'':Nat} {w w' w'':World} (h:Ext fr ι H k w ι' H' k' w') (h':Ext fr ι' H' k' w' ι'' H'' k'' w''):Ext fr ι H k w ι'' H'' k'' w'' :=
 ⟨h.kept.trans h'.kept,Nat.le_trans h.le h'.le,fun n hn=>(h'.same n fun hf=>Nat.lt_of_lt_of_le (hn hf) h.le).trans (h.same n hn),fun n hn=>(h'.dom n hn).elim (h.dom n) fun hk=>.inr ⟨hk.1,Nat.le_trans h.le hk.2⟩⟩
structure Out (fr:Nat->Prop) (F:Nat->Prop) (ι:E3) (H:A8) (k:Nat) (w:World) (ι':E3) (v:V) (cv:Value) (H':A8) (k':Nat) (w':World):Prop where
 ext:Ext fr ι H k w ι' H' k' w'
 rep:Rep F ι' H' w'
 fresh:∀ n,fr n->k'<=n->ι' n=none
 val:VRel ι' (Own F ι' H') w' v cv
section
variable {fr:Nat->Prop} {F:Nat->Prop} {ι ι':E3} {σ σ':St} {a a':Act} {w w':World}
theorem Holds.eval (h:Holds fr F ι σ a w) (x:Operand):VRel ι (Own F ι σ.H) w (A7 σ.t x) (a.eval x):=by
 cases x with
 | tmp i=>exact h.tmps i
 | const v =>
  simp only [A7,Act.eval]
  cases v<;>first|exact .any _|exact .val _ rfl
 | global g=>exact .val _ rfl
 | func f=>exact .fn .nil .nil
theorem W7 (xs:Array Value) (d i:Nat) (v:Value) (h:d<xs.size):(xs.setIfInBounds d v).getD i undef=if i=d then v else xs.getD i undef:=by
 simp only [Array.getD_eq_getD_getElem?,Array.getElem?_setIfInBounds]
 by_cases hi:i=d
 .subst hi;simp [h]
 simp [hi,Ne.symm hi]
theorem Holds.step (h : Holds fr F ι σ a w) {v : V} {cv : Value} {H' : A8} {k' : Nat} (O : Out fr F ι σ.H σ.k w ι' v cv H' k' w') {dst : Option Tmp} (hd : ∀ d, dst = some d → d < σ.N) :
    Holds fr F ι' ⟨σ.N,W6_ σ.t dst v,H',k'⟩ (a.put dst cv) w':=by
  have hS:=O.ext.kept.stays (F:=F)
  refine ⟨?_,?_,?_,O.rep,O.fresh⟩
  . cases dst<;>exact h.defers
  . cases dst with
    | none=>exact h.size
    | some d=>simp [Act.put,h.size]
  intro i
  cases dst with
  | none=>exact (h.tmps i).stays hS
  | some d =>
    have hlt:=hd d rfl
    simp only [W6_,get,Act.put]
    rw [W7 _ _ _ _ (by rw [h.size];exact hlt)]
    split
    . exact O.val
    exact (h.tmps i).stays hS
def OpT (fr:Nat->Prop) (P:Program) (o:Oper) (σ:St) (K:V->A8->Nat->Prop):Prop :=
 ∀ F ι a w,Holds fr F ι σ a w->∀ next Q,(∀ ι' v cv H' k' w',K v H' k'->Out fr F ι σ.H σ.k w ι' v cv H' k' w'->next (a.put o.dst cv) w')->o.wp P a w next Q
def TrL (P:Program) (ops:Array Oper) (l:List Oper) (K:St->Prop) (σ:St):Prop :=
 ∀ F ι a w,Holds All F ι σ a w->∀ Q:Exit->Act->World->Prop,
  (∀ ι' σ' a' w',K σ'->Holds All F ι' σ' a' w'->Ext All ι σ.H σ.k w ι' σ'.H σ'.k w'->Q .normal a' w')->wpList P ops Q l a w
def Tr (P:Program) (c:Code) (Q:Exit->St->Prop) (σ:St):Prop :=
 ∀ F ι a w,Holds All F ι σ a w->c.wp P (fun e a' w'=>∃ ι' σ',Q e σ'/\Holds All F ι' σ' a' w'/\Ext All ι σ.H σ.k w ι' σ'.H σ'.k w') a w
variable {P:Program} {Q Q':Exit->St->Prop}
variable {c x y:Code} {id:Nat}
theorem Tr.mono (h:Tr P c Q σ) (hq:∀ e σ',Q e σ'->Q' e σ'):Tr P c Q' σ:=fun F ι a w hh =>
 wp_mono (h F ι a w hh) fun e a' w' ⟨ι',σ',q,h1,h2⟩=>⟨ι',σ',hq _ _ q,h1,h2⟩
theorem A1 (h:Q .normal σ):Tr P .skip Q σ:=fun _ ι _ w hh=>wp_skip ⟨ι,σ,h,hh,Ext.refl _ _ _ _ _⟩
theorem zim {l:Nat} (h:Q .normal σ):Tr P (.label l) Q σ:=fun _ ι _ w hh=>wp_label ⟨ι,σ,h,hh,Ext.refl _ _ _ _ _⟩
theorem A6 (h:Q (.exit id) σ):Tr P (.exit id) Q σ:=fun _ ι _ w hh=>wp_exit ⟨ι,σ,h,hh,Ext.refl _ _ _ _ _⟩
theorem zH7 (h:Q .ret σ):Tr P .ret Q σ:=fun _ ι _ w hh=>wp_ret ⟨ι,σ,h,hh,Ext.refl _ _ _ _ _⟩
def zSb (K:St->Prop) (Q:Exit->St->Prop):Exit->St->Prop
 | .normal,σ=>K σ
 | e,σ=>Q e σ
theorem W7_ (h:Tr P x (zSb (Tr P y Q) Q) σ):Tr P (.seq x y) Q σ:=fun F ι a w hh=>by
 refine wp_seq (wp_mono (h F ι a w hh) ?_)
 rintro e a' w' ⟨ι',σ',q,h1,h2⟩
 cases e with
 | normal=>exact wp_mono (q F ι' a' w' h1) fun e a'' w'' ⟨ι'',σ'',q',h1',h2'⟩=>⟨ι'',σ'',q',h1',h2.trans h2'⟩
 | _=>exact ⟨ι',σ',q,h1,h2⟩
theorem zU7 {c:Operand} {b:Bool} (hc:A7 σ.t c=.val (.bool b)) (ht:b=true->Tr P x Q σ) (hf:b=false->Tr P y Q σ):Tr P (.cond c x y) Q σ:=fun F ι a w hh=>by
 have he:=hh.eval c
 rw [hc] at he
 have:a.eval c=.bool b:=by generalize a.eval c=x at he;cases he;rfl
 exact wp_cond_split this (fun e=>ht e F ι a w hh) (fun e=>hf e F ι a w hh)
def XS_ (id:Nat) (Q:Exit->St->Prop):Exit->St->Prop
 | .exit id',σ=>if id'=id then Q .normal σ else Q (.exit id') σ
 | e,σ=>Q e σ
theorem A0 (h:Tr P c (XS_ id Q) σ):Tr P (.block id c) Q σ:=fun F ι a w hh=>by
 refine wp_block (wp_mono (h F ι a w hh) ?_)
 rintro e a' w' ⟨ι',σ',q,h1,h2⟩
 cases e with
 | exit id' =>
  simp only [XS_,Exit.inBlock] at q ⊢
  split at q<;>simp only [*,if_true,if_false]<;>exact ⟨ι',σ',q,h1,h2⟩
 | _=>exact ⟨ι',σ',q,h1,h2⟩
theorem zU8 (I:Nat->St->Prop) (n:Nat) (h0:I n σ) (round:∀ n σ,I n σ->Tr P c (zSb (fun σ'=>∃ m,m<n/\I m σ') Q) σ):Tr P (.loop c) Q σ:=by
  intro F ι a w hh b k cs
  have key : ∀ n σ ι a w, I n σ → Holds All F ι σ a w →
      ∃ e a' w',(∃ ι' σ',Q e σ'/\Holds All F ι' σ' a' w'/\Ext All ι σ.H σ.k w ι' σ'.H σ'.k w')/\Arrives P (lone (b.at a (.code c::.inLoop c::k)) cs w) b k cs e a' w':=by
    intro n
    induction n using Nat.strongRecOn with
    | _ n ih =>
      intro σ ι a w hI hh
      obtain ⟨e,a₁,w₁,⟨ι₁,σ₁,hq,hh₁,hx⟩,harr⟩:=round n σ hI F ι a w hh b (.inLoop c::k) cs
      cases e with
      | normal =>
        obtain ⟨m,hlt,hI₁⟩:=hq
        obtain ⟨e₂,a₂,w₂,⟨ι₂,σ₂,hq₂,hh₂,hx₂⟩,harr₂⟩:=ih m hlt σ₁ ι₁ a₁ w₁ hI₁ hh₁
        exact ⟨e₂,a₂,w₂,⟨ι₂,σ₂,hq₂,hh₂,hx.trans hx₂⟩,.of_steps (Steps.trans harr (.one step_inLoop)) harr₂⟩
      | exit id=>exact ⟨_,a₁,w₁,⟨ι₁,σ₁,hq,hh₁,hx⟩,.pass (x:=.inLoop c) rfl (fun _ _=>.inl (by simp)) harr⟩
      | goto l=>exact ⟨_,a₁,w₁,⟨ι₁,σ₁,hq,hh₁,hx⟩,.pass (x:=.inLoop c) rfl (fun _ _=>.inl (by simp)) harr⟩
      | ret=>exact ⟨_,a₁,w₁,⟨ι₁,σ₁,hq,hh₁,hx⟩,.pass (x:=.inLoop c) rfl (fun _ _=>.inl (by simp)) harr⟩
      | panic ch=>exact ⟨_,a₁,w₁,⟨ι₁,σ₁,hq,hh₁,hx⟩,.pass (x:=.inLoop c) rfl (fun _ _=>.inl (by simp)) harr⟩
      | outgrown=>exact ⟨_,a₁,w₁,⟨ι₁,σ₁,hq,hh₁,hx⟩,.pass (x:=.inLoop c) rfl (fun _ _=>.inl (by simp)) harr⟩
  obtain ⟨e,a',w',hq,harr⟩:=key n σ ι a w h0 hh
  exact ⟨e,a',w',hq,.of_steps (.one step_loop) harr⟩
structure Weaker (σ σ':St):Prop where
 h:∀ F ι a w,Holds All F ι σ a w->∃ ι',Holds All F ι' σ' a w/\Ext All ι σ.H σ.k w ι' σ'.H σ'.k w
theorem Tr.weaken (hw:Weaker σ σ') (h:Tr P c Q σ'):Tr P c Q σ:=fun F ι a w hh=>by
 obtain ⟨ι',h1,h2⟩:=hw.h F ι a w hh
 exact wp_mono (h F ι' a w h1) fun e a'' w'' ⟨ι'',σ'',q',h1',h2'⟩=>⟨ι'',σ'',q',h1',h2.trans h2'⟩
theorem Weaker.refl (σ:St):Weaker σ σ:=⟨fun _ ι _ _ h=>⟨ι,h,Ext.refl _ _ _ _ _⟩⟩
theorem Weaker.trans {σ σ' σ'':St} (h:Weaker σ σ') (h':Weaker σ' σ''):Weaker σ σ'':=⟨fun F ι a w hh=>by
 obtain ⟨ι',h1,h2⟩:=h.h F ι a w hh
 obtain ⟨ι'',h3,h4⟩:=h'.h F ι' a w h1
 exact ⟨ι'',h3,h2.trans h4⟩⟩
theorem Weaker.tmps {N k:Nat} {H:A8} {t t':List (Nat × V)} (h:∀ i,get t' i=.any\/get t' i=get t i):Weaker ⟨N,t,H,k⟩ ⟨N,t',H,k⟩ :=
 ⟨fun _ ι _ _ hh=>⟨ι,⟨hh.defers,hh.size,fun i=>by
  rcases h i with e|e
  .rw [e];exact .any _
  rw [e];exact hh.tmps i,hh.rep,hh.fresh⟩,Ext.refl _ _ _ _ _⟩⟩
theorem Weaker.perm {N k:Nat} {H H':A8} {t:List (Nat × V)} (p:H.Perm H'):Weaker ⟨N,t,H,k⟩ ⟨N,t,H',k⟩ :=
 ⟨fun _ ι _ _ hh=>⟨ι,⟨hh.defers,hh.size,fun i=>(hh.tmps i).stays (Kept.perm p).stays,hh.rep.perm p,hh.fresh⟩,Kept.perm p,Nat.le_refl _,fun _ _=>rfl,fun _ h=>.inl ((p.map _).mem_iff.2 h)⟩⟩
theorem Weaker.del {N k:Nat} {H:A8} {t:List (Nat × V)} (n:Nat):Weaker ⟨N,t,H,k⟩ ⟨N,t,del n H,k⟩ :=
 ⟨fun _ ι _ _ hh=>⟨ι,⟨hh.defers,hh.size,fun i=>(hh.tmps i).stays (O9 hh.rep n).stays,hh.rep.del n,hh.fresh⟩,O9 hh.rep n,Nat.le_refl _,fun _ _=>rfl,fun _ h=>.inl ((F4 n H).mem h)⟩⟩
def Enters (P:Program) (f:FuncId):Prop:=∃ fn,P.funcs[f]?=some fn/\(fn.name== "runtime.NumGoroutine")=false/\fn.body.isNone=false
structure Fn (P:Program) (f:FuncId) (args:List V) (H:A8) (k:Nat) (K:V->A8->Nat->Prop):Prop where
 enters:Enters P f
 calls:∀ F ι w cargs,VRels ι (Own F ι H) w args cargs->Rep F ι H w->(∀ n,k<=n->ι n=none) →
  Calls P f cargs.toArray w fun e w'=>∃ ι' v cv H' k',e=.returned cv/\K v H' k'/\Out All F ι H k w ι' v cv H' k' w'
theorem Fn.mono {f:FuncId} {args:List V} {H:A8} {k:Nat} {K K':V->A8->Nat->Prop} (h:Fn P f args H k K) (hk:∀ v H' k',K v H' k'->K' v H' k'):Fn P f args H k K' :=
 ⟨h.enters,fun F ι w cargs h1 h2 h3=>(h.calls F ι w cargs h1 h2 h3).mono fun _ _ ⟨ι',v,cv,H',k',e,q,o⟩=>⟨ι',v,cv,H',k',e,hk _ _ _ q,o⟩⟩
theorem Out.frame {H H' G : A8} {k k' : Nat} {v : V} {cv : Value} (R : Rep F ι (H ++ G) w) (hf : ∀ n, fr n → k ≤ n → ι n = none) (O : Out fr (Fr F ι G) ι H k w ι' v cv H' k' w') :
    Out fr F ι (H++G) k w ι' v cv (H'++G) k' w':=by
  have hn:=R.names
  simp only [map_append] at hn
  rw [nodup_append] at hn
  have hG:∀ n,n∈G.map Prod.fst->fr n->n<k:=fun n h hfn=>by
    obtain ⟨⟨m,b⟩,hm,he⟩:=List.mem_map.1 h
    simp only at he;subst he
    obtain ⟨l,hl,_⟩:=R.own m b (List.mem_append.2 (.inr hm))
    refine Nat.lt_of_not_le fun hk=>?_
    rw [hf m hfn hk] at hl;cases hl
  have hd:∀ n,n∈H'.map Prod.fst->n∉G.map Prod.fst:=fun n h hg=>by
    rcases O.ext.dom n h with h'|h'
    . exact hn.2.2 n h' n hg rfl
    have:=hG n hg h'.1;omega
  have hFr:Fr F ι' G=Fr F ι G:=funext fun b=>propext (Fr.later R O.ext.kept.le b)
  refine ⟨⟨Kept.frame R O.ext.kept,O.ext.le,O.ext.same,?_⟩,Rep.give R O.ext.kept O.rep hd,O.fresh,?_⟩
  . intro n h
    simp only [map_append,mem_append] at h ⊢
    rcases h with h|h
    . exact (O.ext.dom n h).imp .inl id
    exact .inl (.inr h)
  rw [R7,hFr];exact O.val
theorem Out.perm_in {H H1 H':A8} {k k':Nat} {v:V} {cv:Value} (p:H.Perm H1) (O:Out fr F ι H1 k w ι' v cv H' k' w'):Out fr F ι H k w ι' v cv H' k' w' :=
 ⟨⟨(Kept.perm p).trans O.ext.kept,O.ext.le,O.ext.same,fun n h=>(O.ext.dom n h).imp (fun h=>(p.map _).mem_iff.2 h) id⟩,O.rep,O.fresh,O.val⟩
theorem Fn.frame {f : FuncId} {args : List V} {H Hf G : A8} {k : Nat} {R K : V → A8 → Nat → Prop} (h : Fn P f args Hf k R) (p : H.Perm (Hf ++ G))
    (hk:∀ v H' k',k<=k'->R v H' k'->K v (H'++G) k'):Fn P f args H k K:=by
  refine ⟨h.enters,fun F ι w cargs h1 h2 h3=>?_⟩
  have R':=h2.perm p
  have e:Own F ι H=Own (Fr F ι G) ι Hf:=by
    rw [<-R7];exact funext fun b=>propext ⟨fun h=>h.imp id (OwnH.perm p b).1,fun h=>h.imp id (OwnH.perm p b).2⟩
  rw [e] at h1
  refine (h.calls (Fr F ι G) ι w cargs h1 R'.lend h3).mono ?_
  rintro e w' ⟨ι',v,cv,H',k',he,hr,hO⟩
  exact ⟨ι',v,cv,H'++G,k',he,hk v H' k' hO.ext.le hr,Out.perm_in p (Out.frame R' (fun n _=>h3 n) hO)⟩
end
end Go.Sl
namespace Go.Sl
inductive D where
 | int (k:IntKind)
 | bool
 | string
 | slice (e:TypeId)
 | array (n:Nat) (e:TypeId)
 | struct (fs:List (TypeId × Nat × Nat))
 | pointer (e:TypeId)
 | map (k e:TypeId)
 | func
 | tuple
 | other
def D.of (P:Program):TypeDesc->D
 | .int k=>.int k
 | .bool=>.bool
 | .string=>.string
 | .slice e=>.slice e
 | .array n e=>.array n e
 | .struct fs=>.struct (fs.toList.map fun f=>(f.type,f.offset,P.cellsOf f.type))
 | .pointer e=>.pointer e
 | .map k e=>.map k e
 | .func _ _ _=>.func
 | .tuple _=>.tuple
 | _=>.other
structure TI where
 d:D
 size:Nat
 bytes:Nat
 zero:List Value
abbrev Tab:=Nat->Option TI
def XT_:Value->Bool
 | .agg _=>true
 | _=>false
def Jy_:TypeDesc->Bool
 | .struct _|.array ..=>true
 | _=>false
def zCa (P:Program) (t:TypeId):TypeDesc->Bool
 | .struct fs=>!P.stoodInHeld t&&fs.toList.all fun f=>f.name != "_"
 | _=>true
def C8 (P:Program) (t:TypeId):Option TI :=
 match P.underlying t,P.info? t with
 | some d,some i =>
  match i.zero with
  | some z=>if (z.cells.size==i.size&&z.cells.all (·.oneCell')&&(XT_ z==Jy_ d)&&zCa P t d)=true then some ⟨D.of P d,i.size,i.bytes,z.cells.toList⟩ else none
  | none=>none
 | _,_=>none
def J9 (P:Program) (T:Tab):Prop:=∀ t ti,T t=some ti->C8 P t=some ti
class Tq (P:Program) (T:outParam Tab):Prop where
 ok:J9 P T
 mx:P.follows .mixedOrders=true
def TI.agg (ti:TI):Bool:=match ti.d with|.struct _|.array ..=>true|_=>false
def TI.zeroV (ti:TI):V:=if ti.agg then .agg (ti.zero.map .val) else (ti.zero.map V.val).headD .any
variable {t:TypeId} {ti:TI}
theorem D3 {P:Program} (h : C8 P t = some ti) : ∃ d i z, P.underlying t = some d ∧ P.info? t = some i ∧ i.zero = some z ∧ z.cells.size = i.size ∧ z.cells.all (·.oneCell') = true ∧
    ti.d=D.of P d/\ti.size=i.size/\ti.bytes=i.bytes/\ti.zero=z.cells.toList/\XT_ z=Jy_ d:=by
  unfold C8 at h
  split at h
  . rename_i d i hd hi
    split at h
    . rename_i z hz
      split at h
      . rename_i hc
        simp only [Bool.and_eq_true,beq_iff_eq] at hc
        cases h
        exact ⟨d,i,z,hd,hi,hz,hc.1.1.1,hc.1.1.2,rfl,rfl,rfl,rfl,hc.1.2⟩
      cases h
    cases h
  cases h
theorem W8_ {P:Program} (h:C8 P t=some ti) {d:TypeDesc} (hd:P.underlying t=some d):zCa P t d=true:=by
 unfold C8 at h
 rw [hd] at h
 split at h
 .rename_i d' i hd' hi
  cases hd'
  split at h
  .split at h
   .rename_i hc
    simp only [Bool.and_eq_true,beq_iff_eq] at hc
    exact hc.2
   cases h
  cases h
 cases h
section
variable {fr:Nat->Prop} {F:Nat->Prop} {ι ι':E3} {O:Nat->Prop} {σ σ':St} {a a':Act} {w w':World} {P:Program} {T:Tab}
variable {K:V->A8->Nat->Prop} {o:Oper} {t:TypeId} {ti:TI} {v:V} {x:Value}
theorem Y5 (h:C8 P t=some ti) (w:World):(isAgg t).run P w=.ok ti.agg w:=by
 obtain ⟨d,i,z,hd,hi,hz,_,_,h1,_⟩:=D3 h
 unfold isAgg TI.agg
 rw [h1]
 cases d<;>simp [run_underlying hd,D.of]
theorem B9 (h:C8 P t=some ti) (w:World):(sizeOf t).run P w=.ok ti.size w:=by
 obtain ⟨d,i,z,hd,hi,hz,_,_,h1,h2,_⟩:=D3 h
 simp [sizeOf,typeInfo,hi,h2]
theorem YT_ (h:C8 P t=some ti) (w:World):∃ i z,(typeInfo t).run P w=.ok i w/\P.info? t=some i/\i.size=ti.size/\i.bytes=ti.bytes/\i.zero=some z/\z.cells.toList=ti.zero:=by
 obtain ⟨d,i,z,hd,hi,hz,_,_,h1,h2,h3,h4,_⟩:=D3 h
 exact ⟨i,z,by simp [typeInfo,hi],hi,h2.symm,h3.symm,hz,h4.symm⟩
theorem T1 (h:C8 P t=some ti) (w:World):∃ z,(zeroValue t).run P w=.ok z w/\z.cells.toList=ti.zero/\z.cells.size=ti.size:=by
 obtain ⟨d,i,z,hd,hi,hz,hs,_,h1,h2,h3,h4,_⟩:=D3 h
 exact ⟨z,by simp [zeroValue,typeInfo,hi,hz],h4.symm,by rw [hs,h2]⟩
theorem H3 (h:C8 P t=some ti):(∀ v∈ti.zero,v.oneCell'=true)/\ti.zero.length=ti.size:=by
 obtain ⟨d,i,z,hd,hi,hz,hs,ha,h1,h2,h3,h4,_⟩:=D3 h
 rw [h4,h2]
 refine ⟨fun v hv=>?_,by simpa using hs⟩
 rw [Array.all_eq_true_iff_forall_mem] at ha
 exact ha v (by simpa using hv)
theorem VRels.vals:∀ {xs:List Value},(∀ v∈xs,v.oneCell'=true)->VRels ι O w (xs.map .val) xs
 | [],_=>.nil
 | x::xs,h=>.cons (.val x (h x (by simp))) (VRels.vals fun v hv=>h v (by simp [hv]))
theorem Q2 (h:C8 P t=some ti):ti.zeroV.cells=ti.zero.map .val:=by
 obtain ⟨d,i,z,hd,hi,hz,hs,ha,h1,h2,h3,h4,h5⟩:=D3 h
 unfold TI.zeroV
 by_cases hg:ti.agg=true
 .rw [if_pos hg];rfl
 rw [if_neg hg]
 have hz':XT_ z=false:=by
  rw [h5]
  unfold TI.agg at hg
  rw [h1] at hg
  cases d<;>simp_all [D.of,Jy_]
 have:z.cells=#[z]:=by cases z<;>simp_all [Value.cells,XT_]
 rw [h4,this]
 rfl
theorem u2 (h:C8 P t=some ti):ti.zeroV.fits ti.size=true:=by
 unfold V.fits
 rw [Q2 h]
 rw [length_map,(H3 h).2]
 simp [V.one]
theorem C9 {sz:Nat}:v.fits sz=true↔v.cells.length=sz/\∀ c∈v.cells,c.one=true:=by simp [V.fits]
theorem Vy_ {vs:List V} {xs:List Value} (h:VRels ι O w vs xs) (h1:∀ c∈vs,c.one=true):∀ x∈xs,x.oneCell'=true:=by
 induction vs generalizing xs with
 | nil=>cases h;simp
 | cons v vs ih =>
  cases h with
  | cons h hs =>
   intro x hx
   cases hx with
   | head=>exact h.oneCell (h1 v (by simp))
   | tail _ hx=>exact ih hs (fun c hc=>h1 c (by simp [hc])) x hx
theorem S6 (h:∀ F ι a w,Holds fr F ι σ a w->∃ ι' v cv H' k' w',(execOp a.eval o).run P w=.ok (.value cv) w'/\K v H' k'/\Out fr F ι σ.H σ.k w ι' v cv H' k' w'):OpT fr P o σ K:=by
 intro F ι a w hh next Q hn
 obtain ⟨ι',v,cv,H',k',w',hr,hk,hO⟩:=h F ι a w hh
 unfold Oper.wp
 rw [hr]
 exact hn ι' v cv H' k' w' hk hO
theorem zCb (h:∀ F ι a w,Holds fr F ι σ a w->∃ ι' v H' k' w',(execOp a.eval o).run P w=.ok .skip w'/\K v H' k'/\Out fr F ι σ.H σ.k w ι' v undef H' k' w'):OpT fr P o σ K:=by
 intro F ι a w hh next Q hn
 obtain ⟨ι',v,H',k',w',hr,hk,hO⟩:=h F ι a w hh
 unfold Oper.wp
 rw [hr]
 exact hn ι' v undef H' k' w' hk hO
theorem Holds.same (h:Holds fr F ι σ a w) {v:V} {cv:Value} (hv:VRel ι (Own F ι σ.H) w v cv):Out fr F ι σ.H σ.k w ι v cv σ.H σ.k w :=
 ⟨Ext.refl _ _ _ _ _,h.rep,h.fresh,hv⟩
theorem C5 {K:V → A8 → Nat → Prop} (hk : K v σ.H σ.k)
    (h:∀ F ι a w,Holds fr F ι σ a w->∃ cv,(execOp a.eval o).run P w=.ok (.value cv) w/\VRel ι (Own F ι σ.H) w v cv):OpT fr P o σ K :=
  S6 fun F ι a w hh=>by
    obtain ⟨cv,hr,hv⟩:=h F ι a w hh
    exact ⟨ι,v,cv,σ.H,σ.k,w,hr,hk,hh.same hv⟩
theorem VRel.inv_bool {b:Bool} (h:VRel ι O w (.val (.bool b)) x):x=.bool b:=by cases h;rfl
theorem VRel.inv_val {u:Value} (h:VRel ι O w (.val u) x):x=u:=by cases h;rfl
theorem Jz_ (x:Operand) (ho:o.op=.move x\/o.op=.assign x) (hk:K (A7 σ.t x) σ.H σ.k):OpT fr P o σ K :=
 C5 hk fun F ι a w hh=>⟨a.eval x,by unfold execOp;rcases ho with ho|ho<;>rw [ho]<;>rfl,hh.eval x⟩
theorem zU9 (c x y:Operand) (ho:o.op=.pick c x y) {b:Bool} (hc:A7 σ.t c=.val (.bool b)) (ht:b=true->K (A7 σ.t x) σ.H σ.k) (hf:b=false->K (A7 σ.t y) σ.H σ.k):OpT fr P o σ K:=by
  cases b with
  | true => exact C5 (ht rfl) fun F ι a w hh => ⟨a.eval x, by
      have:=hh.eval c;rw [hc] at this
      unfold execOp;rw [ho];simp [this.inv_bool,asBool],hh.eval x⟩
  | false => exact C5 (hf rfl) fun F ι a w hh => ⟨a.eval y, by
      have:=hh.eval c;rw [hc] at this
      unfold execOp;rw [ho];simp [this.inv_bool,asBool],hh.eval y⟩
theorem u3 (hfr : fr σ.k) (hh : Holds fr F ι σ a w) (e : TypeId) (sz : Nat) (es : List V) (hfit : ∀ v ∈ es, v.fits sz = true) (c : Array Value) (hc : es.length * sz ≤ c.size)
    (hv:VRels ι (Own F ι σ.H) w (es.flatMap V.cells) (c.toList.take (es.length*sz))) (w0:World) (hw0:w0.heap=w.heap) (hos:w0.os=w.os) (htp:Tp w w0) (hou:w0.output=w.output)
    {v:V} {cv:Value} (hcv:∀ ι',ι' σ.k=some ⟨w.heap.size,0,sz,c.size,false,false⟩->VRel ι' (Own F ι' ((σ.k,.rows sz es)::σ.H)) (w0.alloc (.cells c e)) v cv) :
    Out fr F ι σ.H σ.k w (upd ι σ.k ⟨w.heap.size,0,sz,c.size,false,false⟩) v cv ((σ.k,.rows sz es)::σ.H) (σ.k+1) (w0.alloc (.cells c e)):=by
  have hk:=hh.fresh σ.k hfr (Nat.le_refl _)
  have hhp:∀ i,i<w.heap.size->(w0.alloc (.cells c e)).heap[i]?=w.heap[i]?:=fun i hi=>by
    rw [<-hw0] at hi ⊢;exact heap_alloc_old w0 _ i hi
  have hsz:(w0.alloc (.cells c e)).heap.size=w.heap.size+1:=by rw [World.size_alloc,hw0]
  refine ⟨⟨u1 hh.rep hk _ _ rfl hos htp hou (by omega) hhp,Nat.le_succ _,fun n hn=>F9 _ _ _ _ (fun e=>by subst e;have:=hn hfr;omega),?_⟩,?_,?_,hcv _ (B4 _ _ _)⟩
  . intro n hn
    simp only [map_cons,mem_cons] at hn
    rcases hn with hn|hn
    . subst hn;exact .inr ⟨hfr,by omega⟩
    exact .inl hn
  . refine hh.rep.alloc hk _ _ rfl hos htp hou (by omega) hhp fun ι' O' S=>⟨rfl,rfl,hfit,.inr ⟨rfl,c,e,?_,rfl,by simpa using hc,?_⟩⟩
    . show (w0.alloc _).heap[w.heap.size]?=_
      rw [<-hw0];exact heap_alloc_new w0 _
    simpa using hv.stays S
  intro n hf hn
  rw [F9 _ _ _ _ (by omega)]
  exact hh.fresh n hf (by omega)
theorem zUa (v:V):[v].flatMap V.cells=v.cells:=by simp
theorem zF9 (hfr : fr σ.k) (hh : Holds fr F ι σ a w) (e : TypeId) (sz : Nat) (v : V) (x : Value) (hfit : v.fits sz = true) (hv : VRel ι (Own F ι σ.H) w v x) :
    Out fr F ι σ.H σ.k w (upd ι σ.k ⟨w.heap.size,0,sz,x.cells.size,false,false⟩) (.ptr σ.k 0 0) (.pointer (some ⟨w.heap.size,0,none⟩)) ((σ.k,.rows sz [v])::σ.H) (σ.k+1) (w.alloc (.cells x.cells e)):=by
  have hf:=C9.1 hfit
  have hany:v.isAny=false:=by
    cases v<;>simp_all [V.isAny,V.cells,V.one]
  have hc:=hv.cells hany
  have hl:=hc.length
  have hsz:x.cells.size=sz:=by rw [<-Array.length_toList,<-hl,hf.1]
  refine u3 hfr hh e sz [v] (by simpa using hfit) x.cells (by simp [hsz]) ?_ w rfl rfl (Tp.refl _) rfl ?_
  . simpa [hsz,take_of_length_le (show x.cells.toList.length<=sz by simp [hsz])] using hc
  intro ι' h;exact .ptr h rfl rfl (by simp)
theorem zc9 (hfr : fr σ.k) {o : Oper} {K : V → A8 → Nat → Prop} (e : TypeId) (x : Operand) (ho : o.op = .box e x) {ti : TI} (hti : C8 P e = some ti) (hfit : (A7 σ.t x).fits ti.size = true)
    (hk:K (.ptr σ.k 0 0) ((σ.k,.rows ti.size [A7 σ.t x])::σ.H) (σ.k+1)):OpT fr P o σ K :=
  S6 fun F ι a w hh=>⟨_,_,_,_,_,_,by
    unfold execOp;rw [ho]
    simp [Instr.box,newVar,newRow],hk,zF9 hfr hh e ti.size _ _ hfit (hh.eval x)⟩
theorem zNx (hfr : fr σ.k) {o : Oper} {K : V → A8 → Nat → Prop} (e : TypeId) (ho : o.op = .alloc e) {ti : TI} (hti : C8 P e = some ti)
    (hk:K (.ptr σ.k 0 0) ((σ.k,.rows ti.size [ti.zeroV])::σ.H) (σ.k+1)):OpT fr P o σ K :=
  S6 fun F ι a w hh=>by
    obtain ⟨z,hz,hzc,hzs⟩:=T1 hti w
    have hv:VRels ι (Own F ι σ.H) w ti.zeroV.cells z.cells.toList:=by
      rw [Q2 hti,hzc];exact VRels.vals (H3 hti).1
    refine ⟨_,_,_,_,_,_,?_,hk,u3 hfr hh e ti.size [ti.zeroV] (by simpa using u2 hti) z.cells (by simp [hzs]) (cv:=.pointer (some ⟨w.heap.size,0,none⟩)) ?_ w rfl rfl (Tp.refl _) rfl ?_⟩
    . unfold execOp;rw [ho]
      simp [Instr.alloc,newVar,newRow,hz]
    . simpa [hzs,take_of_length_le (show z.cells.toList.length<=ti.size by simp [hzs])] using hv
    intro ι' h;exact .ptr h rfl rfl (by simp)
end
end Go.Sl
namespace Go.Sl
def cut (j n:Nat) (cs:List V):List V:=(cs.drop j).take n
variable {α:Type}
theorem zUb {cs:List V} {n:Nat} (h:cs.length=n):cut 0 n cs=cs:=by simp [cut,take_of_length_le (Nat.le_of_eq h)]
def F5 (agg:Bool) (n:Nat) (cs:List V) (j:Nat):V:=if agg then .agg (cut j n cs) else cs.getD j .any
def splice {α:Type} (cs:List α) (o:Nat) (us:List α):List α:=cs.take o++(us++cs.drop (o+us.length))
theorem J3 (cs:List α) (o:Nat) (us:List α) (h:o+us.length<=cs.length):(splice cs o us).length=cs.length:=by
 simp only [splice,length_append,length_take,length_drop];omega
theorem zFa {α:Type} {cs us:List α} (h:us.length=cs.length):splice cs 0 us=us:=by
 simp [splice,drop_of_length_le (Nat.le_of_eq h.symm)]
theorem W9_ {α:Type} {cs us:List α} {o:Nat} {x:α} (h:x∈splice cs o us):x∈cs\/x∈us:=by
 simp only [splice,mem_append] at h
 rcases h with h|h|h
 .exact .inl (mem_of_mem_take h)
 .exact .inr h
 exact .inl (mem_of_mem_drop h)
theorem getElem?_splice (cs us:List α) (o q:Nat) (h:o+us.length<=cs.length):(splice cs o us)[q]?=if o<=q/\q<o+us.length then us[q-o]? else cs[q]?:=by
 unfold splice
 have hl:(cs.take o).length=o:=by rw [length_take];omega
 by_cases h1:q<o
 .rw [List.getElem?_append_left (by omega),List.getElem?_take,if_pos h1,if_neg (by omega)]
 rw [List.getElem?_append_right (by omega),hl]
 by_cases h2:q<o+us.length
 .rw [List.getElem?_append_left (by omega),if_pos ⟨by omega,h2⟩]
 rw [List.getElem?_append_right (by omega),List.getElem?_drop,if_neg (by omega)]
 congr 1;omega
theorem ZO_ (c ys:List α) (o m q off:Nat) (h:off=o+q) (h1:q+ys.length<=m) (h2:o+m<=c.length):((splice c off ys).drop o).take m=splice ((c.drop o).take m) q ys:=by
 have hl:((c.drop o).take m).length=m:=by rw [length_take,length_drop];omega
 apply List.ext_getElem?
 intro r
 rw [getElem?_splice ((c.drop o).take m) ys q r (by rw [hl];exact h1)]
 simp only [List.getElem?_take,List.getElem?_drop]
 rw [getElem?_splice c ys off (o+r) (by omega)]
 by_cases hr:r<m
 .simp only [hr,if_true]
  by_cases hr2:q<=r/\r<q+ys.length
  .rw [if_pos (by omega),if_pos hr2];congr 1;omega
  rw [if_neg (by omega),if_neg hr2]
 simp only [hr,if_false]
 rw [if_neg (by omega)]
def B2 (v:V) (j:Nat) (u:V):V :=
 match v with
 | .agg cs=>.agg (splice cs j u.cells)
 | _=>u
section
variable {fr:Nat->Prop} {F:Nat->Prop} {ι ι':E3} {O:Nat->Prop} {H:A8} {σ σ':St} {a a':Act} {w w':World} {P:Program} {T:Tab}
theorem VRels.splice {cs us:List V} {xs ys:List Value} (h:VRels ι O w cs xs) (h':VRels ι O w us ys) (o:Nat):VRels ι O w (splice cs o us) (splice xs o ys):=by
 unfold Sl.splice
 rw [h'.length]
 exact (h.take o).append (h'.append (h.drop _))
variable {K:V → A8 → Nat → Prop} {b i off sz:Nat} {c:Array Value} {e t:TypeId} {es:List V} {o:Oper} {ti:TI} {v:V}
theorem M2 (h:∀ v∈es,v.cells.length=sz) (i:Nat):(es.flatMap V.cells).drop (i*sz)=(es.drop i).flatMap V.cells:=by
 induction es generalizing i with
 | nil=>simp
 | cons v es ih =>
  cases i with
  | zero=>simp
  | succ i =>
   have hv:=h v (by simp)
   rw [flatMap_cons,drop_append,hv,drop_succ_cons,<-ih (fun v hv=>h v (by simp [hv])) i]
   rw [drop_of_length_le (by rw [hv,Nat.add_mul];omega),nil_append]
   congr 1
   rw [Nat.add_mul];omega
theorem G6 (h:∀ v∈es,v.cells.length=sz):(es.flatMap V.cells).length=es.length*sz:=by
 induction es with
 | nil=>simp
 | cons v es ih=>rw [flatMap_cons,length_append,h v (by simp),ih (fun v hv=>h v (by simp [hv])),length_cons,Nat.add_mul];omega
theorem O5 (h:∀ v∈es,v.cells.length=sz) (i:Nat):(es.flatMap V.cells).take (i*sz)=(es.take i).flatMap V.cells:=by
 induction es generalizing i with
 | nil=>simp
 | cons v es ih =>
  cases i with
  | zero=>simp
  | succ i =>
   have hv:=h v (by simp)
   rw [flatMap_cons,take_append,hv,take_succ_cons,flatMap_cons,<-ih (fun v hv=>h v (by simp [hv])) i]
   rw [take_of_length_le (by rw [hv,Nat.add_mul];omega)]
   congr 2
   rw [Nat.add_mul];omega
theorem J1 (h:∀ v∈es,v.cells.length=sz) (hv:es[i]?=some v):((es.flatMap V.cells).drop (i*sz)).take sz=v.cells:=by
 rw [M2 h]
 have hlt:=(List.getElem?_eq_some_iff.1 hv).1
 have e:es.drop i=v::es.drop (i+1):=by
  rw [drop_eq_getElem_cons hlt]
  congr 1
  exact (List.getElem?_eq_some_iff.1 hv).2
 rw [e,flatMap_cons,take_append,h v (List.mem_of_getElem? hv)]
 simp [take_of_length_le (Nat.le_of_eq (h v (List.mem_of_getElem? hv)))]
theorem XU_ (h : ∀ v ∈ es, v.cells.length = sz) (hi : i < es.length) (hv : v.cells.length = sz) :
    (es.set i v).flatMap V.cells=splice (es.flatMap V.cells) (i*sz) v.cells:=by
  unfold splice
  rw [hv,<-Nat.succ_mul,M2 h,O5 h]
  rw [set_eq_take_append_cons_drop,if_pos hi]
  simp
theorem Rep.block (R : Rep F ι H w) {n sz : Nat} {es : List V} (h : look n H = some (.rows sz es)) {l : Loc} (hl : ι n = some l) (hg : l.ghost = false) :
    l.sz=sz/\l.map=false/\(∀ v∈es,v.fits sz=true)/\l.b<w.heap.size/\¬ F l.b/\∃ c e,w.heap[l.b]?=some (.cells c e (0,0))/\c.size=l.size/\l.o+es.length*sz<=c.size ∧
      VRels ι (Own F ι H) w (es.flatMap V.cells) ((c.toList.drop l.o).take (es.length*sz)):=by
  obtain ⟨l',hl',⟨h1,h2,h3,h4⟩,h5⟩:=R.known h
  rw [hl] at hl';cases hl'
  rcases h4 with ⟨h4,_⟩|⟨_,c,e,hw,hc,ho,hv⟩
  . rw [hg] at h4;cases h4
  exact ⟨h1,h2,h3,(h5 hg).1,(h5 hg).2,c,e,hw,hc,ho,hv⟩
theorem ZP_ {fr:Nat × Nat} (hw:w.heap[b]?=some (.cells c e fr)) (q:Nat):w.cell? ((⟨b,off,none⟩:Addr).add q)=c[off+q]?:=by
 rw [Addr.add_lit,cell_of_row w b (off+q) c e fr hw]
theorem Y1_ {n:Nat} {fr:Nat × Nat} (hw:w.heap[b]?=some (.cells c e fr)):∀ q v,((c.toList.drop off).take n)[q]?=some v->w.cell? ((⟨b,off,none⟩:Addr).add q)=some v:=by
 intro q v h
 rw [ZP_ hw]
 rw [List.getElem?_take] at h
 split at h
 .rw [List.getElem?_drop] at h;simpa using h
 cases h
theorem x9 (hti : C8 P t = some ti) {b off : Nat} {c : Array Value} {e : TypeId} {fr : Nat × Nat} (hw : w.heap[b]? = some (.cells c e fr)) (hin : off + ti.size ≤ c.size)
    {cs:List V} (hv:VRels ι O w cs ((c.toList.drop off).take ti.size)):∃ x,(loadVar t ⟨b,off,none⟩).run P w=.ok x w/\VRel ι O w (F5 ti.agg ti.size cs 0) x:=by
  have hl:((c.toList.drop off).take ti.size).length=ti.size:=by simp;omega
  unfold loadVar F5
  by_cases hg:ti.agg=true
  . refine ⟨.agg ((c.toList.drop off).take ti.size).toArray,?_,?_⟩
    . have:=run_loadCells_list (P:=P) w ⟨b,off,none⟩ ((c.toList.drop off).take ti.size) (Y1_ hw)
      rw [hl] at this
      simp [Y5 hti,B9 hti,hg,this]
    rw [if_pos hg,zUb (by rw [hv.length,hl])]
    exact .agg hv
  have h1:ti.size=1:=by
    have:=Q2 hti
    have h2:=(H3 hti).2
    unfold TI.zeroV at this
    rw [if_neg hg] at this
    cases hz:ti.zero with
    | nil=>rw [hz] at this;simp [V.cells] at this
    | cons z zs =>
      rw [hz] at this h2
      simp [V.cells] at this
      rw [this] at h2
      simpa using h2.symm
  rw [if_neg hg]
  obtain ⟨x,hx⟩:∃ x,c[off]?=some x:=⟨_,Array.getElem?_eq_getElem (by omega)⟩
  have hc0:=ZP_ (off:=off) hw 0
  rw [Addr.add_zero',Nat.add_zero,hx] at hc0
  refine ⟨x,by simp [Y5 hti,hg,hc0],?_⟩
  have hxs:((c.toList.drop off).take ti.size)[0]?=some x:=by
    rw [List.getElem?_take,if_pos (by omega),List.getElem?_drop];simpa using hx
  have h0:cs.length=1:=by rw [hv.length,hl,h1]
  obtain ⟨u,hu⟩:∃ u,cs[0]?=some u:=⟨_,List.getElem?_eq_getElem (by omega)⟩
  obtain ⟨y,hy,hvy⟩:=hv.get 0 u hu
  rw [hxs] at hy;cases hy
  simpa [List.getD,hu] using hvy
theorem ZQ_ (hti:C8 P t=some ti) (hg:¬ ti.agg=true):0<ti.size:=by
 have h2:=(H3 hti).2
 rcases Nat.eq_zero_or_pos ti.size with h0|h0
 .exfalso
  have:=Q2 hti
  unfold TI.zeroV at this;rw [if_neg hg] at this
  rw [h0] at h2
  rw [eq_nil_of_length_eq_zero h2] at this
  simp [V.cells] at this
 exact h0
theorem zCc (hti:C8 P t=some ti) {cs:List V} {j:Nat} {y:Value} (h:VRel ι O w (F5 ti.agg ti.size ((cs.drop j).take ti.size) 0) y):VRel ι O w (F5 ti.agg ti.size cs j) y:=by
 unfold F5 at h ⊢
 split
 .rename_i hg';rw [if_pos hg'] at h;simpa [cut,take_take] using h
 rename_i hg';rw [if_neg hg'] at h
 have:=ZQ_ hti hg'
 simpa [List.getD,List.getElem?_take,List.getElem?_drop,this] using h
theorem YU_ (R : Rep F ι H w) {t : TypeId} {ti : TI} (hti : C8 P t = some ti) {n i j sz : Nat} {es : List V} {cx : Value} (hx : VRel ι (Own F ι H) w (.ptr n i j) cx)
    (hn:look n H=some (.rows sz es)) (hi:i<es.length) (hj:j+ti.size<=sz) :
    ∃ ad y,cx=.pointer (some ad)/\(loadVar t ad).run P w=.ok y w/\VRel ι (Own F ι H) w (F5 ti.agg ti.size (es.getD i .any).cells j) y:=by
  cases hx with
  | ptr hl hg hm hoff =>
    rename_i off l
    obtain ⟨h1,h2,h3,h4,h5,c,e,hw,hc,hlen,hv⟩:=R.block hn hl hg
    have hcl:∀ v∈es,v.cells.length=sz:=fun v hv=>(C9.1 (h3 v hv)).1
    obtain ⟨v,hvi⟩:∃ v,es[i]?=some v:=⟨_,List.getElem?_eq_getElem hi⟩
    have hd:es.getD i .any=v:=by simp [List.getD,hvi]
    have hmul:i*sz+sz<=es.length*sz:=by rw [<-Nat.succ_mul];exact Nat.mul_le_mul_right _ hi
    have hel:=(hv.drop (i*sz)).take sz
    rw [J1 hcl hvi] at hel
    have hpart:=(hel.drop j).take ti.size
    have hin:off+ti.size<=c.size:=by rw [hoff,h1];omega
    have hlist:(((((c.toList.drop l.o).take (es.length*sz)).drop (i*sz)).take sz).drop j).take ti.size=(c.toList.drop off).take ti.size:=by
      apply List.ext_getElem?
      intro q
      simp only [List.getElem?_take,List.getElem?_drop]
      by_cases hq:q<ti.size
      . simp only [hq,if_true,show j+q<sz by omega,show i*sz+(j+q)<es.length*sz by omega]
        congr 1;rw [hoff,h1];omega
      simp [hq]
    rw [hlist] at hpart
    obtain ⟨y,hy,hvy⟩:=x9 hti hw hin hpart
    exact ⟨_,y,rfl,hy,by rw [hd];exact zCc hti hvy⟩
theorem XV_ (hti : C8 P t = some ti) {j : Nat} {cs : List V} {cx : Value} (hx : VRel ι O w (.rp cs j) cx) (hj : j + ti.size ≤ cs.length) :
    ∃ ad y,cx=.pointer (some ad)/\(loadVar t ad).run P w=.ok y w/\VRel ι O w (F5 ti.agg ti.size cs j) y:=by
  cases hx with
  | rp hb hO hw hsz hin hvs hv hoff =>
    rename_i b off off' c e fr vs
    subst hvs
    have hpart:=(hv.drop j).take ti.size
    have hlist:(((c.toList.drop off).take cs.length).drop j).take ti.size=(c.toList.drop off').take ti.size:=by
      apply List.ext_getElem?
      intro q
      simp only [List.getElem?_take,List.getElem?_drop]
      by_cases hq:q<ti.size
      . simp only [hq,if_true,show j+q<cs.length by omega]
        congr 1;rw [hoff];omega
      simp [hq]
    rw [hlist] at hpart
    obtain ⟨y,hy,hvy⟩:=x9 hti hw (by omega) hpart
    exact ⟨_,y,rfl,hy,zCc hti hvy⟩
theorem J0_ (t : TypeId) (x : Operand) (ho : o.op = .load t x) {ti : TI} (hti : C8 P t = some ti) {n i j sz : Nat} {es : List V} (hx : A7 σ.t x = .ptr n i j)
    (hn:look n σ.H=some (.rows sz es)) (hi:i<es.length) (hj:j+ti.size<=sz) (hk:K (F5 ti.agg ti.size (es.getD i .any).cells j) σ.H σ.k):OpT fr P o σ K :=
  C5 hk fun F ι a w hh=>by
    have he:=hh.eval x
    rw [hx] at he
    obtain ⟨ad,y,h1,h2,h3⟩:=YU_ (P:=P) hh.rep hti he hn hi hj
    refine ⟨y,?_,h3⟩
    unfold execOp;rw [ho];simp [h1,Instr.loadAt,Instr.sureAddr,h2]
theorem zFb (t : TypeId) (x : Operand) (ho : o.op = .load t x) {ti : TI} (hti : C8 P t = some ti) {j : Nat} {cs : List V} (hx : A7 σ.t x = .rp cs j)
    (hj:j+ti.size<=cs.length) (hk:K (F5 ti.agg ti.size cs j) σ.H σ.k):OpT fr P o σ K :=
  C5 hk fun F ι a w hh=>by
    have he:=hh.eval x
    rw [hx] at he
    obtain ⟨ad,y,h1,h2,h3⟩:=XV_ (P:=P) hti he hj
    refine ⟨y,?_,h3⟩
    unfold execOp;rw [ho];simp [h1,Instr.loadAt,Instr.sureAddr,h2]
theorem zFc (x:V) {j:Nat} {us:List V} (h:j+us.length<=1) (h0:0<us.length):us=splice [x] j us:=by
 have hj:j=0:=by omega
 subst hj
 rw [zFa (by simp;omega)]
theorem ZR_ {u:V} {j:Nat} (h:j+u.cells.length<=v.cells.length) (h0:0<u.cells.length):(B2 v j u).cells=splice v.cells j u.cells:=by
 cases v with
 | agg cs=>rfl
 | _=>exact zFc _ h h0
theorem QF_ (t : TypeId) (x y : Operand) (ho : o.op = .store t x y) {ti : TI} (hti : C8 P t = some ti) {n i j sz : Nat} {es : List V} (hx : A7 σ.t x = .ptr n i j)
    (hn:look n σ.H=some (.rows sz es)) (hi:i<es.length) (h0:0<ti.size) (hj:j+ti.size<=sz) (hfit:(A7 σ.t y).fits ti.size=true)
    (hk:K (.tup []) (put n (.rows sz (es.set i (B2 (es.getD i .any) j (A7 σ.t y)))) σ.H) σ.k):OpT fr P o σ K :=
  zCb fun F ι a w hh=>by
    have he:=hh.eval x
    have hy:=hh.eval y
    rw [hx] at he
    generalize hcv:a.eval x=cv at he
    generalize hcy:a.eval y=cy at hy
    generalize A7 σ.t y=u at hfit hk hy
    have hf:=C9.1 hfit
    have hany:u.isAny=false:=by cases u<;>simp_all [V.isAny,V.cells,V.one]
    have hyc:=hy.cells hany
    have hyl:cy.cells.size=ti.size:=by rw [<-Array.length_toList,<-hyc.length,hf.1]
    have hy1:=Vy_ hyc hf.2
    cases he with
    | ptr hl hg hm hoff =>
      rename_i off l
      obtain ⟨h1,h2,h3,h4,h5,c,e,hw,hc,hlen,hv⟩:=hh.rep.block hn hl hg
      have hcl:∀ v∈es,v.cells.length=sz:=fun v hv=>(C9.1 (h3 v hv)).1
      obtain ⟨v,hvi⟩:∃ v,es[i]?=some v:=⟨_,List.getElem?_eq_getElem hi⟩
      have hd:es.getD i .any=v:=by simp [List.getD,hvi]
      rw [hd] at hk
      have hvm:=List.mem_of_getElem? hvi
      have hvf:=C9.1 (h3 v hvm)
      have hpc:(B2 v j u).cells=splice v.cells j u.cells:=ZR_ (by rw [hf.1,hvf.1];exact hj) (by rw [hf.1];exact h0)
      have hpl:(B2 v j u).cells.length=sz:=by rw [hpc,J3 _ _ _ (by rw [hf.1,hvf.1];exact hj),hvf.1]
      have hmul:i*sz+sz<=es.length*sz:=by rw [<-Nat.succ_mul];exact Nat.mul_le_mul_right _ hi
      have hrun:=run_storeCells_at P l.b off e cy.cells.toList 0 c w hw (by rw [Array.length_toList,hyl,hoff,h1];omega) hy1
      rw [Nat.add_zero] at hrun
      refine ⟨ι,.tup [],_,σ.k,w.setRow l.b (c.toList.take off++cy.cells.toList++c.toList.drop (off+cy.cells.toList.length)).toArray,?_,hk,?_⟩
      . unfold execOp;rw [ho]
        simp [hcv,hcy,Instr.storeAt,Instr.sureAddr,storeVar,B9 hti,hyl,hrun]
      have hsz:(c.toList.take off++cy.cells.toList++c.toList.drop (off+cy.cells.toList.length)).toArray.size=c.size:=by
        simp only [size_toArray,length_append,length_take,length_drop,Array.length_toList,hyl]
        rw [hoff,h1];omega
      have hcs:(w.setRow l.b (c.toList.take off++cy.cells.toList++c.toList.drop (off+cy.cells.toList.length)).toArray).heap[l.b]?=some (.cells _ e (0,0)):=setRow_heap w l.b c _ e (0,0) hw
      have hoth:∀ q,q<w.heap.size->q≠l.b->(w.setRow l.b (c.toList.take off++cy.cells.toList++c.toList.drop (off+cy.cells.toList.length)).toArray).heap[q]?=w.heap[q]?:=fun q _ hq=>setRow_other w l.b q _ hq
      have hmem:=D6 hn
      have hrel:VRels ι (Own F ι σ.H) w ((es.set i (B2 v j u)).flatMap V.cells) ((((c.toList.take off++cy.cells.toList++c.toList.drop (off+cy.cells.toList.length)).toArray).toList.drop l.o).take (es.length*sz)):=by
        have e1:(es.set i (B2 v j u)).flatMap V.cells=splice (es.flatMap V.cells) (i*sz+j) u.cells:=by
          rw [XU_ hcl hi hpl,hpc]
          apply List.ext_getElem?
          intro q
          have hL:=G6 hcl
          rw [getElem?_splice (es.flatMap V.cells) (splice v.cells j u.cells) (i*sz) q (by rw [J3 _ _ _ (by rw [hf.1,hvf.1];exact hj),hvf.1,hL];exact hmul),getElem?_splice (es.flatMap V.cells) u.cells (i*sz+j) q (by rw [hf.1,hL];omega)]
          rw [J3 v.cells j u.cells (by rw [hf.1,hvf.1];exact hj),hvf.1,hf.1]
          by_cases hq:i*sz<=q/\q<i*sz+sz
          . rw [if_pos hq,getElem?_splice _ _ _ _ (by rw [hf.1,hvf.1];exact hj),hf.1]
            by_cases hq2:i*sz+j<=q/\q<i*sz+j+ti.size
            . rw [if_pos (by omega),if_pos hq2];congr 1;omega
            rw [if_neg (by omega),if_neg hq2]
            have:=congrArg (·[q-i*sz]?) (J1 hcl hvi)
            simp only [List.getElem?_take,List.getElem?_drop] at this
            rw [if_pos (by omega)] at this
            rw [<-this];congr 1;omega
          rw [if_neg hq,if_neg (by omega)]
        rw [e1]
        have h':=hv.splice hyc (i*sz+j)
        have e2:((((c.toList.take off++cy.cells.toList++c.toList.drop (off+cy.cells.toList.length)).toArray).toList.drop l.o).take (es.length*sz))=splice ((c.toList.drop l.o).take (es.length*sz)) (i*sz+j) cy.cells.toList:=by
          have hs:c.toList.take off++cy.cells.toList++c.toList.drop (off+cy.cells.toList.length)=splice c.toList off cy.cells.toList:=by simp [splice]
          have hyl':cy.cells.toList.length=ti.size:=by simpa using hyl
          show ((c.toList.take off++cy.cells.toList++c.toList.drop (off+cy.cells.toList.length)).drop l.o).take (es.length*sz)=_
          rw [hs]
          exact ZO_ _ _ _ _ _ _ (by rw [hoff,h1];omega) (by rw [hyl'];omega) (by simpa using hlen)
        rw [e2];exact h'
      refine ⟨⟨f9 hmem hl hg hh.rep.names rfl (Tp.same rfl rfl) rfl (by simp) hoth,Nat.le_refl _,fun _ _=>rfl,fun m hm=>.inl (by rw [T8] at hm;exact hm)⟩,hh.rep.put hmem hl hg rfl (Tp.same rfl rfl) rfl (by simp) hoth fun O' S=>⟨h1,h2,?_,.inr ⟨hg,_,e,hcs,by rw [hsz,hc],by rw [length_set,hsz];exact hlen,?_⟩⟩,hh.fresh,?_⟩
      . intro v' hv'
        rcases mem_or_eq_of_mem_set hv' with h|h
        . exact h3 v' h
        subst h
        refine C9.2 ⟨hpl,fun c' hc'=>?_⟩
        rw [hpc] at hc'
        exact (W9_ hc').elim (hvf.2 c') (hf.2 c')
      . rw [length_set];exact hrel.stays S
      exact VRel.tup .nil
end
end Go.Sl
namespace Go.Sl
section
variable {fr:Nat->Prop} {F:Nat->Prop} {ι ι':E3} {O:Nat->Prop} {H:A8} {σ σ':St} {a a':Act} {w w':World} {P:Program} {T:Tab}
variable {K:V → A8 → Nat → Prop} {d:TypeDesc} {e t:TypeId} {fs:List (TypeId × Nat × Nat)} {k:IntKind} {o:Oper} {op:BinOp} {ti:TI} {v:Value} {x y:Int}
theorem D.of_array {n:Nat} (h:D.of P d=.array n e):d=.array n e:=by cases d<;>simp_all [D.of]
theorem D.of_slice (h:D.of P d=.slice e):d=.slice e:=by cases d<;>simp_all [D.of]
theorem D.of_int (h:D.of P d=.int k):d=.int k:=by cases d<;>simp_all [D.of]
theorem D.of_bool (h:D.of P d=.bool):d=.bool:=by cases d<;>simp_all [D.of]
theorem D.of_string (h:D.of P d=.string):d=.string:=by cases d<;>simp_all [D.of]
theorem D.of_pointer (h:D.of P d=.pointer e):d=.pointer e:=by cases d<;>simp_all [D.of]
theorem D.of_map {k:TypeId} (h:D.of P d=.map k e):d=.map k e:=by cases d<;>simp_all [D.of]
theorem D.of_struct (h:D.of P d=.struct fs):∃ gs,d=.struct gs/\gs.toList.map (fun f=>(f.type,f.offset,P.cellsOf f.type))=fs:=by
 cases d<;>simp_all [D.of]
theorem T9 (h:C8 P t=some ti) (w:World):∃ d,(underlying t).run P w=.ok d w/\P.underlying t=some d/\ti.d=D.of P d:=by
 obtain ⟨d,i,z,hd,hi,hz,hs,ha,h1,_⟩:=D3 h
 exact ⟨d,run_underlying hd w,hd,h1⟩
theorem T2 (h:C8 P t=some ti) {n:Nat} {e:TypeId} (hd:ti.d=.array n e) (w:World):(underlying t).run P w=.ok (.array n e) w:=by
 obtain ⟨d,hr,_,h1⟩:=T9 h w
 rw [hr,D.of_array (h1.symm.trans hd)]
theorem C6 (h:C8 P t=some ti) {e:TypeId} (hd:ti.d=.slice e) (w:World):(underlying t).run P w=.ok (.slice e) w:=by
 obtain ⟨d,hr,_,h1⟩:=T9 h w
 rw [hr,D.of_slice (h1.symm.trans hd)]
theorem y1 (h:C8 P t=some ti) (hd:ti.d=.string) (w:World):(underlying t).run P w=.ok .string w:=by
 obtain ⟨d,hr,_,h1⟩:=T9 h w
 rw [hr,D.of_string (h1.symm.trans hd)]
theorem XW_ (h:C8 P t=some ti) {k:IntKind} (hd:ti.d=.int k) (w:World):(underlying t).run P w=.ok (.int k) w:=by
 obtain ⟨d,hr,_,h1⟩:=T9 h w
 rw [hr,D.of_int (h1.symm.trans hd)]
theorem zSc (h:C8 P t=some ti) (hd:ti.d=.bool) (w:World):(underlying t).run P w=.ok .bool w:=by
 obtain ⟨d,hr,_,h1⟩:=T9 h w
 rw [hr,D.of_bool (h1.symm.trans hd)]
theorem zH8 (h:C8 P t=some ti) {e:TypeId} (hd:ti.d=.pointer e) (w:World):(underlying t).run P w=.ok (.pointer e) w:=by
 obtain ⟨d,hr,_,h1⟩:=T9 h w
 rw [hr,D.of_pointer (h1.symm.trans hd)]
theorem zUc (h:C8 P t=some ti) {k e:TypeId} (hd:ti.d=.map k e) (w:World):(underlying t).run P w=.ok (.map k e) w:=by
 obtain ⟨d,hr,_,h1⟩:=T9 h w
 rw [hr,D.of_map (h1.symm.trans hd)]
theorem R3 (h : C8 P t = some ti) {fs : List (TypeId × Nat × Nat)} (hd : ti.d = .struct fs) (w : World) :
    ∃ gs,(underlying t).run P w=.ok (.struct gs) w/\gs.toList.map (fun f=>(f.type,f.offset,P.cellsOf f.type))=fs:=by
  obtain ⟨d,hr,_,h1⟩:=T9 h w
  obtain ⟨gs,hg,hm⟩:=D.of_struct (h1.symm.trans hd)
  exact ⟨gs,by rw [hr,hg],hm⟩
theorem Vz_ {gs:Array Field} (hm : gs.toList.map (fun f => (f.type, f.offset, P.cellsOf f.type)) = fs) {i : Nat} {ft : TypeId} {off sz : Nat} (h : fs[i]? = some (ft, off, sz)) :
    ∃ f,gs[i]?=some f/\f.type=ft/\f.offset=off/\P.cellsOf ft=sz:=by
  subst hm
  simp only [List.getElem?_map,Array.getElem?_toList,Option.map_eq_some_iff,Prod.mk.injEq] at h
  obtain ⟨f,hf,h1,h2,h3⟩:=h
  exact ⟨f,hf,h1,h2,h1▸h3⟩
theorem zbe (h:C8 P t=some ti):P.cellsOf t=ti.size:=by
 obtain ⟨d,i,z,hd,hi,hz,hs,ha,h1,h2,_⟩:=D3 h
 simp [Program.cellsOf,hi,h2]
theorem x3 (t : TypeId) (x y : Operand) (ho : o.op = .indexAddr t x y) {ti te : TI} {len : Nat} {e : TypeId} (hti : C8 P t = some ti) (hd : ti.d = .array len e) (hte : C8 P e = some te)
    {n i j:Nat} {kd:IntKind} {m:Int} (hx:A7 σ.t x=.ptr n i j) (hy:A7 σ.t y=.val (.int kd m)) (h0:0<=m) (h1:m<len) (hk:K (.ptr n i (j+m.toNat*te.size)) σ.H σ.k):OpT fr P o σ K :=
  C5 hk fun F ι a w hh=>by
    have he:=hh.eval x
    have hi:=(hh.eval y)
    rw [hx] at he;rw [hy] at hi
    have hi:=hi.inv_val
    generalize hcv:a.eval x=cv at he
    cases he with
    | ptr hl hg hm hoff =>
      rename_i off l
      refine ⟨.pointer (some ⟨l.b,off+m.toNat*te.size,none⟩),?_,.ptr hl hg hm (by omega)⟩
      unfold execOp;rw [ho]
      simp [hcv,hi,Instr.indexAt,asIntOf,T2 hti hd,Instr.sureAddr,h0,h1,B9 hte,Addr.add_lit]
theorem y9 (t : TypeId) (x y : Operand) (ho : o.op = .indexAddr t x y) {ti te : TI} {len : Nat} {e : TypeId} (hti : C8 P t = some ti) (hd : ti.d = .array len e) (hte : C8 P e = some te)
    {j:Nat} {cs:List V} {kd:IntKind} {m:Int} (hx:A7 σ.t x=.rp cs j) (hy:A7 σ.t y=.val (.int kd m)) (h0:0<=m) (h1:m<len) (hk:K (.rp cs (j+m.toNat*te.size)) σ.H σ.k):OpT fr P o σ K :=
  C5 hk fun F ι a w hh=>by
    have he:=hh.eval x
    have hi:=(hh.eval y)
    rw [hx] at he;rw [hy] at hi
    have hi:=hi.inv_val
    generalize hcv:a.eval x=cv at he
    cases he with
    | rp hb hO hw hsz hin hvs hv hoff =>
      rename_i b off off' c e fr vs
      refine ⟨.pointer (some ⟨b,off'+m.toNat*te.size,none⟩),?_,.rp hb hO hw hsz hin hvs hv (by omega)⟩
      unfold execOp;rw [ho]
      simp [hcv,hi,Instr.indexAt,asIntOf,T2 hti hd,Instr.sureAddr,h0,h1,B9 hte,Addr.add_lit]
theorem XX_ (t : TypeId) (x y : Operand) (ho : o.op = .indexAddr t x y) {ti te : TI} {e : TypeId} (hti : C8 P t = some ti) (hd : ti.d = .slice e) (hte : C8 P e = some te)
    {n i len:Nat} {es:List V} {kd:IntKind} {m:Int} (hx:A7 σ.t x=.sl n i len) (hy:A7 σ.t y=.val (.int kd m)) (hn:look n σ.H=some (.rows te.size es)) (h0:0<=m) (h1:m<len) (hk:K (.ptr n (i+m.toNat) 0) σ.H σ.k):OpT fr P o σ K :=
  C5 hk fun F ι a w hh=>by
    have he:=hh.eval x
    have hi:=(hh.eval y)
    rw [hx] at he;rw [hy] at hi
    have hi:=hi.inv_val
    generalize hcv:a.eval x=cv at he
    cases he with
    | sl hl hg hm hoff hc0 hlc hcm hs =>
      rename_i off cap l
      obtain ⟨e1,_⟩:=hh.rep.block hn hl hg
      refine ⟨.pointer (some ⟨l.b,off+m.toNat*te.size,none⟩),?_,.ptr hl hg hm (by rw [hoff,e1,Nat.add_mul];omega)⟩
      unfold execOp;rw [ho]
      simp [hcv,hi,Instr.indexAt,asIntOf,C6 hti hd,h0,h1,B9 hte,Addr.add_lit]
    | sl0 hl=>exfalso;omega
theorem XY_ (t : TypeId) (x y : Operand) (ho : o.op = .indexAddr t x y) {ti te : TI} {e : TypeId} (hti : C8 P t = some ti) (hd : ti.d = .slice e) (hte : C8 P e = some te)
    {es:List V} {kd:IntKind} {m:Int} (hx:A7 σ.t x=.ro te.size es) (hy:A7 σ.t y=.val (.int kd m)) (h0:0<=m) (h1:m<es.length) (hk:K (.rp (es.getD m.toNat .any).cells 0) σ.H σ.k):OpT fr P o σ K :=
  C5 hk fun F ι a w hh=>by
    have he:=hh.eval x
    have hi:=(hh.eval y)
    rw [hx] at he;rw [hy] at hi
    have hi:=hi.inv_val
    generalize hcv:a.eval x=cv at he
    cases he with
    | ro0=>exfalso;simp at h1;omega
    | ro hb hO hw hsz hlen hlc hin hvs hv =>
      rename_i b off len cap c e fr vs
      subst hvs
      have hcl:∀ v∈es,v.cells.length=te.size:=fun v hv=>(C9.1 (hsz v hv)).1
      obtain ⟨v,hvi⟩:∃ v,es[m.toNat]?=some v:=⟨_,List.getElem?_eq_getElem (by omega)⟩
      have hgd:es.getD m.toNat .any=v:=by simp [List.getD,hvi]
      have hel:=(hv.drop (m.toNat*te.size)).take te.size
      rw [J1 hcl hvi] at hel
      have hmul:m.toNat*te.size+te.size<=es.length*te.size:=by rw [<-Nat.succ_mul];exact Nat.mul_le_mul_right _ (by omega)
      have hlist:(((c.toList.drop off).take (es.length*te.size)).drop (m.toNat*te.size)).take te.size=(c.toList.drop (off+m.toNat*te.size)).take v.cells.length:=by
        rw [hcl v (List.mem_of_getElem? hvi)]
        apply List.ext_getElem?
        intro q
        simp only [List.getElem?_take,List.getElem?_drop]
        by_cases hq:q<te.size
        . simp only [hq,if_true,show m.toNat*te.size+q<es.length*te.size by omega]
          congr 1;omega
        simp [hq]
      rw [hlist] at hel
      have hvf:=C9.1 (hsz v (List.mem_of_getElem? hvi))
      refine ⟨.pointer (some ⟨b,off+m.toNat*te.size,none⟩),?_,?_⟩
      . unfold execOp;rw [ho]
        have h1':m<len:=by omega
        simp [hcv,hi,Instr.indexAt,asIntOf,C6 hti hd,h0,h1',B9 hte,Addr.add_lit]
      rw [hgd]
      exact .rp hb hO hw (by simpa using hvf.2) (by rw [hvf.1];omega) rfl hel rfl
theorem Yl_ (t : TypeId) (x : Operand) (f : Nat) (ho : o.op = .fieldAddr t x f) {ti tf : TI} {fs : List (TypeId × Nat × Nat)} (hti : C8 P t = some ti) (hd : ti.d = .struct fs)
    {ft off sz:Nat} (hf:fs[f]?=some (ft,off,sz)) (htf:C8 P ft=some tf) (hsz:0<tf.size) {n i j:Nat} (hx:A7 σ.t x=.ptr n i j) (hk:K (.ptr n i (j+off)) σ.H σ.k):OpT fr P o σ K :=
  C5 hk fun F ι a w hh=>by
    have he:=hh.eval x
    rw [hx] at he
    generalize hcv:a.eval x=cv at he
    obtain ⟨gs,hr,hm⟩:=R3 hti hd w
    obtain ⟨g,hg,h1,h2,h3⟩:=Vz_ hm hf
    cases he with
    | ptr hl hgh hmp hoff =>
      rename_i off' l
      refine ⟨.pointer (some ⟨l.b,off'+off,none⟩),?_,.ptr hl hgh hmp (by omega)⟩
      unfold execOp;rw [ho]
      have:¬ tf.size=0:=by omega
      simp [hcv,Instr.fieldAt,hr,hg,Instr.sureAddr,fieldPlace,h1,B9 htf,this,h2,Addr.add_lit]
theorem XZ_ (t : TypeId) (x : Operand) (f : Nat) (ho : o.op = .fieldAddr t x f) {ti tf : TI} {fs : List (TypeId × Nat × Nat)} (hti : C8 P t = some ti) (hd : ti.d = .struct fs)
    {ft off sz:Nat} (hf:fs[f]?=some (ft,off,sz)) (htf:C8 P ft=some tf) (hsz:0<tf.size) {cs:List V} {j:Nat} (hx:A7 σ.t x=.rp cs j) (hk:K (.rp cs (j+off)) σ.H σ.k):OpT fr P o σ K :=
  C5 hk fun F ι a w hh=>by
    have he:=hh.eval x
    rw [hx] at he
    generalize hcv:a.eval x=cv at he
    obtain ⟨gs,hr,hm⟩:=R3 hti hd w
    obtain ⟨g,hg,h1,h2,h3⟩:=Vz_ hm hf
    cases he with
    | rp hb hO hw hs hin hvs hv hoff =>
      rename_i b off0 off' c e fr vs
      refine ⟨.pointer (some ⟨b,off'+off,none⟩),?_,.rp hb hO hw hs hin hvs hv (by omega)⟩
      unfold execOp;rw [ho]
      have:¬ tf.size=0:=by omega
      simp [hcv,Instr.fieldAt,hr,hg,Instr.sureAddr,fieldPlace,h1,B9 htf,this,h2,Addr.add_lit]
theorem zCd (hti : C8 P t = some ti) {cs : List V} {vs : List Value} (hv : VRels ι O w cs vs) {off : Nat} (hin : off + ti.size ≤ cs.length) (w' : World) :
    ∃ x,(part t vs.toArray off).run P w'=.ok x w'/\VRel ι O w (F5 ti.agg ti.size cs off) x:=by
  unfold part F5
  by_cases hg:ti.agg=true
  . refine ⟨.agg ((vs.drop off).take ti.size).toArray,?_,?_⟩
    . simp [Y5 hti,B9 hti,hg,extract_eq_take_drop]
    rw [if_pos hg];exact .agg ((hv.drop off).take ti.size)
  have h1:0<ti.size:=by
    have:=Q2 hti
    have h2:=(H3 hti).2
    unfold TI.zeroV at this
    rw [if_neg hg] at this
    rcases Nat.eq_zero_or_pos ti.size with h0|h0
    . exfalso
      rw [h0] at h2
      rw [eq_nil_of_length_eq_zero h2] at this
      simp [V.cells] at this
    exact h0
  rw [if_neg hg]
  obtain ⟨u,hu⟩:∃ u,cs[off]?=some u:=⟨_,List.getElem?_eq_getElem (by omega)⟩
  obtain ⟨x,hx,hvx⟩:=hv.get off u hu
  exact ⟨x,by simp [Y5 hti,hg,hx],by simpa [List.getD,hu] using hvx⟩
theorem zNy (t : TypeId) (x : Operand) (f : Nat) (ho : o.op = .field t x f) {ti tf : TI} {fs : List (TypeId × Nat × Nat)} (hti : C8 P t = some ti) (hd : ti.d = .struct fs)
    {ft off sz:Nat} (hf:fs[f]?=some (ft,off,sz)) (htf:C8 P ft=some tf) {cs:List V} (hx:A7 σ.t x=.agg cs) (hin:off+tf.size<=cs.length) (hk:K (F5 tf.agg tf.size cs off) σ.H σ.k):OpT fr P o σ K :=
  C5 hk fun F ι a w hh=>by
    have he:=hh.eval x
    rw [hx] at he
    generalize hcv:a.eval x=cv at he
    obtain ⟨gs,hr,hm⟩:=R3 hti hd w
    obtain ⟨g,hg,h1,h2,h3⟩:=Vz_ hm hf
    cases he with
    | agg hv =>
      obtain ⟨y,hy,hvy⟩:=zCd htf hv hin w
      refine ⟨y,?_,hvy⟩
      unfold execOp;rw [ho]
      simp [hcv,Instr.field,hr,hg,asAgg,h1,h2,hy]
theorem QG_ (t : TypeId) (x y : Operand) (ho : o.op = .index t x y) {ti te : TI} {len : Nat} {e : TypeId} (hti : C8 P t = some ti) (hd : ti.d = .array len e) (hte : C8 P e = some te)
    {cs:List V} {kd:IntKind} {m:Int} (hx:A7 σ.t x=.agg cs) (hy:A7 σ.t y=.val (.int kd m)) (h0:0<=m) (h1:m<len) (hin:m.toNat*te.size+te.size<=cs.length)
    (hk:K (F5 te.agg te.size cs (m.toNat*te.size)) σ.H σ.k):OpT fr P o σ K :=
  C5 hk fun F ι a w hh=>by
    have he:=hh.eval x
    have hi:=(hh.eval y)
    rw [hx] at he;rw [hy] at hi
    have hi:=hi.inv_val
    generalize hcv:a.eval x=cv at he
    cases he with
    | agg hv =>
      obtain ⟨y,hy,hvy⟩:=zCd hte hv hin w
      refine ⟨y,?_,hvy⟩
      unfold execOp;rw [ho]
      simp [hcv,hi,Instr.index,asIntOf,T2 hti hd,h0,h1,B9 hte,hy]
theorem QH_ (t : TypeId) (x y : Operand) (ho : o.op = .index t x y) {ti : TI} (hti : C8 P t = some ti) (hd : ti.d = .string)
    {s:ByteArray} {kd:IntKind} {m:Int} (hx:A7 σ.t x=.val (.string s)) (hy:A7 σ.t y=.val (.int kd m)) (h0:0<=m) (h1:m<s.size)
    (hk:K (.val (.int .u8 ((s.data.toList.getD m.toNat 0).toNat:Int))) σ.H σ.k):OpT fr P o σ K :=
  C5 hk fun F ι a w hh=>by
    have he:=(hh.eval x)
    have hi:=(hh.eval y)
    rw [hx] at he;rw [hy] at hi
    have hi:=hi.inv_val
    have he:=he.inv_val
    refine ⟨_,?_,.val _ rfl⟩
    have hlt:m.toNat<s.size:=by omega
    have hs:s[m.toNat]?=some (s.data.toList.getD m.toNat 0):=by
      rw [getElem?_pos s m.toNat hlt]
      have:m.toNat<s.data.toList.length:=by simpa using hlt
      simp [List.getD,List.getElem?_eq_getElem this];rfl
    unfold execOp;rw [ho]
    simp [he,hi,Instr.index,asIntOf,y1 hti hd,h0,hs]
theorem zFd {K:V->A8->Nat->Prop} (x:Operand) (i:Nat) (ho:o.op=.extract x i) {vs:List V} (hx:A7 σ.t x=.tup vs) (hi:i<vs.length) (hk:K (vs.getD i .any) σ.H σ.k):OpT fr P o σ K :=
 C5 hk fun F ι a w hh=>by
  have he:=hh.eval x
  rw [hx] at he
  generalize hcv:a.eval x=cv at he
  cases he with
  | tup hv =>
   obtain ⟨u,hu⟩:∃ u,vs[i]?=some u:=⟨_,List.getElem?_eq_getElem hi⟩
   obtain ⟨y,hy,hvy⟩:=hv.get i u hu
   refine ⟨y,?_,by simpa [List.getD,hu] using hvy⟩
   unfold execOp;rw [ho]
   simp [hcv,Instr.extract,hy]
def zUd (op:BinOp) (k:IntKind) (x y:Int):Option Value :=
 match op with
 | .add=>some (.int k (k.wrap (x+y)))
 | .sub=>some (.int k (k.wrap (x-y)))
 | .mul=>some (.int k (k.wrap (x*y)))
 | .quo=>if y=0 then none else some (.int k (k.wrap (x.tdiv y)))
 | .rem=>if y=0 then none else some (.int k (x.tmod y))
 | .and=>some (.int k (k.wrap (BitVec.ofInt k.bits x &&& BitVec.ofInt k.bits y).toNat))
 | .or=>some (.int k (k.wrap (BitVec.ofInt k.bits x ||| BitVec.ofInt k.bits y).toNat))
 | .xor=>some (.int k (k.wrap (BitVec.ofInt k.bits x ^^^ BitVec.ofInt k.bits y).toNat))
 | .andNot=>some (.int k (k.wrap (BitVec.ofInt k.bits x &&& ~~~BitVec.ofInt k.bits y).toNat))
 | .eql=>some (.bool (x==y))
 | .neq=>some (.bool (x != y))
 | .lss=>some (.bool (decide (x<y)))
 | .leq=>some (.bool (decide (x<=y)))
 | .gtr=>some (.bool (decide (x > y)))
 | .geq=>some (.bool (decide (x>=y)))
 | _=>none
def shI (op:BinOp) (k:IntKind) (x y:Int):Option Value :=
 if y<0 then none else
 match op with
 | .shl=>some (.int k (k.wrap (x*2 ^ (min y.toNat k.bits))))
 | .shr=>some (.int k (x.fdiv (2 ^ (min y.toNat k.bits))))
 | _=>none
theorem QI_ (h:zUd op k x y=some v):v.oneCell'=true:=by
 unfold zUd at h
 cases op<;>simp only [] at h<;>(first|(split at h<;>first|(cases h;done)|(cases h;rfl))|(cases h;rfl)|cases h)
theorem J1_ (h:shI op k x y=some v):v.oneCell'=true:=by
 unfold shI at h
 split at h
 .cases h
 cases op<;>simp only [] at h<;>first|(cases h;rfl)|cases h
theorem zNz (h:zUd op k x y=some v) (t:TypeId) (p q:Operand):((do eqGuard op t p q (.int k x) (.int k y);binOp op t (.int k x) (.int k y)):Sem Value).run P w=.ok v w:=by
  unfold zUd at h
  cases op<;>simp only [] at h <;>
    first
    | (cases h;done)
    | (cases h;simp [eqGuard,binOp,Op.intArith,Op.intBits,Op.intCmp];done)
    | (split at h
       . cases h
       cases h;rename_i hy;simp [eqGuard,binOp,Op.intDiv,hy])
theorem zUe {k':IntKind} (h:shI op k x y=some v) (t:TypeId) (p q:Operand):((do eqGuard op t p q (.int k x) (.int k' y);binOp op t (.int k x) (.int k' y)):Sem Value).run P w=.ok v w:=by
 unfold shI at h
 split at h
 .cases h
 rename_i hy
 cases op<;>simp only [] at h <;>
  first
  | (cases h;done)
  | (cases h;simp [eqGuard,binOp,Op.shift,hy])
theorem zUf (op : BinOp) (t u : TypeId) (x y : Operand) (ho : o.op = .binOp op t x y u) {k : IntKind} {m n : Int} (hx : A7 σ.t x = .val (.int k m)) (hy : A7 σ.t y = .val (.int k n)) {v : Value}
    (h:zUd op k m n=some v) (hk:K (.val v) σ.H σ.k):OpT fr P o σ K :=
  C5 hk fun F ι a w hh=>by
    have he:=hh.eval x
    have hi:=hh.eval y
    rw [hx] at he;rw [hy] at hi
    have hi:=hi.inv_val
    have he:=he.inv_val
    refine ⟨v,?_,.val v (QI_ h)⟩
    have hr:=zNz (P:=P) (w:=w) h t x y
    unfold execOp;rw [ho]
    simp only [he,hi,Sem.run_bind,hr,Result.andThen_ok,Sem.run_pure]
theorem zca (op : BinOp) (t u : TypeId) (x y : Operand) (ho : o.op = .binOp op t x y u) {k k' : IntKind} {m n : Int} (hx : A7 σ.t x = .val (.int k m)) (hy : A7 σ.t y = .val (.int k' n)) {v : Value}
    (h:shI op k m n=some v) (hk:K (.val v) σ.H σ.k):OpT fr P o σ K :=
  C5 hk fun F ι a w hh=>by
    have he:=hh.eval x
    have hi:=hh.eval y
    rw [hx] at he;rw [hy] at hi
    have hi:=hi.inv_val
    have he:=he.inv_val
    refine ⟨v,?_,.val v (J1_ h)⟩
    have hr:=zUe (P:=P) (w:=w) (k':=k') h t x y
    unfold execOp;rw [ho]
    simp only [he,hi,Sem.run_bind,hr,Result.andThen_ok,Sem.run_pure]
def zk4 (op:BinOp) (x y:ByteArray):Option Value :=
 match op with
 | .add=>if ((x.size+y.size:Nat):Int) > 9223372036854775807 then none else some (.string (x++y))
 | .eql=>some (.bool (x.toList==y.toList))
 | .neq=>some (.bool !(x.toList==y.toList))
 | .lss=>some (.bool (Op.bytesLess x.toList y.toList))
 | .leq=>some (.bool (Op.bytesLess x.toList y.toList||x.toList==y.toList))
 | .gtr=>some (.bool !(Op.bytesLess x.toList y.toList||x.toList==y.toList))
 | .geq=>some (.bool !(Op.bytesLess x.toList y.toList))
 | _=>none
theorem zH9 (op : BinOp) (t u : TypeId) (x y : Operand) (ho : o.op = .binOp op t x y u) {m n : ByteArray} (hx : A7 σ.t x = .val (.string m)) (hy : A7 σ.t y = .val (.string n)) {v : Value}
    (h:zk4 op m n=some v) (hk:K (.val v) σ.H σ.k):OpT fr P o σ K :=
  C5 hk fun F ι a w hh=>by
    have he:=hh.eval x
    have hi:=hh.eval y
    rw [hx] at he;rw [hy] at hi
    have hi:=hi.inv_val
    have he:=he.inv_val
    have h1:v.oneCell'=true:=by
      unfold zk4 at h
      cases op<;>simp only [] at h<;>first|(cases h;rfl)|(split at h<;>first|(cases h;done)|(cases h;rfl))|cases h
    refine ⟨v,?_,.val v h1⟩
    have hr:((do eqGuard op t x y (.string m) (.string n);binOp op t (.string m) (.string n)):Sem Value).run P w=.ok v w:=by
      unfold zk4 at h
      cases op<;>simp only [] at h <;>
        first
        | (cases h;done)
        | (cases h;simp [eqGuard,binOp,Op.stringOp];done)
        | (split at h
           . cases h
           cases h
           rename_i hy
           simp [eqGuard,binOp,Op.stringOp,IntKind.max_i64]
           omega)
    unfold execOp;rw [ho]
    simp only [he,hi,Sem.run_bind,hr,Result.andThen_ok,Sem.run_pure]
theorem zSd (op : BinOp) (t u : TypeId) (x y : Operand) (ho : o.op = .binOp op t x y u) {ti : TI} (hti : C8 P t = some ti) (hd : ti.d = .bool) {m n : Bool} (hx : A7 σ.t x = .val (.bool m)) (hy : A7 σ.t y = .val (.bool n))
    (h:op=.eql/\K (.val (.bool (m==n))) σ.H σ.k\/op=.neq/\K (.val (.bool (m != n))) σ.H σ.k):OpT fr P o σ K:=by
  rcases h with ⟨rfl,hk⟩|⟨rfl,hk⟩ <;>
  . refine C5 hk fun F ι a w hh=>?_
    have he:=hh.eval x
    have hi:=hh.eval y
    rw [hx] at he;rw [hy] at hi
    have hi:=hi.inv_val
    have he:=he.inv_val
    obtain ⟨d,hr,hu,h1⟩:=T9 hti w
    have hu':P.underlying t=some .bool:=by rw [hu,D.of_bool (h1.symm.trans hd)]
    have hq:=run_equal_bool (P:=P) w t m n hu'
    refine ⟨_,?_,.val _ rfl⟩
    unfold execOp;rw [ho]
    simp only [he,hi,eqGuard_at_bool,binOp,Sem.run_bind,Sem.run_pure,Result.andThen_ok,hq]
    try rfl
theorem zcb {K:V->A8->Nat->Prop} (t:TypeId) (x:Operand) (ho:o.op=.unOp .not t x) {b:Bool} (hx:A7 σ.t x=.val (.bool b)) (hk:K (.val (.bool (!b))) σ.H σ.k):OpT fr P o σ K :=
 C5 hk fun F ι a w hh=>by
  have he:=hh.eval x
  rw [hx] at he
  have he:=he.inv_val
  refine ⟨_,?_,.val _ rfl⟩
  unfold execOp;rw [ho]
  simp [he,Op.unary]
theorem zcc {K:V->A8->Nat->Prop} (t:TypeId) (x:Operand) (ho:o.op=.unOp .neg t x) {k:IntKind} {n:Int} (hx:A7 σ.t x=.val (.int k n)) (hk:K (.val (.int k (k.wrap (0-n)))) σ.H σ.k):OpT fr P o σ K :=
 C5 hk fun F ι a w hh=>by
  have he:=hh.eval x
  rw [hx] at he
  have he:=he.inv_val
  refine ⟨_,?_,.val _ rfl⟩
  unfold execOp;rw [ho]
  simp [he,Op.unary,Op.intArith]
theorem zcd (t : TypeId) (x : Operand) (ho : o.op = .unOp .xor t x) {k : IntKind} {n : Int} (hx : A7 σ.t x = .val (.int k n))
    (hk:K (.val (.int k (k.wrap (BitVec.ofInt k.bits (if k.signed then -1 else k.max) ^^^ BitVec.ofInt k.bits n).toNat))) σ.H σ.k):OpT fr P o σ K :=
  C5 hk fun F ι a w hh=>by
    have he:=hh.eval x
    rw [hx] at he
    have he:=he.inv_val
    refine ⟨_,?_,.val _ rfl⟩
    unfold execOp;rw [ho]
    simp [he,Op.unary,Op.intBits]
theorem zO0 (s t : TypeId) (x : Operand) (ho : o.op = .convert s t x) {ti tj : TI} (hti : C8 P t = some ti) (htj : C8 P s = some tj) {k k' : IntKind} (hd : ti.d = .int k) (hs : tj.d = .int k') {n : Int} (hx : A7 σ.t x = .val (.int k' n))
    (hk:K (.val (.int k (k.wrap n))) σ.H σ.k):OpT fr P o σ K :=
  C5 hk fun F ι a w hh=>by
    have he:=hh.eval x
    rw [hx] at he
    have he:=he.inv_val
    refine ⟨_,?_,.val _ rfl⟩
    unfold execOp;rw [ho]
    simp [he,convert,XW_ hti hd,XW_ htj hs,Conv.intToInt]
end
end Go.Sl
namespace Go.Sl
section
variable {fr:Nat->Prop} {F:Nat->Prop} {ι ι':E3} {O:Nat->Prop} {H:A8} {σ σ':St} {a a':Act} {w w':World} {P:Program} {T:Tab}
theorem ZS_ (off : Nat) : ∀ (l : List Value) (s : Nat) (cs : Array Value), off + s + l.length ≤ cs.size →
    ((l.zipIdx s).foldl (fun cs (x:Value × Nat)=>cs.setIfInBounds (off+x.2) x.1) cs).toList=splice cs.toList (off+s) l
  | [],s,cs,h=>by simp [splice]
  | v::l,s,cs,h=>by
    simp only [zipIdx_cons,foldl_cons,length_cons] at h ⊢
    rw [ZS_ off l (s+1) _ (by simp;omega)]
    apply List.ext_getElem?
    intro q
    rw [getElem?_splice _ _ _ _ (by simp;omega),getElem?_splice _ _ _ _ (by simp;omega)]
    simp only [Array.getElem?_toList,Array.getElem?_setIfInBounds,length_cons]
    by_cases h1:q=off+s
    . subst h1
      rw [if_neg (by omega),if_pos (by omega),Nat.sub_self]
      simp;omega
    by_cases h2:off+(s+1)<=q/\q<off+(s+1)+l.length
    . rw [if_pos h2,if_pos (by omega)]
      rw [show q-(off+s)=(q-(off+(s+1)))+1 by omega,List.getElem?_cons_succ]
    rw [if_neg h2,if_neg (by omega),if_neg (by omega)]
def Ym_ (pl:Nat->Option (Nat × Nat)):List V->List (Nat × V)->(List V->Prop)->Prop
 | cs,[],K=>K cs
 | cs,(i,v)::r,K =>
  match pl i with
  | some (off,sz)=>v.cells.length=sz/\v.isAny=false/\off+sz<=cs.length/\Ym_ pl (splice cs off v.cells) r K
  | none=>False
theorem z7 {pl : Nat → Option (Nat × Nat)} : ∀ (parts : List (Nat × V)) (cparts : List (Nat × Value)) (cs : List V) (ccs : Array Value) (K : List V → Prop), Ym_ pl cs parts K → VRels ι O w cs ccs.toList →
    parts.map Prod.fst=cparts.map Prod.fst->VRels ι O w (parts.map Prod.snd) (cparts.map Prod.snd)->∃ cs' ccs',Instr.fill pl ccs cparts=some ccs'/\VRels ι O w cs' ccs'.toList/\K cs'
  | [],cparts,cs,ccs,K,h,hv,hf,_=>by
    cases cparts with
    | nil=>exact ⟨cs,ccs,rfl,hv,h⟩
    | cons=>simp at hf
  | (i,v)::r,cparts,cs,ccs,K,h,hv,hf,hs=>by
    cases cparts with
    | nil=>simp at hf
    | cons cp cr =>
      obtain ⟨i',x⟩:=cp
      simp only [map_cons,List.cons.injEq] at hf
      obtain ⟨hi,hf⟩:=hf
      subst hi
      simp only [map_cons] at hs
      cases hs with
      | cons hx hs =>
        simp only [Ym_] at h
        cases hpl:pl i with
        | none=>rw [hpl] at h;exact h.elim
        | some p =>
          obtain ⟨off,sz⟩:=p
          rw [hpl] at h
          obtain ⟨h1,h2,h3,h4⟩:=h
          have hxc:=hx.cells h2
          have hxl:x.cells.size=sz:=by rw [<-Array.length_toList,<-hxc.length,h1]
          have hcl:ccs.size=cs.length:=by rw [<-Array.length_toList,hv.length]
          have e:=ZS_ off x.cells.toList 0 ccs (by rw [Array.length_toList,hxl];omega)
          obtain ⟨cs',ccs',e1,e2,e3⟩:=z7 r cr (splice cs off v.cells) _ K h4 (by rw [e];exact hv.splice hxc _) hf hs
          refine ⟨cs',ccs',?_,e2,e3⟩
          rw [<-e1]
          simp only [Instr.fill,hpl,hxl]
          rw [if_neg (by simp;omega)]
          congr 1
          rw [<-Array.foldl_toList]
          congr 1
          simp
variable {K:V → A8 → Nat → Prop} {o:Oper}
theorem zO1 (t : TypeId) (parts : Array (Nat × Operand)) (ho : o.op = .build t parts) {ti : TI} (hti : C8 P t = some ti) {fs : List (TypeId × Nat × Nat)} (hd : ti.d = .struct fs)
    (hfs:∀ f∈fs,∃ tf,C8 P f.1=some tf) (h:Ym_ (fun i=>(fs[i]?).map fun f=>(f.2.1,f.2.2)) (ti.zero.map .val) (parts.toList.map fun p=>(p.1,A7 σ.t p.2)) (fun cs=>K (.agg cs) σ.H σ.k)):OpT fr P o σ K :=
  S6 fun F ι a w hh=>by
    obtain ⟨gs,hr,hm⟩:=R3 hti hd w
    obtain ⟨z,hz,hzc,hzs⟩:=T1 hti w
    have hz':VRels ι (Own F ι σ.H) w (ti.zero.map .val) z.cells.toList:=by rw [hzc];exact VRels.vals (H3 hti).1
    have hpv:∀ ps:List (Nat × Operand),VRels ι (Own F ι σ.H) w ((ps.map fun p=>(p.1,A7 σ.t p.2)).map Prod.snd) ((ps.map fun p=>(p.1,a.eval p.2)).map Prod.snd):=by
      intro ps
      induction ps with
      | nil=>exact .nil
      | cons p ps ih=>exact .cons (hh.eval p.2) ih
    obtain ⟨cs',ccs',e1,e2,e3⟩:=z7 (ι:=ι) (O:=Own F ι σ.H) (w:=w) (parts.toList.map fun p=>(p.1,A7 σ.t p.2)) (parts.toList.map fun p=>(p.1,a.eval p.2)) _ z.cells _ h hz' (by simp [Function.comp_def]) (hpv _)
    have hpl:(gs.toList.mapM fun f=>(P.info? f.type).map fun i=>(f.offset,i.size))=some (gs.toList.map fun f=>(f.offset,P.cellsOf f.type)):=by
      have:∀ l:List Field,(∀ f∈l,∃ tf,C8 P f.type=some tf)->(l.mapM fun f=>(P.info? f.type).map fun i=>(f.offset,i.size))=some (l.map fun f=>(f.offset,P.cellsOf f.type)):=by
        intro l
        induction l with
        | nil=>intro _;rfl
        | cons f l ih =>
          intro hl
          obtain ⟨tf,htf⟩:=hl f (by simp)
          obtain ⟨d,i,z,hd,hi,hz,hs,ha,h1,h2,_⟩:=D3 htf
          simp [mapM_cons,ih (fun f hf=>hl f (by simp [hf])),hi,Program.cellsOf]
      refine this _ fun f hf=>hfs (f.type,f.offset,P.cellsOf f.type) ?_
      rw [<-hm];exact List.mem_map.2 ⟨f,hf,rfl⟩
    have hrp:=run_places w gs.toList _ hpl
    have hfun:(fun i:Nat=>(gs.toList.map fun f:Field=>(f.offset,P.cellsOf f.type)).toArray[i]?)=(fun i=>(fs[i]?).map fun (f:TypeId × Nat × Nat)=>(f.2.1,f.2.2)):=by
      funext i
      rw [<-hm]
      simp [Function.comp_def]
    refine ⟨ι,.agg cs',.agg ccs',σ.H,σ.k,w,?_,e3,hh.same ?_⟩
    . unfold execOp;rw [ho]
      have hrp':(gs.mapM fun f=>Prod.mk f.offset <$> sizeOf f.type).run P w=.ok (gs.toList.map fun f=>(f.offset,P.cellsOf f.type)).toArray w:=by
        rw [Array.mapM_eq_mapM_toList]
        simp [hrp]
      have e1':Instr.fill (fun i:Nat=>(gs.toList.map fun f:Field=>(f.offset,P.cellsOf f.type)).toArray[i]?) z.cells (parts.toList.map fun p=>(p.1,a.eval p.2))=some ccs':=by rw [hfun];exact e1
      simp [Instr.build,hz,hr,hrp',Array.toList_map]
      simp at e1'
      rw [e1']
      rfl
    exact .agg e2
theorem QJ_ (t : TypeId) (parts : Array (Nat × Operand)) (ho : o.op = .build t parts) {ti te : TI} (hti : C8 P t = some ti) {n : Nat} {e : TypeId} (hd : ti.d = .array n e) (hte : C8 P e = some te)
    (h:Ym_ (fun i=>some (i*te.size,te.size)) (ti.zero.map .val) (parts.toList.map fun p=>(p.1,A7 σ.t p.2)) (fun cs=>K (.agg cs) σ.H σ.k)):OpT fr P o σ K :=
  S6 fun F ι a w hh=>by
    obtain ⟨z,hz,hzc,hzs⟩:=T1 hti w
    have hz':VRels ι (Own F ι σ.H) w (ti.zero.map .val) z.cells.toList:=by rw [hzc];exact VRels.vals (H3 hti).1
    have hpv:∀ ps:List (Nat × Operand),VRels ι (Own F ι σ.H) w ((ps.map fun p=>(p.1,A7 σ.t p.2)).map Prod.snd) ((ps.map fun p=>(p.1,a.eval p.2)).map Prod.snd):=by
      intro ps
      induction ps with
      | nil=>exact .nil
      | cons p ps ih=>exact .cons (hh.eval p.2) ih
    obtain ⟨cs',ccs',e1,e2,e3⟩:=z7 (ι:=ι) (O:=Own F ι σ.H) (w:=w) (parts.toList.map fun p=>(p.1,A7 σ.t p.2)) (parts.toList.map fun p=>(p.1,a.eval p.2)) _ z.cells _ h hz' (by simp [Function.comp_def]) (hpv _)
    refine ⟨ι,.agg cs',.agg ccs',σ.H,σ.k,w,?_,e3,hh.same (.agg e2)⟩
    unfold execOp;rw [ho]
    simp [Instr.build,hz,T2 hti hd,B9 hte,Array.toList_map]
    rw [e1]
    rfl
theorem V0_ (hfr : fr σ.k) {o : Oper} {K : V → A8 → Nat → Prop} (t : TypeId) (len : Nat) (parts : Array (Nat × Operand)) (ho : o.op = .buildSlice t len parts) {ti te : TI} (hti : C8 P t = some ti) {e : TypeId} (hd : ti.d = .slice e) (hte : C8 P e = some te)
    (hs:0<te.size) (hidx:parts.toList.map Prod.fst=List.range len) (hbig:len*te.size<=16777216) (hfit:∀ p∈parts.toList,(A7 σ.t p.2).fits te.size=true)
    (hk:K (.sl σ.k 0 len) ((σ.k,.rows te.size (parts.toList.map fun p=>A7 σ.t p.2))::σ.H) (σ.k+1)):OpT fr P o σ K :=
  S6 fun F ι a w hh=>by
    obtain ⟨z,hz,hzc,hzs⟩:=T1 hte w
    have hlen:parts.toList.length=len:=by have:=congrArg List.length hidx;simpa using this
    have hvals:VRels ι (Own F ι σ.H) w ((parts.toList.map fun p=>A7 σ.t p.2).flatMap V.cells) ((parts.toList.map fun p=>a.eval p.2).flatMap fun v=>v.cells.toList)/\(∀ v∈parts.toList.map fun p=>a.eval p.2,v.cells.size=te.size):=by
      have:∀ ps:List (Nat × Operand),(∀ p∈ps,(A7 σ.t p.2).fits te.size=true)->VRels ι (Own F ι σ.H) w ((ps.map fun p=>A7 σ.t p.2).flatMap V.cells) ((ps.map fun p=>a.eval p.2).flatMap fun v=>v.cells.toList)/\(∀ v∈ps.map fun p=>a.eval p.2,v.cells.size=te.size):=by
        intro ps
        induction ps with
        | nil=>intro _;exact ⟨.nil,by simp⟩
        | cons p ps ih =>
          intro hp
          have hf:=C9.1 (hp p (by simp))
          have hany:(A7 σ.t p.2).isAny=false:=by
            cases h:A7 σ.t p.2<;>simp_all [V.isAny,V.cells,V.one]
          have hc:=(hh.eval p.2).cells hany
          obtain ⟨i1,i2⟩:=ih fun q hq=>hp q (by simp [hq])
          refine ⟨by simpa using hc.append i1,?_⟩
          intro v hv
          simp only [map_cons,mem_cons] at hv
          rcases hv with rfl|hv
          . rw [<-Array.length_toList,<-hc.length,hf.1]
          exact i2 v hv
      exact this _ hfit
    have hzip:(parts.toList.map fun p=>(p.1,a.eval p.2))=(((parts.toList.map fun p=>a.eval p.2).zipIdx 0).map fun x=>(x.2,x.1)):=by
      apply List.ext_getElem?
      intro q
      simp only [List.getElem?_map,List.getElem?_zipIdx]
      cases hq:parts.toList[q]? with
      | none=>simp
      | some p =>
        have:=congrArg (·[q]?) hidx
        simp only [List.getElem?_map,hq,Option.map_some] at this
        have hql:q<len:=by rw [<-hlen];exact (List.getElem?_eq_some_iff.1 hq).1
        rw [List.getElem?_range hql] at this
        simp at this
        simp [this]
    have hfl:((parts.toList.map fun p=>a.eval p.2).flatMap fun v=>v.cells.toList).length=len*te.size:=by
      rw [<-hvals.1.length,G6 (sz:=te.size)]
      . simp [hlen]
      intro v hv
      obtain ⟨p,hp,rfl⟩:=List.mem_map.1 hv
      exact (C9.1 (hfit p hp)).1
    have hfill:=Great.fill_whole hs (parts.toList.map fun p=>a.eval p.2) ((Array.range (len*te.size)).map (z.cells[· % z.cells.size]!)) hvals.2 (by simp [hlen])
    have hrun : (Instr.buildSlice t len (parts.map fun (i, x) => (i, a.eval x))).run P w =
        .ok (.slice (some ⟨w.heap.size,0,none⟩) len len) (w.alloc (.cells ((parts.toList.map fun p=>a.eval p.2).flatMap fun v=>v.cells.toList).toArray e)):=by
      have hb:¬ (len*te.size > 2 ^ 24):=by omega
      have hzip':((parts.map fun x:Nat × Operand=>(x.1,a.eval x.2)).toList)=(((parts.toList.map fun p=>a.eval p.2).zipIdx 0).map fun x=>(x.2,x.1)):=by
        rw [Array.toList_map];exact hzip
      by_cases h0:len*te.size=0
      · have hl0 : len = 0 := by
          rcases Nat.mul_eq_zero.1 h0 with h|h
          . exact h
          omega
        subst hl0
        have hp0:parts.toList=[]:=eq_nil_of_length_eq_zero hlen
        have hp0':parts=#[]:=by cases parts;simp at hp0;subst hp0;rfl
        subst hp0'
        simp [Instr.buildSlice,C6 hti hd,B9 hte,Instr.fill,newRow,Array.range_zero']
      simp only [Instr.buildSlice,Sem.run_bind,C6 hti hd,B9 hte,Result.andThen_ok,hb,if_false,h0,hz,Sem.run_pure,hzip',hfill,newRow,run_newObj,World.alloc_eq]
    refine ⟨_,.sl σ.k 0 len,.slice (some ⟨w.heap.size,0,none⟩) len len,_,_,w.alloc (.cells ((parts.toList.map fun p=>a.eval p.2).flatMap fun v=>v.cells.toList).toArray e),?_,hk,u3 hfr hh e te.size _ ?_ ((parts.toList.map fun p=>a.eval p.2).flatMap fun v=>v.cells.toList).toArray ?_ ?_ w rfl rfl (Tp.refl _) rfl ?_⟩
    . unfold execOp;rw [ho]
      simp only [Sem.run_bind,hrun,Result.andThen_ok,Sem.run_pure]
    . intro v hv
      obtain ⟨p,hp,rfl⟩:=List.mem_map.1 hv
      exact hfit p hp
    . simp only [size_toArray,hfl,length_map,hlen];exact Nat.le_refl _
    . simp only [length_map,hlen]
      rw [take_of_length_le (by simp only [hfl];exact Nat.le_refl _)]
      exact hvals.1
    intro ι' h
    by_cases h0:len=0
    . subst h0;exact .sl0 h
    refine .sl h rfl rfl (by simp) (by omega) (Nat.le_refl _) ?_ ?_
    . have:len<=len*te.size:=Nat.le_mul_of_pos_right len hs
      simp only [maxLen];omega
    simp only [size_toArray,hfl,Nat.zero_add];exact Nat.le_refl _
theorem VRels.evals (hh:Holds fr F ι σ a w) (xs:List Operand):VRels ι (Own F ι σ.H) w (xs.map (A7 σ.t)) (xs.map a.eval):=by
 induction xs with
 | nil=>exact .nil
 | cons x xs ih=>exact .cons (hh.eval x) ih
theorem zUg (f : Operand) (args : Array Operand) (ts : Array TypeId) (ho : o.op = .call ⟨.value f, args, ts⟩) {g : FuncId} {fs cs : List V} (hf : A7 σ.t f = .fn (.func g) fs cs)
    (h:Fn P g (fs++args.toList.map (A7 σ.t)++cs) σ.H σ.k K):OpT All P o σ K:=by
  intro F ι a w hh next Q hn
  have he:=hh.eval f
  rw [hf] at he
  generalize hcv:a.eval f=cv at he
  cases he with
  | fn h1 h2 =>
    rename_i fs' cs'
    obtain ⟨fn,hg,hnm,hbody⟩:=h.enters
    have hargs:=(h1.append (VRels.evals hh args.toList)).append h2
    have hc:=h.calls F ι w _ hargs hh.rep (fun n=>hh.fresh n trivial)
    have hrun:(execOp a.eval o).run P w=.ok (.enter g (fs'++args.toList.map a.eval++cs').toArray) w:=by
      unfold execOp;rw [ho]
      have e1:fs'.toArray++args.map a.eval++cs'.toArray=(fs'++args.toList.map a.eval++cs').toArray:=by
        apply Array.ext';simp
      simp only [resolve,hcv,Deferred.ofValue,invoke,callFunc,Sem.run_bind,Sem.run_pure,Result.andThen_ok,run_program,hg,hnm,hbody,Bool.false_eq_true,if_false,e1]
    unfold Oper.wp
    rw [hrun]
    refine Calls.mono hc ?_
    rintro e w' ⟨ι',v,cv',H',k',rfl,hk,hO⟩
    exact hn ι' v cv' H' k' w' hk hO
end
end Go.Sl
namespace Go.Sl
section
variable {fr:Nat->Prop} {F:Nat->Prop} {ι ι':E3} {O:Nat->Prop} {H:A8} {σ σ':St} {a a':Act} {w w':World} {P:Program} {T:Tab}
def zHa:V->Option Nat
 | .val (.string s)=>some s.size
 | .val (.slice none 0 0)=>some 0
 | .sl _ _ len=>some len
 | .sub _ _ _ _ len=>some len
 | .ro _ es=>some es.length
 | _=>none
def zSe:D->V->Bool
 | .string,.val (.string _)=>true
 | .slice _,.val (.slice ..)|.slice _,.sl ..|.slice _,.sub ..|.slice _,.ro ..=>true
 | _,_=>false
variable {K:V → A8 → Nat → Prop} {o:Oper}
theorem zce (x : Operand) (t : TypeId) (ho : o.op = .call ⟨.builtin .len, #[x], #[t]⟩) {ti : TI} (hti : C8 P t = some ti) (hd : zSe ti.d (A7 σ.t x) = true) {n : Nat} (hn : zHa (A7 σ.t x) = some n)
    (hk:K (.val (.int .i64 n)) σ.H σ.k):OpT fr P o σ K :=
  C5 hk fun F ι a w hh=>by
    have he:=hh.eval x
    obtain ⟨d,hr,hu,h1⟩:=T9 hti w
    refine ⟨.int .i64 n,?_,.val _ rfl⟩
    have key:(Builtin.len_ #[t] o.type #[a.eval x]).run P w=.ok (.int .i64 n) w:=by
      generalize a.eval x=cv at he
      generalize A7 σ.t x=v at hd hn he
      rw [h1] at hd
      cases d with
      | string =>
        cases v with
        | val u =>
          have:=he.inv_val;subst this
          cases cv<;>simp_all [zSe,zHa,D.of]
          simp [Builtin.len_,hr,goInt,hn]
        | _=>simp [zSe,D.of] at hd
      | slice e =>
        cases he with
        | val u h =>
          cases cv with
          | slice a l c =>
            cases a with
            | none=>cases l<;>cases c<;>simp_all [zHa];subst hn;simp [Builtin.len_,hr,goInt]
            | some a=>simp [zHa] at hn
          | _=>simp_all [zSe,D.of]
        | sl _ _ _ _ _ _ _ _=>simp [zHa] at hn;subst hn;simp [Builtin.len_,hr,goInt]
        | sl0 _=>simp [zHa] at hn;subst hn;simp [Builtin.len_,hr,goInt]
        | sub _ _ _ _ _ _ _=>simp [zHa] at hn;subst hn;simp [Builtin.len_,hr,goInt]
        | ro0=>simp [zHa] at hn;subst hn;simp [Builtin.len_,hr,goInt]
        | ro _ _ _ _ hlen _ _ _ _=>simp [zHa] at hn;subst hn;subst hlen;simp [Builtin.len_,hr,goInt]
        | _=>simp [zSe,D.of] at hd
      | _=>simp [zSe,D.of] at hd
    unfold execOp;rw [ho]
    simp [resolve,invoke,builtin,key]
theorem zcf (x y : Operand) (ts : Array TypeId) (ho : o.op = .call ⟨.builtin .min, #[x, y], ts⟩) {k k' : IntKind} {m n : Int} (hx : A7 σ.t x = .val (.int k m)) (hy : A7 σ.t y = .val (.int k' n))
    (hk:K (.val (.int k (if n<m then n else m))) σ.H σ.k):OpT fr P o σ K :=
  C5 hk fun F ι a w hh=>by
    have he:=hh.eval x
    have hi:=hh.eval y
    rw [hx] at he;rw [hy] at hi
    refine ⟨_,?_,.val _ rfl⟩
    unfold execOp;rw [ho]
    simp [resolve,invoke,builtin,he.inv_val,hi.inv_val,Builtin.min_,Builtin.min2]
theorem zcg (x y : Operand) (ts : Array TypeId) (ho : o.op = .call ⟨.builtin .max, #[x, y], ts⟩) {k k' : IntKind} {m n : Int} (hx : A7 σ.t x = .val (.int k m)) (hy : A7 σ.t y = .val (.int k' n))
    (hk:K (.val (.int k (if n > m then n else m))) σ.H σ.k):OpT fr P o σ K :=
  C5 hk fun F ι a w hh=>by
    have he:=hh.eval x
    have hi:=hh.eval y
    rw [hx] at he;rw [hy] at hi
    refine ⟨_,?_,.val _ rfl⟩
    unfold execOp;rw [ho]
    simp [resolve,invoke,builtin,he.inv_val,hi.inv_val,Builtin.max_,Builtin.max2]
def N4 (t:List (Nat × V)) (d:Nat):Option Operand->Option Int
 | none=>some d
 | some x=>match A7 t x with|.val (.int _ n)=>some n|_=>none
theorem H4 (b : Bool) (len cap : Nat) (lo hi : Option Value) (l h : Int) (hlo : lo = none ∧ l = 0 ∨ ∃ k, lo = some (.int k l)) (hhi : hi = none ∧ h = len ∨ ∃ k, hi = some (.int k h)) (h0 : 0 ≤ l) (h1 : l ≤ h) (h2 : h ≤ len) (hc : len ≤ cap) (w : World) :
    (Instr.sliceBounds b len cap lo hi none).run P w=.ok (l.toNat,h.toNat,cap) w:=by
  have g0:0<=h/\h<=cap:=by and_intros<;>omega
  rcases hhi with ⟨rfl,rfl⟩|⟨k,rfl⟩<;>rcases hlo with ⟨rfl,rfl⟩|⟨k',rfl⟩<;>simp [Instr.sliceBounds,Instr.sliceBound,asIntOf,h0,g0,h1]
  omega
theorem G0 (hh:Holds fr F ι σ a w) (d:Nat) (x:Option Operand) (n:Int) (h:N4 σ.t d x=some n):(x.map a.eval=none/\n=d)\/∃ k,x.map a.eval=some (.int k n):=by
 cases x with
 | none=>simp [N4] at h;exact .inl ⟨rfl,h.symm⟩
 | some x =>
  have he:=hh.eval x
  simp only [N4] at h
  split at h
  .rename_i k m hv
   rw [hv] at he
   cases h
   exact .inr ⟨k,by simp [he.inv_val]⟩
  cases h
theorem QK_ (t : TypeId) (x : Operand) (lo hi : Option Operand) (ho : o.op = .slice t x lo hi none) {ti : TI} (hti : C8 P t = some ti) (hd : ti.d = .string) {s : ByteArray} (hx : A7 σ.t x = .val (.string s))
    {l h:Int} (hl:N4 σ.t 0 lo=some l) (hh':N4 σ.t s.size hi=some h) (h0:0<=l) (h1:l<=h) (h2:h<=s.size) (hk:K (.val (.string (s.extract l.toNat h.toNat))) σ.H σ.k):OpT fr P o σ K :=
  C5 hk fun F ι a w hh=>by
    have he:=hh.eval x
    rw [hx] at he
    have hb:=H4 (P:=P) false s.size s.size (lo.map a.eval) (hi.map a.eval) l h (by simpa using G0 hh 0 lo l hl) (G0 hh _ hi h hh') h0 h1 h2 (Nat.le_refl _) w
    refine ⟨_,?_,.val _ rfl⟩
    unfold execOp;rw [ho]
    simp [he.inv_val,Instr.sliceAt,Instr.slice,y1 hti hd,hb]
theorem QL_ (t : TypeId) (x : Operand) (lo hi : Option Operand) (ho : o.op = .slice t x lo hi none) {ti te : TI} (hti : C8 P t = some ti) {e : TypeId} (hd : ti.d = .slice e) (hte : C8 P e = some te) (hx : A7 σ.t x = .val (.slice none 0 0))
    {l h:Int} (hl:N4 σ.t 0 lo=some l) (hh':N4 σ.t 0 hi=some h) (h0:l=0) (h1:h=0) (hk:K (.val (.slice none 0 0)) σ.H σ.k):OpT fr P o σ K :=
  C5 hk fun F ι a w hh=>by
    have he:=hh.eval x
    rw [hx] at he
    subst h0 h1
    have hb:=H4 (P:=P) true 0 0 (lo.map a.eval) (hi.map a.eval) 0 0 (by simpa using G0 hh 0 lo 0 hl) (G0 hh _ hi 0 hh') (by omega) (by omega) (by omega) (Nat.le_refl _) w
    refine ⟨.slice none 0 0,?_,.val _ rfl⟩
    unfold execOp;rw [ho]
    simp [he.inv_val,Instr.sliceAt,Instr.slice,C6 hti hd,hb,B9 hte]
theorem J2_ (t : TypeId) (x : Operand) (lo hi : Option Operand) (ho : o.op = .slice t x lo hi none) {ti te : TI} (hti : C8 P t = some ti) {e : TypeId} (hd : ti.d = .slice e) (hte : C8 P e = some te)
    {n i len:Nat} {es:List V} (hx:A7 σ.t x=.sl n i len) (hn:look n σ.H=some (.rows te.size es))
    {l h:Int} (hl:N4 σ.t 0 lo=some l) (hh':N4 σ.t len hi=some h) (h0:0<=l) (h1:l<=h) (h2:h<=len) (hk:K (.sl n (i+l.toNat) (h.toNat-l.toNat)) σ.H σ.k):OpT fr P o σ K :=
  C5 hk fun F ι a w hh=>by
    have he:=hh.eval x
    rw [hx] at he
    generalize hcv:a.eval x=cv at he
    cases he with
    | sl hl' hg hm hoff hc0 hlc hcm hs =>
      rename_i off cap L
      obtain ⟨e1,_⟩:=hh.rep.block hn hl' hg
      have hb:=H4 (P:=P) true len cap (lo.map a.eval) (hi.map a.eval) l h (by simpa using G0 hh 0 lo l hl) (G0 hh _ hi h hh') h0 h1 h2 hlc w
      by_cases hcl:cap=l.toNat
      . subst hcl
        refine ⟨.slice (some ⟨L.b,off,none⟩) (h.toNat-l.toNat) (l.toNat-l.toNat),?_,?_⟩
        . unfold execOp;rw [ho]
          simp [hcv,Instr.sliceAt,Instr.slice,C6 hti hd,hb,B9 hte]
        rw [show h.toNat-l.toNat=0 by omega,show l.toNat-l.toNat=0 by omega]
        exact .sl0 hl'
      refine ⟨.slice (some ⟨L.b,off+l.toNat*te.size,none⟩) (h.toNat-l.toNat) (cap-l.toNat),?_,?_⟩
      . unfold execOp;rw [ho]
        simp [hcv,Instr.sliceAt,Instr.slice,C6 hti hd,hb,B9 hte,hcl,Addr.add_lit]
      refine .sl hl' hg hm (by rw [hoff,e1,Nat.add_mul];omega) (by omega) (by omega) (by omega) ?_
      have:(cap-l.toNat)*L.sz+l.toNat*te.size=cap*L.sz:=by rw [e1,<-Nat.add_mul];congr 1;omega
      omega
    | sl0 hl' =>
      rename_i L a0
      have hl0:l=0:=by omega
      have hh0:h=0:=by omega
      subst hl0 hh0
      have hb:=H4 (P:=P) true 0 0 (lo.map a.eval) (hi.map a.eval) 0 0 (by simpa using G0 hh 0 lo 0 hl) (G0 hh _ hi 0 hh') (by omega) (by omega) (by omega) (Nat.le_refl _) w
      refine ⟨.slice a0 0 0,?_,.sl0 hl'⟩
      unfold execOp;rw [ho]
      simp [hcv,Instr.sliceAt,Instr.slice,C6 hti hd,hb,B9 hte]
theorem J3_ (t : TypeId) (x : Operand) (lo hi : Option Operand) (ho : o.op = .slice t x lo hi none) {ti te : TI} (hti : C8 P t = some ti) {e : TypeId} (hd : ti.d = .slice e) (hte : C8 P e = some te)
    {es:List V} (hx:A7 σ.t x=.ro te.size es)
    {l h:Int} (hl:N4 σ.t 0 lo=some l) (hh':N4 σ.t es.length hi=some h) (h0:0<=l) (h1:l<=h) (h2:h<=es.length) (hk:K (.ro te.size ((es.drop l.toNat).take (h.toNat-l.toNat))) σ.H σ.k):OpT fr P o σ K :=
  C5 hk fun F ι a w hh=>by
    have he:=hh.eval x
    rw [hx] at he
    generalize hcv:a.eval x=cv at he
    cases he with
    | ro0 =>
      rename_i cap a0
      have hl0:l=0:=by simp at h2;omega
      have hh0:h=0:=by simp at h2;omega
      subst hl0 hh0
      have hb:=H4 (P:=P) true 0 cap (lo.map a.eval) (hi.map a.eval) 0 0 (by simpa using G0 hh 0 lo 0 hl) (G0 hh _ hi 0 hh') (by omega) (by omega) (by omega) (Nat.zero_le _) w
      refine ⟨.slice a0 0 cap,?_,by simpa using VRel.ro0⟩
      unfold execOp;rw [ho]
      by_cases hc0:cap=0
      . subst hc0;simp [hcv,Instr.sliceAt,Instr.slice,C6 hti hd,hb,B9 hte]
      cases a0<;>simp [hcv,Instr.sliceAt,Instr.slice,C6 hti hd,hb,B9 hte,hc0,Addr.add_zero']
    | ro hb hO hw hsz hlen hlc hin hvs hv =>
      rename_i b off len cap c et fr vs
      subst hvs hlen
      have hbd:=H4 (P:=P) true es.length cap (lo.map a.eval) (hi.map a.eval) l h (by simpa using G0 hh 0 lo l hl) (G0 hh _ hi h hh') h0 h1 h2 hlc w
      by_cases hcl:cap=l.toNat
      . subst hcl
        refine ⟨.slice (some ⟨b,off,none⟩) (h.toNat-l.toNat) (l.toNat-l.toNat),?_,?_⟩
        . unfold execOp;rw [ho]
          simp [hcv,Instr.sliceAt,Instr.slice,C6 hti hd,hbd,B9 hte]
        rw [show h.toNat-l.toNat=0 by omega]
        exact .ro0
      refine ⟨.slice (some ⟨b,off+l.toNat*te.size,none⟩) (h.toNat-l.toNat) (cap-l.toNat),?_,?_⟩
      . unfold execOp;rw [ho]
        simp [hcv,Instr.sliceAt,Instr.slice,C6 hti hd,hbd,B9 hte,hcl,Addr.add_lit]
      have hcl:∀ v∈es,v.cells.length=te.size:=fun v hv=>(C9.1 (hsz v hv)).1
      have hlen':((es.drop l.toNat).take (h.toNat-l.toNat)).length=h.toNat-l.toNat:=by simp;omega
      have hmul:l.toNat*te.size+(h.toNat-l.toNat)*te.size<=es.length*te.size:=by rw [<-Nat.add_mul];exact Nat.mul_le_mul_right _ (by omega)
      have hv':=(hv.drop (l.toNat*te.size)).take ((h.toNat-l.toNat)*te.size)
      rw [M2 hcl,O5 (fun v hv=>hcl v (mem_of_mem_drop hv))] at hv'
      have hlist:(((c.toList.drop off).take (es.length*te.size)).drop (l.toNat*te.size)).take ((h.toNat-l.toNat)*te.size)=(c.toList.drop (off+l.toNat*te.size)).take ((h.toNat-l.toNat)*te.size):=by
        apply List.ext_getElem?
        intro q
        simp only [List.getElem?_take,List.getElem?_drop]
        by_cases hq:q<(h.toNat-l.toNat)*te.size
        . simp only [hq,if_true,show l.toNat*te.size+q<es.length*te.size by omega]
          congr 1;omega
        simp [hq]
      rw [hlist] at hv'
      exact .ro hb hO hw (fun v hv=>hsz v (mem_of_mem_drop (mem_of_mem_take hv))) hlen'.symm (by omega) (by rw [hlen'];omega) (by rw [hlen']) hv'
def m7 (H:A8) (sz:Nat):V->Option (List V)
 | .val (.slice none 0 0)=>some []
 | .ro sz' es=>if sz'=sz then some es else none
 | .sl n i len=>match look n H with
  | some (.rows sz' es)=>if sz'=sz then (if i+len<=es.length then some ((es.drop i).take len) else none) else none
  | _=>none
 | _=>none
theorem u4 (hh : Holds fr F ι σ a w) {sz : Nat} {x : V} {cv : Value} {es : List V} (h : m7 σ.H sz x = some es) (hx : VRel ι (Own F ι σ.H) w x cv) :
    (∀ v∈es,v.fits sz=true)/\((∃ cap,cv=.slice none 0 cap/\es=[])\/∃ ad cap,cv=.slice (some ad) es.length cap/\∃ vs:List Value,vs.length=es.length*sz/\VRels ι (Own F ι σ.H) w (es.flatMap V.cells) vs/\∀ j u,vs[j]?=some u->w.cell? (ad.add j)=some u):=by
  cases hx with
  | val v hv =>
    cases cv with
    | slice a l c =>
      cases a with
      | none=>cases l<;>cases c<;>simp_all [m7]
      | some a=>simp [m7] at h
    | _=>simp [m7] at h
  | ro0 =>
    rename_i sz' cap a0
    simp only [m7] at h
    split at h
    . cases h
      refine ⟨by simp,?_⟩
      cases a0 with
      | none=>exact .inl ⟨_,rfl,rfl⟩
      | some a0=>exact .inr ⟨a0,cap,rfl,[],by simp,.nil,by simp⟩
    cases h
  | ro hb hO hw hsz hlen hlc hin hvs hv =>
    rename_i sz' b off len cap es' c et fr vs
    simp only [m7] at h
    split at h
    . subst_vars
      cases h
      exact ⟨hsz,.inr ⟨_,cap,rfl,_,by simp;omega,hv,Y1_ hw⟩⟩
    cases h
  | sl hl hg hm hoff hc0 hlc hcm hs =>
    rename_i n i len off cap l
    simp only [m7] at h
    split at h
    . rename_i sz' es' hn
      split at h
      . rename_i hsz;have hsz:=hsz.symm;subst hsz
        split at h
        . rename_i hle
          cases h
          obtain ⟨e1,e2,e3,e4,e5,c,e,hw,hc,hlen,hv⟩:=hh.rep.block hn hl hg
          have hcl:∀ v∈es',v.cells.length=sz:=fun v hv=>(C9.1 (e3 v hv)).1
          refine ⟨fun v hv=>e3 v (mem_of_mem_drop (mem_of_mem_take hv)),.inr ⟨_,cap,by rw [length_take,length_drop,show min len (es'.length-i)=len by omega,hoff],(c.toList.drop (l.o+i*l.sz)).take (len*sz),?_,?_,Y1_ hw⟩⟩
          . have:(i+len)*sz<=es'.length*sz:=Nat.mul_le_mul_right _ hle
            rw [Nat.add_mul] at this
            simp only [length_take,length_drop,Array.length_toList,e1]
            rw [show min len (es'.length-i)=len by omega];omega
          have hv':=(hv.drop (i*sz)).take (len*sz)
          rw [M2 hcl,O5 (fun v hv=>hcl v (mem_of_mem_drop hv))] at hv'
          have:(i+len)*sz<=es'.length*sz:=Nat.mul_le_mul_right _ hle
          rw [Nat.add_mul] at this
          have hlist:(((c.toList.drop l.o).take (es'.length*sz)).drop (i*sz)).take (len*sz)=(c.toList.drop (l.o+i*l.sz)).take (len*sz):=by
            apply List.ext_getElem?
            intro q
            simp only [List.getElem?_take,List.getElem?_drop]
            by_cases hq:q<len*sz
            . simp only [hq,if_true,show i*sz+q<es'.length*sz by omega]
              congr 1;rw [e1];omega
            simp [hq]
          rw [hlist] at hv';exact hv'
        cases h
      cases h
    cases h
  | sl0 hl =>
    rename_i n i l a0
    simp only [m7] at h
    split at h
    . split at h
      . split at h
        . cases h
          refine ⟨by simp,?_⟩
          cases a0 with
          | none=>exact .inl ⟨0,rfl,by simp⟩
          | some a0=>exact .inr ⟨a0,0,by simp,[],by simp,by simpa using VRels.nil,by simp⟩
        cases h
      cases h
    cases h
  | _=>simp [m7] at h
end
end Go.Sl
namespace Go.Sl
section
variable {fr:Nat->Prop} {F:Nat->Prop} {ι ι':E3} {O:Nat->Prop} {H:A8} {σ σ':St} {a a':Act} {w w':World} {P:Program} {T:Tab}
variable {e t ty u:TypeId} {te ti tu:TI}
theorem zGs (h:C8 P t=some ti) {e:TypeId} (hd:ti.d=.slice e):P.underlying t=some (.slice e):=by
 obtain ⟨d,_,hu,h1⟩:=T9 h (default:World)
 rw [hu,D.of_slice (h1.symm.trans hd)]
theorem J4_ {α:Type} (cs vs:List α) (off m:Nat) (h:off+m+vs.length<=cs.length):((splice cs (off+m) vs).drop off).take (m+vs.length)=(cs.drop off).take m++vs:=by
 apply List.ext_getElem?
 intro q
 have hl:((cs.drop off).take m).length=m:=by rw [length_take,length_drop];omega
 simp only [List.getElem?_take,List.getElem?_drop]
 rw [getElem?_splice cs vs (off+m) (off+q) (by omega)]
 by_cases h1:q<m
 .rw [List.getElem?_append_left (by omega),if_pos (by omega),if_neg (by omega),List.getElem?_take,if_pos h1,List.getElem?_drop]
 rw [List.getElem?_append_right (by omega),hl]
 by_cases h2:q<m+vs.length
 .rw [if_pos h2,if_pos (by omega)];congr 1;omega
 rw [if_neg h2,List.getElem?_eq_none (by omega)]
theorem o0 (hti : C8 P t = some ti) (hd : ti.d = .slice e) (htu : C8 P u = some tu) {e' : TypeId} (hdu : tu.d = .slice e') (hte : C8 P e = some te)
    (base:Option Addr) (sLen sCap n:Nat) (x:Value) (hx:∀ w,(Builtin.lenOf x).run P w=.ok n w) (vs:List Value) (hvs:(Builtin.firstCells te.size n x).run P w=.ok vs.toArray w) (hfit:sLen+n<=sCap)
    (w1:World) (hst:(match base with|some a=>(storeCells (a.add (sLen*te.size)) vs).run P w|none=>.ok () w)=.ok () w1) :
    (Builtin.append_ #[t,u] ty #[.slice base sLen sCap,x]).run P w=.ok (.slice base (sLen+n) sCap) w1:=by
  obtain ⟨i,z,hri,hi,h1,h2,hz,hzc⟩:=YT_ hte w
  cases base with
  | none =>
    simp only [] at hst
    cases hst
    simp [Builtin.append_,C6 hti hd,C6 htu hdu,B9 hte,hx,hvs,hfit]
  | some a =>
    simp only [] at hst
    simp [Builtin.append_,C6 hti hd,C6 htu hdu,B9 hte,hx,hvs,hfit,hst]
theorem Yn_ (hti : C8 P t = some ti) (hd : ti.d = .slice e) (htu : C8 P u = some tu) {e' : TypeId} (hdu : tu.d = .slice e') (hte : C8 P e = some te)
    (base:Option Addr) (sLen sCap n:Nat) (x:Value) (hx:∀ w,(Builtin.lenOf x).run P w=.ok n w) (vs us:List Value) (hvs:(Builtin.firstCells te.size n x).run P w.drew=.ok vs.toArray w.drew)
    (hus:(Builtin.firstCells te.size sLen (.slice base sLen sCap)).run P w.drew=.ok us.toArray w.drew) (hg:sCap<sLen+n) (hb:(sLen+n)*te.bytes<=140737488355328) (hb0:0<te.bytes) :
    ∃ zs:Array Value,(Builtin.append_ #[t,u] ty #[.slice base sLen sCap,x]).run P w =
      .ok (.slice (some ⟨w.heap.size,0,none⟩) (sLen+n) (grownCap w (sLen+n) sCap e)) (w.drew.alloc (.cells (us.toArray++vs.toArray++zs) e))/\zs.size=(grownCap w (sLen+n) sCap e-(sLen+n))*te.size:=by
  obtain ⟨i,z,hri,hi,h1,h2,hz,hzc⟩:=YT_ hte w
  have hfit:=growslice_fits hg hb
  have hn:¬ (sLen+n<=sCap):=by omega
  have hle:sLen+n<=(sLen+n)*te.bytes:=Nat.le_mul_of_pos_right _ hb0
  have g1:¬ (9223372036854775807<((sLen:Int)+(n:Int)))/\¬ (281474976710656<Builtin.nextslicecap (sLen+n) sCap*te.bytes):=by and_intros<;>omega
  have hzs:z.cells.size=te.size:=by
    have:=(H3 hte).2
    rw [<-hzc] at this;simpa using this
  refine ⟨Builtin.zeroCells z.cells (grownCap w (sLen+n) sCap e-(sLen+n)),?_,by rw [size_zeroCells,hzs]⟩
  have hinfo:∀ w,(typeInfo e).run P w=.ok i w:=fun w=>by simp [typeInfo,hi]
  have hzv:∀ w,(zeroValue e).run P w=.ok z w:=fun w=>by simp [zeroValue,typeInfo,hi,hz]
  simp [Builtin.append_,C6 hti hd,C6 htu hdu,B9 hte,hx,hn,g1,hinfo,h2,Question.forced,hvs,hus,hzv,newRow,grownCap]
  congr 2
  apply Array.ext'
  simp
theorem QM_ (hh : Holds fr F ι σ a w) {sz : Nat} {x : V} {cv : Value} {es : List V} (h : m7 σ.H sz x = some es) (hx : VRel ι (Own F ι σ.H) w x cv) :
    ∃ vs:List Value,VRels ι (Own F ι σ.H) w (es.flatMap V.cells) vs/\vs.length=es.length*sz/\(∀ w,(Builtin.lenOf cv).run P w=.ok es.length w) ∧
      (Builtin.firstCells sz es.length cv).run P w=.ok vs.toArray w/\(Builtin.firstCells sz es.length cv).run P w.drew=.ok vs.toArray w.drew:=by
  obtain ⟨_,h'⟩:=u4 hh h hx
  rcases h' with ⟨cap,rfl,rfl⟩|⟨ad,cap,rfl,vs,hl,hv,hc⟩
  . exact ⟨[],.nil,by simp,fun w=>by simp [Builtin.lenOf],by simp [Builtin.firstCells],by simp [Builtin.firstCells]⟩
  exact ⟨vs,hv,hl,fun w=>by simp [Builtin.lenOf],run_firstCells_some w sz es.length ad es.length cap vs hl hc,run_firstCells_some w.drew sz es.length ad es.length cap vs hl (by simpa using hc)⟩
theorem Ww_ {k:Nat} (hk : ι k = none) (hfk : fr k) (hfr : ∀ n, fr n → k + 1 ≤ n → ι n = none) (R : Rep F ι H w) (e : TypeId) (sz : Nat) (es : List V) (hfit : ∀ v ∈ es, v.fits sz = true) (vs : List Value) (zs : Array Value) (hl : vs.length = es.length * sz)
    (hv:VRels ι (Own F ι H) w (es.flatMap V.cells) vs) (cap:Nat) (h0:0<cap) (hlc:es.length<=cap) (hcm:cap<=maxLen) (hzs:zs.size=(cap-es.length)*sz) :
    Out fr F ι H k w (upd ι k ⟨w.heap.size,0,sz,(vs.toArray++zs).size,false,false⟩) (.sl k 0 es.length) (.slice (some ⟨w.heap.size,0,none⟩) es.length cap) ((k,.rows sz es)::H) (k+1) (w.drew.alloc (.cells (vs.toArray++zs) e)):=by
  have hhp:∀ i,i<w.heap.size->(w.drew.alloc (.cells (vs.toArray++zs) e)).heap[i]?=w.heap[i]?:=fun i hi=>heap_alloc_old w.drew _ i hi
  have hsz:(w.drew.alloc (.cells (vs.toArray++zs) e)).heap.size=w.heap.size+1:=by simp
  refine ⟨⟨u1 R hk _ _ rfl rfl (Tp.drew w) rfl (by omega) hhp,Nat.le_succ _,fun n hn=>F9 _ _ _ _ (fun e=>by subst e;have:=hn hfk;omega),?_⟩,?_,?_,?_⟩
  . intro n hn
    simp only [map_cons,mem_cons] at hn
    rcases hn with hn|hn
    . subst hn;exact .inr ⟨hfk,by omega⟩
    exact .inl hn
  . refine R.alloc hk _ _ rfl rfl (Tp.drew w) rfl (by omega) hhp fun ι' O' S=>⟨rfl,rfl,hfit,.inr ⟨rfl,_,e,heap_alloc_new w.drew _,rfl,?_,?_⟩⟩
    . simp only [Nat.zero_add,Array.size_append,size_toArray,hl];omega
    have:(((vs.toArray++zs).toList.drop 0).take (es.length*sz))=vs:=by
      simp only [Array.toList_append,drop_zero]
      rw [<-hl];exact take_left
    rw [this];exact hv.stays S
  . intro n hf hn
    rw [F9 _ _ _ _ (by omega)]
    exact hfr n hf hn
  refine .sl (B4 _ _ _) rfl rfl (by simp) h0 hlc hcm ?_
  simp only [Nat.zero_add,Array.size_append,size_toArray,hl,hzs,<-Nat.add_mul]
  exact Nat.mul_le_mul_right _ (by omega)
theorem QN_ (hfk : fr σ.k) {o : Oper} {K : V → A8 → Nat → Prop} (s x : Operand) (t u : TypeId) (ho : o.op = .call ⟨.builtin .append, #[s, x], #[t, u]⟩) {ti tu te : TI} (hti : C8 P t = some ti) {e e' : TypeId} (hd : ti.d = .slice e) (htu : C8 P u = some tu) (hdu : tu.d = .slice e')
    (hte:C8 P e=some te) (hsz:0<te.size) (hb0:0<te.bytes) {olds news:List V} {H0:A8}
    (hs:A7 σ.t s=.val (.slice none 0 0)/\olds=[]/\H0=σ.H\/∃ n i len es,A7 σ.t s=.sl n i len/\look n σ.H=some (.rows te.size es)/\i+len<=es.length/\olds=(es.drop i).take len/\H0=del n σ.H)
    (hx:m7 σ.H te.size (A7 σ.t x)=some news) (hb:(olds.length+news.length)*te.bytes<=140737488355328)
    (hk:K (.sl σ.k 0 (olds.length+news.length)) ((σ.k,.rows te.size (olds++news))::H0) (σ.k+1)):OpT fr P o σ K :=
  S6 fun F ι a w hh=>by
    have hle:olds.length+news.length<=(olds.length+news.length)*te.bytes:=Nat.le_mul_of_pos_right _ hb0
    have hml:olds.length+news.length<=maxLen:=by simp only [maxLen];omega
    have hev:=hh.eval x
    obtain ⟨hnf,_⟩:=u4 hh hx hev
    obtain ⟨vs,hvs,hvl,hlen,hfc,hfc'⟩:=QM_ (P:=P) hh hx hev
    have hk0:=hh.fresh σ.k hfk (Nat.le_refl _)
    have hfr:∀ n,fr n->σ.k+1<=n->ι n=none:=fun n hf hn=>hh.fresh n hf (by omega)
    have hexec:∀ y W,(Builtin.append_ #[t,u] o.type #[a.eval s,a.eval x]).run P w=.ok y W->(execOp a.eval o).run P w=.ok (.value y) W:=by
      intro y W h
      unfold execOp;rw [ho]
      simp [resolve,invoke,builtin,h]
    -- nothing there,and nothing comes
    have empty : ∀ (n : Option Nat) (base : Option Addr), a.eval s = .slice base 0 0 → H0 = (match n with | some n => del n σ.H | none => σ.H) → olds = [] → news = [] →
        ∃ ι' v cv H' k' w',(execOp a.eval o).run P w=.ok (.value cv) w'/\K v H' k'/\Out fr F ι σ.H σ.k w ι' v cv H' k' w':=by
      intro n base hs0 hH0 h1 h2
      subst h1 h2
      have hvs0:vs=[]:=eq_nil_of_length_eq_zero (by simpa using hvl)
      subst hvs0
      have R0:Rep F ι H0 w:=by rw [hH0];cases n with
        | none=>exact hh.rep
        | some n=>exact hh.rep.del n
      have K0:Kept ι σ.H w ι H0 w:=by rw [hH0];cases n with
        | none=>exact .refl _ _ _
        | some n=>exact O9 hh.rep n
      have hsub:∀ m,m∈H0.map Prod.fst->m∈σ.H.map Prod.fst:=by
        rw [hH0];cases n with
        | none=>exact fun m h=>h
        | some n=>exact fun m h=>(F4 n σ.H).mem h
      obtain ⟨R1,K1⟩:=R0.ghost hk0 te.size
      refine ⟨_,.sl σ.k 0 0,.slice base 0 0,_,_,w,hexec _ _ ?_,hk,⟨⟨K0.trans K1,Nat.le_succ _,fun n hn=>F9 _ _ _ _ (fun e=>by subst e;have:=hn hfk;omega),?_⟩,R1,?_,.sl0 (B4 _ _ _)⟩⟩
      . rw [hs0]
        exact o0 hti hd htu hdu hte base 0 0 0 _ hlen [] hfc (by omega) w (by cases base<;>simp [storeCells])
      . intro m hm
        simp only [map_cons,mem_cons] at hm
        rcases hm with hm|hm
        . subst hm;exact .inr ⟨hfk,by omega⟩
        exact .inl (hsub m hm)
      intro m hf hm
      rw [F9 _ _ _ _ (by omega)]
      exact hfr m hf hm
    -- a new row
    have fresh : ∀ (n : Option Nat) (base : Option Addr) (cap : Nat) (us : List Value), a.eval s = .slice base olds.length cap → H0 = (match n with | some n => del n σ.H | none => σ.H) → (∀ v ∈ olds, v.fits te.size = true) → us.length = olds.length * te.size →
        VRels ι (Own F ι σ.H) w (olds.flatMap V.cells) us->(Builtin.firstCells te.size olds.length (.slice base olds.length cap)).run P w.drew=.ok us.toArray w.drew->cap<olds.length+news.length →
        ∃ ι' v cv H' k' w',(execOp a.eval o).run P w=.ok (.value cv) w'/\K v H' k'/\Out fr F ι σ.H σ.k w ι' v cv H' k' w':=by
      intro n base cap us hs0 hH0 hof hul hus hus' hg
      have R0:Rep F ι H0 w:=by rw [hH0];cases n with
        | none=>exact hh.rep
        | some n=>exact hh.rep.del n
      have K0:Kept ι σ.H w ι H0 w:=by rw [hH0];cases n with
        | none=>exact .refl _ _ _
        | some n=>exact O9 hh.rep n
      have hsub:∀ m,m∈H0.map Prod.fst->m∈σ.H.map Prod.fst:=by
        rw [hH0];cases n with
        | none=>exact fun m h=>h
        | some n=>exact fun m h=>(F4 n σ.H).mem h
      obtain ⟨zs,hr,hzs⟩:=Yn_ (w:=w) (ty:=o.type) hti hd htu hdu hte base olds.length cap news.length _ hlen vs us hfc' hus' hg hb hb0
      have hO:=Ww_ (e:=e) hk0 hfk hfr R0 te.size (olds++news) (fun v hv=>(List.mem_append.1 hv).elim (hof v) (hnf v)) (us++vs) zs (by rw [length_append,hul,hvl,length_append,Nat.add_mul])
        (by rw [flatMap_append];exact (hus.stays K0.stays).append (hvs.stays K0.stays)) (grownCap w (olds.length+news.length) cap e)
        (by have:=grownCap_ge w (olds.length+news.length) cap e;omega) (by rw [length_append];exact grownCap_ge _ _ _ _) (grownCap_le_maxLen _ _ _ _ hml) (by rw [length_append];exact hzs)
      rw [length_append] at hO
      have hcells:us.toArray++vs.toArray++zs=(us++vs).toArray++zs:=by simp
      rw [hcells] at hr
      refine ⟨_,_,_,_,_,_,hexec _ _ (by rw [hs0];exact hr),hk,⟨⟨K0.trans hO.ext.kept,hO.ext.le,hO.ext.same,?_⟩,hO.rep,hO.fresh,hO.val⟩⟩
      intro m hm
      exact (hO.ext.dom m hm).imp (hsub m) id
    have hes:=hh.eval s
    rcases hs with ⟨hs,hol,hH0⟩|⟨n,i,len,es,hs,hn,hil,hol,hH0⟩
    . rw [hs] at hes
      have hes:=hes.inv_val
      subst hol
      by_cases h0:news=[]
      . exact empty none none hes hH0 rfl h0
      have:0<news.length:=List.length_pos_iff.2 h0
      exact fresh none none 0 [] (by simpa using hes) hH0 (by simp) (by simp) .nil (by simp [Builtin.firstCells]) (by simpa using this)
    rw [hs] at hes
    have holl:olds.length=len:=by rw [hol,length_take,length_drop];omega
    generalize hcv:a.eval s=cv at hes
    cases hes with
    | sl0 hl =>
      rename_i l a0
      have hol0:olds=[]:=eq_nil_of_length_eq_zero holl
      by_cases h0:news=[]
      . exact empty (some n) a0 hcv hH0 hol0 h0
      have:0<news.length:=List.length_pos_iff.2 h0
      have hz:(Builtin.firstCells te.size olds.length (.slice a0 olds.length 0)).run P w.drew=.ok ([]:List Value).toArray w.drew:=by
        rw [hol0];cases a0<;>simp [Builtin.firstCells,loadCells,loadCellsFrom]
      exact fresh (some n) a0 0 [] (by rw [hol0];exact hcv) hH0 (by rw [hol0];simp) (by rw [hol0];simp) (by rw [hol0];exact .nil) hz (by omega)
    | sl hl hg hm hoff hc0 hlc hcm hsz' =>
      rename_i off cap l
      have hnews0:m7 σ.H te.size (A7 σ.t s)=some olds:=by
        rw [hs];simp only [m7,hn,if_true,if_pos hil,hol]
      obtain ⟨hof,_⟩:=u4 hh hnews0 (hh.eval s)
      obtain ⟨us,hus,hul,_,hufc,hufc'⟩:=QM_ (P:=P) hh hnews0 (hh.eval s)
      rw [hcv] at hufc hufc'
      have hcv':a.eval s=.slice (some ⟨l.b,off,none⟩) olds.length cap:=by rw [holl];exact hcv
      by_cases hfit:olds.length+news.length<=cap
      . obtain ⟨e1,e2,e3,e4,e5,c,et,hw,hc,hlo,hv⟩:=hh.rep.block hn hl hg
        have hmulc:(olds.length+news.length)*te.size<=cap*te.size:=Nat.mul_le_mul_right _ hfit
        rw [Nat.add_mul] at hmulc
        have hoffc:off+cap*te.size<=c.size:=by rw [hc,<-e1];exact hsz'
        have h1c:∀ v∈vs,v.oneCell'=true:=Vy_ hvs fun c hc=>by
          obtain ⟨v,hv1,hv2⟩:=List.mem_flatMap.1 hc
          exact (C9.1 (hnf v hv1)).2 c hv2
        have hst:=run_storeCells_at P l.b (off+olds.length*te.size) et vs 0 c w hw (by rw [hvl];omega) h1c
        rw [Nat.add_zero] at hst
        have hr:=o0 (w:=w) (ty:=o.type) hti hd htu hdu hte (some ⟨l.b,off,none⟩) olds.length cap news.length _ hlen vs hfc hfit _ (by simp only [Addr.add_lit];exact hst)
        have hmem:=D6 hn
        have hoth:∀ q,q<w.heap.size->q≠l.b->(w.setRow l.b (c.toList.take (off+olds.length*te.size)++vs++c.toList.drop (off+olds.length*te.size+vs.length)).toArray).heap[q]?=w.heap[q]?:=fun q _ hq=>setRow_other w l.b q _ hq
        have hcs:=setRow_heap w l.b c (c.toList.take (off+olds.length*te.size)++vs++c.toList.drop (off+olds.length*te.size+vs.length)).toArray et (0,0) hw
        have hsplice:c.toList.take (off+olds.length*te.size)++vs++c.toList.drop (off+olds.length*te.size+vs.length)=splice c.toList (off+olds.length*te.size) vs:=by simp [splice]
        have hszc:(c.toList.take (off+olds.length*te.size)++vs++c.toList.drop (off+olds.length*te.size+vs.length)).toArray.size=c.size:=by
          rw [hsplice,size_toArray,J3 _ _ _ (by rw [hvl,Array.length_toList (xs:=c)];omega),Array.length_toList (xs:=c)]
        have hcl:∀ v∈es,v.cells.length=te.size:=fun v hv=>(C9.1 (e3 v hv)).1
        have hw1:((splice c.toList (off+olds.length*te.size) vs).drop off).take ((olds++news).length*te.size)=(c.toList.drop off).take (olds.length*te.size)++vs:=by
          have:=J4_ c.toList vs off (olds.length*te.size) (by rw [hvl,Array.length_toList (xs:=c)];omega)
          rw [hvl,<-Nat.add_mul] at this
          rw [length_append];exact this
        have hold:VRels ι (Own F ι σ.H) w (olds.flatMap V.cells) ((c.toList.drop off).take (olds.length*te.size)):=by
          have hv':=(hv.drop (i*te.size)).take (len*te.size)
          rw [M2 hcl,O5 (fun v hv=>hcl v (mem_of_mem_drop hv)),<-hol] at hv'
          have hmul2:(i+len)*te.size<=es.length*te.size:=Nat.mul_le_mul_right _ hil
          rw [Nat.add_mul] at hmul2
          have hlist:(((c.toList.drop l.o).take (es.length*te.size)).drop (i*te.size)).take (len*te.size)=(c.toList.drop off).take (olds.length*te.size):=by
            apply List.ext_getElem?
            intro q
            rw [holl]
            simp only [List.getElem?_take,List.getElem?_drop]
            by_cases hq:q<len*te.size
            . simp only [hq,if_true,show i*te.size+q<es.length*te.size by omega]
              congr 1;rw [hoff,e1];omega
            simp [hq]
          rw [hlist] at hv';exact hv'
        obtain ⟨R1,K1⟩:=hh.rep.move hmem hl hg hk0 ⟨l.b,off,te.size,l.size,false,false⟩ rfl (.rows te.size (olds++news)) (w':=w.setRow l.b (c.toList.take (off+olds.length*te.size)++vs++c.toList.drop (off+olds.length*te.size+vs.length)).toArray) rfl (Tp.same rfl rfl) rfl (by simp) hoth fun ι' O' S =>
          ⟨rfl,rfl,fun v hv=>(List.mem_append.1 hv).elim (hof v) (hnf v),.inr ⟨rfl,_,et,hcs,by rw [hszc,hc],by rw [hszc,length_append,Nat.add_mul];show off+_<=_;omega,by
            have heq:(((c.toList.take (off+olds.length*te.size)++vs++c.toList.drop (off+olds.length*te.size+vs.length)).drop off).take ((olds++news).length*te.size))=(c.toList.drop off).take (olds.length*te.size)++vs:=by rw [hsplice,hw1]
            show VRels ι' O' _ _ (((c.toList.take (off+olds.length*te.size)++vs++c.toList.drop (off+olds.length*te.size+vs.length)).drop off).take ((olds++news).length*te.size))
            rw [heq,flatMap_append]
            exact VRels.append (hold.stays S) (hvs.stays S)⟩⟩
        refine ⟨upd ι σ.k ⟨l.b,off,te.size,l.size,false,false⟩,.sl σ.k 0 (olds.length+news.length),_,_,_,_,hexec _ _ (by rw [hcv'];exact hr),hk,?_⟩
        rw [hH0]
        refine ⟨⟨K1,Nat.le_succ _,fun n hn=>F9 _ _ _ _ (fun e=>by subst e;have:=hn hfk;omega),?_⟩,R1,?_,.sl (l:=⟨l.b,off,te.size,l.size,false,false⟩) (B4 _ _ _) rfl rfl (by simp) hc0 hfit hcm (by show off+cap*te.size<=l.size;rw [<-e1];exact hsz')⟩
        . intro m hm
          simp only [map_cons,mem_cons] at hm
          rcases hm with hm|hm
          . subst hm;exact .inr ⟨hfk,by omega⟩
          exact .inl ((F4 n σ.H).mem hm)
        intro m hf hm
        rw [F9 _ _ _ _ (by omega)]
        exact hfr m hf hm
      exact fresh (some n) (some ⟨l.b,off,none⟩) cap us hcv' hH0 hof hul hus (by rw [holl] at hufc' ⊢;exact hufc') (by omega)
end
end Go.Sl
namespace Go.Sl
inductive EK where
 | int|bool|str
def X8 (sp:TypeId->Option (List EK)):Nat->List (TypeId × Nat × Nat)->Option (List EK)
 | _,[]=>some []
 | off,(ft,o,n)::r =>
  match sp ft,X8 sp (off+n) r with
  | some s,some s'=>if o=off/\s.length=n then some (s++s') else none
  | _,_=>none
def L7 (T:Tab):Nat->TypeId->Option (List EK)
 | 0,_=>none
 | d+1,t =>
  match T t with
  | some ti =>
   match ti.d with
   | .int _=>some [.int]
   | .bool=>some [.bool]
   | .string=>some [.str]
   | .struct fs=>X8 (L7 T d) 0 fs
   | .array n e =>
    match L7 T d e,T e with
    | some s,some te=>if s.length=te.size then some (List.replicate n s).flatten else none
    | _,_=>none
   | _=>none
  | none=>none
def E6:List EK->List Value->List Value->Option Bool
 | [],[],[]=>some true
 | .int::r,.int k a::xs,.int k' b::ys=>if k=k' then (E6 r xs ys).map ((a==b)&&·) else none
 | .bool::r,.bool a::xs,.bool b::ys=>(E6 r xs ys).map ((a==b)&&·)
 | .str::r,.string a::xs,.string b::ys=>(E6 r xs ys).map ((a.toList==b.toList)&&·)
 | _,_,_=>none
def E7:List EK->List V->List V->Option Bool
 | [],[],[]=>some true
 | .int::r,.val (.int k a)::xs,.val (.int k' b)::ys=>if k=k' then (E7 r xs ys).map ((a==b)&&·) else none
 | .bool::r,.val (.bool a)::xs,.val (.bool b)::ys=>(E7 r xs ys).map ((a==b)&&·)
 | .str::r,.val (.string a)::xs,.val (.string b)::ys=>(E7 r xs ys).map ((a.toList==b.toList)&&·)
 | _,_,_=>none
section
variable {fr:Nat->Prop} {F:Nat->Prop} {ι ι':E3} {O:Nat->Prop} {σ σ':St} {a a':Act} {w w':World} {P:Program} {T:Tab}
variable {sp:List EK}
theorem U0:∀ {cs ds:List V} {vs us:List Value} {b:Bool},E7 sp cs ds=some b->VRels ι O w cs vs->VRels ι O w ds us->E6 sp vs us=some b:=by
 induction sp with
 | nil =>
  intro cs ds vs us b h h1 h2
  cases cs<;>cases ds<;>simp only [E7] at h<;>first|(cases h;done)|skip
  cases h1;cases h2;simpa [E6] using h
 | cons e sp ih =>
  intro cs ds vs us b h h1 h2
  cases cs with
  | nil=>cases e<;>simp [E7] at h
  | cons c cs =>
   cases ds with
   | nil=>cases e<;>simp [E7] at h
   | cons d ds =>
    cases h1 with
    | cons h1 h1s =>
    cases h2 with
    | cons h2 h2s =>
    unfold E7 at h
    split at h
    .rename_i e1 _ _;cases e1
    .rename_i e1 e2 e3
     cases e1;cases e2;cases e3
     split at h
     .rename_i hk
      obtain ⟨b',hb',rfl⟩:=Option.map_eq_some_iff.1 h
      rw [h1.inv_val,h2.inv_val]
      simp [E6,hk,ih hb' h1s h2s]
     cases h
    .rename_i e1 e2 e3
     cases e1;cases e2;cases e3
     obtain ⟨b',hb',rfl⟩:=Option.map_eq_some_iff.1 h
     rw [h1.inv_val,h2.inv_val]
     simp [E6,ih hb' h1s h2s]
    .rename_i e1 e2 e3
     cases e1;cases e2;cases e3
     obtain ⟨b',hb',rfl⟩:=Option.map_eq_some_iff.1 h
     rw [h1.inv_val,h2.inv_val]
     simp [E6,ih hb' h1s h2s]
    cases h
theorem T5:∀ {xs ys:List Value} {b:Bool},E6 sp xs ys=some b->xs.length=sp.length/\ys.length=sp.length:=by
 induction sp with
 | nil=>intro xs ys b h;cases xs<;>cases ys<;>simp_all [E6]
 | cons e sp ih =>
  intro xs ys b h
  unfold E6 at h
  split at h
  .simp at *
  .rename_i e1
   cases e1
   split at h
   .obtain ⟨b',hb',_⟩:=Option.map_eq_some_iff.1 h
    have:=ih hb';simp [this.1,this.2]
   cases h
  .rename_i e1
   cases e1
   obtain ⟨b',hb',_⟩:=Option.map_eq_some_iff.1 h
   have:=ih hb';simp [this.1,this.2]
  .rename_i e1
   cases e1
   obtain ⟨b',hb',_⟩:=Option.map_eq_some_iff.1 h
   have:=ih hb';simp [this.1,this.2]
  cases h
theorem W8 {s r:List EK} : ∀ {xs ys : List Value} {b : Bool}, E6 (s ++ r) xs ys = some b →
    ∃ b1 b2,E6 s (xs.take s.length) (ys.take s.length)=some b1/\E6 r (xs.drop s.length) (ys.drop s.length)=some b2/\b=(b1&&b2):=by
  induction s with
  | nil=>intro xs ys b h;exact ⟨true,b,by simp [E6],by simpa using h,by simp⟩
  | cons e s ih =>
    intro xs ys b h
    rw [cons_append] at h
    unfold E6 at h
    split at h
    . simp at *
    . rename_i e1
      cases e1
      split at h
      . obtain ⟨b',hb',rfl⟩:=Option.map_eq_some_iff.1 h
        rename_i hk
        obtain ⟨b1,b2,h1,h2,rfl⟩:=ih hb'
        exact ⟨_,b2,by simp only [length_cons,take_succ_cons,E6,h1,if_pos hk,Option.map_some];rfl,by simpa using h2,by simp [Bool.and_assoc]⟩
      cases h
    . rename_i e1
      cases e1
      obtain ⟨b',hb',rfl⟩:=Option.map_eq_some_iff.1 h
      obtain ⟨b1,b2,h1,h2,rfl⟩:=ih hb'
      exact ⟨_,b2,by simp only [length_cons,take_succ_cons,E6,h1,Option.map_some];rfl,by simpa using h2,by simp [Bool.and_assoc]⟩
    . rename_i e1
      cases e1
      obtain ⟨b',hb',rfl⟩:=Option.map_eq_some_iff.1 h
      obtain ⟨b1,b2,h1,h2,rfl⟩:=ih hb'
      exact ⟨_,b2,by simp only [length_cons,take_succ_cons,E6,h1,Option.map_some];rfl,by simpa using h2,by simp [Bool.and_assoc]⟩
    cases h
def i3 (agg:Bool) (vs:List Value):Value:=if agg then .agg vs.toArray else vs.headD undef
theorem Y6 {t:TypeId} {ti:TI} (hti : C8 P t = some ti) {xs : List Value} {off : Nat} (hin : off + ti.size ≤ xs.length) (h0 : ti.agg = true ∨ ti.size = 1) (w : World) :
    (part t xs.toArray off).run P w=.ok (i3 ti.agg ((xs.drop off).take ti.size)) w:=by
  unfold part i3
  by_cases hg:ti.agg=true
  . simp [Y5 hti,B9 hti,hg,extract_eq_take_drop]
  have h1:ti.size=1:=h0.resolve_left hg
  have hlt:off<xs.length:=by omega
  have hd:(xs.drop off).take ti.size=[xs[off]]:=by
    rw [h1,drop_eq_getElem_cons hlt];rfl
  rw [hd]
  simp [Y5 hti,hg,hlt]
def zUh (P:Program) (T:Tab) (D:Nat) (t:TypeId) (sp:List EK):Prop :=
 ∀ ti,T t=some ti->(ti.agg=true\/sp.length=1)/\∀ w xs ys b,E6 sp xs ys=some b->(Op.equalIn D t (i3 ti.agg xs) (i3 ti.agg ys)).run P w=.ok b w
theorem Y7 (hT : J9 P T) {sp : TypeId → Option (List EK)} {D : Nat} (hsp : ∀ t s, sp t = some s → (∃ ti, T t = some ti) ∧ zUh P T D t s) (w : World) {xs ys : List Value} :
    ∀ (gs:List Field) (off:Nat) (s:List EK),X8 sp off (gs.map fun f=>(f.type,f.offset,P.cellsOf f.type))=some s->(∀ g∈gs,g.name≠ "_")->∀ b,E6 s (xs.drop off) (ys.drop off)=some b->off<=xs.length->off<=ys.length →
      (Op.eqFields D xs.toArray ys.toArray gs).run P w=.ok b w
  | [],off,s,h,_,b,hb,_,_=>by
    simp only [map_nil,X8] at h
    cases h
    unfold E6 at hb
    split at hb<;>simp_all [Op.eqFields]
  | g::gs,off,s,h,hn,b,hb,hx,hy=>by
    simp only [map_cons,X8] at h
    split at h
    . rename_i s1 s2 h1 h2
      split at h
      . rename_i hc
        obtain ⟨ho,hl⟩:=hc
        cases h
        obtain ⟨b1,b2,e1,e2,rfl⟩:=W8 hb
        obtain ⟨⟨ti,ht⟩,hat⟩:=hsp _ _ h1
        obtain ⟨h3,h4⟩:=hat ti ht
        have hti:=hT _ _ ht
        have hsz:P.cellsOf g.type=ti.size:=by
          obtain ⟨d,i,z,hd,hi,hz,hs,ha,h1,h2,_⟩:=D3 hti
          simp [Program.cellsOf,hi,h2]
        have hlen:=T5 hb
        simp only [length_drop,length_append] at hlen
        have p1:=Y6 hti (xs:=xs) (off:=off) (by omega) (h3.imp id fun h=>by omega) w
        have p2:=Y6 hti (xs:=ys) (off:=off) (by omega) (h3.imp id fun h=>by omega) w
        have p3:=h4 w _ _ b1 e1
        have hnm:=hn g (by simp)
        rw [show s1.length=ti.size by omega] at p3
        simp only [Op.eqFields,ne_eq,hnm,not_false_eq_true,if_true,Sem.run_bind,ho,p1,p2,Result.andThen_ok,p3]
        cases b1
        . simp
        simp only [Bool.not_true,Bool.false_eq_true,if_false,Bool.true_and]
        refine Y7 hT hsp w gs _ s2 h2 (fun g' hg'=>hn g' (by simp [hg'])) b2 ?_ (by omega) (by omega)
        rw [<-hl,<-drop_drop,<-drop_drop];exact e2
      cases h
    cases h
theorem l9 (hT : J9 P T) {e : TypeId} {te : TI} (he : T e = some te) {s : List EK} {D : Nat} (hat : zUh P T D e s) (hl : s.length = te.size) (w : World) {xs ys : List Value} :
    ∀ (n j:Nat) (b:Bool),E6 (List.replicate n s).flatten (xs.drop (j*te.size)) (ys.drop (j*te.size))=some b->j*te.size<=xs.length->j*te.size<=ys.length →
      (Op.eqItems D e te.size xs.toArray ys.toArray (List.range' j n)).run P w=.ok b w
  | 0,j,b,hb,_,_=>by
    simp only [replicate_zero,flatten_nil] at hb
    unfold E6 at hb
    split at hb<;>simp_all [Op.eqItems]
  | n+1,j,b,hb,hx,hy=>by
    rw [replicate_succ,flatten_cons] at hb
    obtain ⟨b1,b2,e1,e2,rfl⟩:=W8 hb
    obtain ⟨h3,h4⟩:=hat te he
    have hti:=hT _ _ he
    have hlen:=T5 hb
    simp only [length_drop,length_append] at hlen
    have p1:=Y6 hti (xs:=xs) (off:=j*te.size) (by omega) (h3.imp id fun h=>by omega) w
    have p2:=Y6 hti (xs:=ys) (off:=j*te.size) (by omega) (h3.imp id fun h=>by omega) w
    have p3:=h4 w _ _ b1 e1
    rw [hl] at p3
    simp only [List.range'_succ,Op.eqItems,Sem.run_bind,p1,p2,Result.andThen_ok,p3]
    have hs:(j+1)*te.size=j*te.size+te.size:=by rw [Nat.add_mul];simp
    cases b1
    . simp
    simp only [Bool.not_true,Bool.false_eq_true,if_false,Bool.true_and]
    refine l9 hT he hat hl w n (j+1) b2 ?_ (by omega) (by omega)
    rw [hs,<-hl,<-drop_drop,<-drop_drop];rw [hl];rw [hl] at e2;exact e2
theorem L0 (hT:J9 P T):∀ (d:Nat) (t:TypeId) (sp:List EK),L7 T d t=some sp->∀ D,d<=D->(∃ ti,T t=some ti)/\zUh P T D t sp
  | 0,t,sp,h,_,_=>by simp [L7] at h
  | d+1,t,sp,h,D,hD=>by
    obtain ⟨D,rfl⟩:∃ E,D=E+1:=⟨D-1,by omega⟩
    unfold L7 at h
    split at h
    . rename_i ti ht
      refine ⟨⟨ti,ht⟩,fun ti' ht'=>?_⟩
      rw [ht] at ht';cases ht'
      have hti:=hT _ _ ht
      obtain ⟨u,i,z,hu,hi,hz,hs,ha,h1,h2,h3,h4,h5⟩:=D3 hti
      have leaf : ∀ (k : EK), ti.agg = false → sp = [k] → (∀ w (x y : Value) b, E6 [k] [x] [y] = some b → (Op.equalIn (D + 1) t x y).run P w = .ok b w) →
          (ti.agg=true\/sp.length=1)/\∀ w xs ys b,E6 sp xs ys=some b->(Op.equalIn (D+1) t (i3 ti.agg xs) (i3 ti.agg ys)).run P w=.ok b w:=by
        intro k hg hk hr
        subst hk
        refine ⟨.inr rfl,fun w xs ys b hb=>?_⟩
        have hl:=T5 hb
        match xs,ys,hl with
        | [x],[y],_=>simpa [i3,hg] using hr w x y b hb
      split at h
      . rename_i kd hd
        cases h
        have hu':∃ k',P.underlying t=some (.int k'):=by rw [hu];cases u<;>simp_all [Go.Sl.D.of]
        obtain ⟨k',hu'⟩:=hu'
        refine leaf .int (by simp [TI.agg,hd]) rfl fun w x y b hb=>?_
        unfold E6 at hb
        split at hb
        . simp at *
        . rename_i e1 e2 e3
          cases e1;cases e2;cases e3
          split at hb
          . rename_i hk;subst hk
            simp only [E6,Option.map_some,Bool.and_true,Option.some.injEq] at hb
            subst hb
            exact run_equalIn_int w D t _ k' _ _ hu'
          cases hb
        . rename_i e1 _ _;cases e1
        . rename_i e1 _ _;cases e1
        cases hb
      . rename_i hd
        cases h
        have hu':P.underlying t=some .bool:=by rw [hu];cases u<;>simp_all [Go.Sl.D.of]
        refine leaf .bool (by simp [TI.agg,hd]) rfl fun w x y b hb=>?_
        unfold E6 at hb
        split at hb
        . simp at *
        . rename_i e1 _ _;cases e1
        . rename_i e1 e2 e3
          cases e1;cases e2;cases e3
          simp only [E6,Option.map_some,Bool.and_true,Option.some.injEq] at hb
          subst hb
          exact run_equalIn_bool' w D t _ _ hu'
        . rename_i e1 _ _;cases e1
        cases hb
      . rename_i hd
        cases h
        have hu':P.underlying t=some .string:=by rw [hu];cases u<;>simp_all [Go.Sl.D.of]
        refine leaf .str (by simp [TI.agg,hd]) rfl fun w x y b hb=>?_
        unfold E6 at hb
        split at hb
        . simp at *
        . rename_i e1 _ _;cases e1
        . rename_i e1 _ _;cases e1
        . rename_i e1 e2 e3
          cases e1;cases e2;cases e3
          simp only [E6,Option.map_some,Bool.and_true,Option.some.injEq] at hb
          subst hb
          exact run_equalIn_string w D t _ _ hu'
        cases hb
      . rename_i fs hd
        have hg:ti.agg=true:=by simp [TI.agg,hd]
        refine ⟨.inl hg,fun w xs ys b hb=>?_⟩
        obtain ⟨gs,hgs⟩:∃ gs,u=.struct gs:=by cases u<;>simp_all [Go.Sl.D.of]
        subst hgs
        have hpl:=W8_ hti hu
        simp only [zCa,Bool.and_eq_true,Bool.not_eq_true',all_eq_true,bne_iff_ne,ne_eq] at hpl
        have hfo:P.fieldsOf t=gs:=by simp [Program.fieldsOf,hu]
        simp only [i3,hg,if_true]
        rw [run_equalIn_struct w D t _ _ (by rw [hfo];exact hu) hpl.1,hfo]
        have hfs:fs=gs.toList.map fun f=>(f.type,f.offset,P.cellsOf f.type):=by
          rw [hd] at h1;simp only [Go.Sl.D.of,Go.Sl.D.struct.injEq] at h1;exact h1
        rw [hfs] at h
        exact Y7 hT (sp:=L7 T d) (fun t' s' hs'=>L0 hT d t' s' hs' D (by omega)) w gs.toList 0 sp h hpl.2 b (by simpa using hb) (by simp) (by simp)
      . rename_i n e hd
        have hg:ti.agg=true:=by simp [TI.agg,hd]
        refine ⟨.inl hg,fun w xs ys b hb=>?_⟩
        split at h
        . rename_i s te hs' hte
          split at h
          . rename_i hl
            cases h
            have hu':P.underlying t=some (.array n e):=by rw [hu];cases u<;>simp_all [Go.Sl.D.of]
            obtain ⟨_,i',_,_,hi',_,_,_,_,hsz,_⟩:=D3 (hT _ _ hte)
            simp only [i3,hg,if_true]
            rw [run_equalIn_array w D _ _ hu' hi']
            have hc:P.cellsOf e=te.size:=by simp [Program.cellsOf,hi',hsz]
            rw [hc,range_eq_range']
            exact l9 hT hte (L0 hT d e s hs' D (by omega)).2 hl w n 0 b (by simpa using hb) (by simp) (by simp)
          cases h
        cases h
      cases h
    cases h
theorem o4 (hT:J9 P T):∀ (d:Nat) (t:TypeId) (sp:List EK),L7 T d t=some sp->∀ D,d<=D->P.eqGuardType D t=false
 | 0,t,sp,h,_,_=>by simp [L7] at h
 | d+1,t,sp,h,D,hD=>by
  obtain ⟨D,rfl⟩:∃ E,D=E+1:=⟨D-1,by omega⟩
  unfold L7 at h
  split at h
  .rename_i ti ht
   have hti:=hT _ _ ht
   obtain ⟨u,i,z,hu,hi,hz,hs,ha,h1,h2,h3,h4,h5⟩:=D3 hti
   unfold Program.eqGuardType
   split at h<;>rename_i hd
   .have hu':∃ k',P.underlying t=some (.int k'):=by rw [hu];cases u<;>simp_all [Go.Sl.D.of]
    obtain ⟨k',hu'⟩:=hu'
    simp [hu']
   .have hu':P.underlying t=some .bool:=by rw [hu];cases u<;>simp_all [Go.Sl.D.of]
    simp [hu']
   .have hu':P.underlying t=some .string:=by rw [hu];cases u<;>simp_all [Go.Sl.D.of]
    simp [hu']
   .rename_i fs
    obtain ⟨gs,hgs⟩:∃ gs,u=.struct gs:=by cases u<;>simp_all [Go.Sl.D.of]
    subst hgs
    have hfs:fs=gs.toList.map fun f=>(f.type,f.offset,P.cellsOf f.type):=by
     rw [hd] at h1;simp only [Go.Sl.D.of,Go.Sl.D.struct.injEq] at h1;exact h1
    rw [hfs] at h
    have key:∀ (l:List Field) (off:Nat) (s:List EK),X8 (L7 T d) off (l.map fun f=>(f.type,f.offset,P.cellsOf f.type))=some s->∀ g∈l,P.eqGuardType D g.type=false:=by
     intro l
     induction l with
     | nil=>intro off s _ g hg;simp at hg
     | cons x l ih =>
      intro off s hs g hg
      simp only [map_cons,X8] at hs
      split at hs
      .rename_i s1 s2 e1 e2
       rcases List.mem_cons.1 hg with rfl|hg
       .exact o4 hT d _ s1 e1 D (by omega)
       exact ih _ _ e2 g hg
      cases hs
    simp only [hu]
    rw [Array.any_eq_false']
    intro g hg
    simp [key gs.toList 0 sp h g (by simpa using hg)]
   .rename_i n e
    split at h
    .rename_i s te hs' hte
     have hu':P.underlying t=some (.array n e):=by rw [hu];cases u<;>simp_all [Go.Sl.D.of]
     simp only [hu']
     exact o4 hT d e s hs' D (by omega)
    cases h
   cases h
  cases h
theorem zSf (hT : J9 P T) {o : Oper} {K : V → A8 → Nat → Prop} (op : BinOp) (t u : TypeId) (x y : Operand) (ho : o.op = .binOp op t x y u) {ti : TI} (ht : T t = some ti) (hg : ti.agg = true) {sp : List EK} (hsp : L7 T 16 t = some sp) {cs ds : List V} (hx : A7 σ.t x = .agg cs) (hy : A7 σ.t y = .agg ds) {b : Bool} (hb : E7 sp cs ds = some b)
    (h:op=.eql/\K (.val (.bool b)) σ.H σ.k\/op=.neq/\K (.val (.bool !b)) σ.H σ.k):OpT fr P o σ K:=by
  have hdep:16<=P.depth:=by unfold Program.depth Made.depth;omega
  have hm:=o4 hT 16 t sp hsp P.depth hdep
  have hq:=(L0 hT 16 t sp hsp 10000 (by omega)).2 ti ht
  rcases h with ⟨rfl,hk⟩|⟨rfl,hk⟩ <;>
  . refine C5 hk fun F ι a w hh=>?_
    have he:=hh.eval x
    have hi:=hh.eval y
    rw [hx] at he;rw [hy] at hi
    refine ⟨_,?_,.val _ rfl⟩
    generalize hva:a.eval x=va at he
    generalize hvb:a.eval y=vb at hi
    cases he with
    | agg h1 =>
    cases hi with
    | agg h2 =>
    rename_i vs us
    have hr:=hq.2 w _ _ b (U0 hb h1 h2)
    simp only [i3,hg,if_true] at hr
    unfold execOp;rw [ho]
    first
      | simp only [hva,hvb,Sem.run_bind,run_eqGuard_agg w _ t x y _ _ hm,Result.andThen_ok,run_eql_struct,hr,Sem.run_pure];done
      | (simp only [hva,hvb,Sem.run_bind,run_eqGuard_agg w _ t x y _ _ hm,Result.andThen_ok,run_eql_struct,hr,Sem.run_pure];rfl)
      | simp only [hva,hvb,Sem.run_bind,run_eqGuard_agg w _ t x y _ _ hm,Result.andThen_ok,run_neq_struct,hr,Sem.run_pure];done
      | (simp only [hva,hvb,Sem.run_bind,run_eqGuard_agg w _ t x y _ _ hm,Result.andThen_ok,run_neq_struct,hr,Sem.run_pure];rfl)
end
end Go.Sl
namespace Go.Sl
def V.isAddr:V->Bool
 | .ptr ..|.rp ..=>true
 | _=>false
section
variable {fr:Nat->Prop} {F:Nat->Prop} {ι ι':E3} {O:Nat->Prop} {σ σ':St} {a a':Act} {w w':World} {P:Program} {T:Tab}
variable {o:Oper}
theorem VRel.addr {v:V} {x:Value} (h:VRel ι O w v x) (hv:v.isAddr=true):∃ ad,x=.pointer (some ad):=by
 cases h<;>simp_all [V.isAddr]
theorem J5_ {K:V->A8->Nat->Prop} (x:Operand) (ho:o.op=.nilCheck x) (hx:(A7 σ.t x).isAddr=true) (hk:K (A7 σ.t x) σ.H σ.k):OpT fr P o σ K :=
 C5 hk fun F ι a w hh=>by
  have he:=hh.eval x
  obtain ⟨ad,e⟩:=he.addr hx
  refine ⟨a.eval x,?_,he⟩
  unfold execOp;rw [ho]
  simp [e]
theorem ZT_ {K:V → A8 → Nat → Prop} (op : BinOp) (t u : TypeId) (x y : Operand) (ho : o.op = .binOp op t x y u) {ti : TI} (hti : C8 P t = some ti) {e : TypeId} (hd : ti.d = .pointer e) (hx : (A7 σ.t x).isAddr = true) (hy : A7 σ.t y = .val (.pointer none))
    (h:op=.eql/\K (.val (.bool false)) σ.H σ.k\/op=.neq/\K (.val (.bool true)) σ.H σ.k):OpT fr P o σ K:=by
  obtain ⟨u',i,z,hu,_,_,_,_,h1,_⟩:=D3 hti
  have hu':∃ e',P.underlying t=some (.pointer e'):=by rw [hu];cases u'<;>simp_all [Go.Sl.D.of]
  obtain ⟨e',hu'⟩:=hu'
  have hp:P.underlying t=some (.pointer (P.pointee t)):=by simp [Program.pointee,hu']
  rcases h with ⟨rfl,hk⟩|⟨rfl,hk⟩ <;>
  . refine C5 hk fun F ι a w hh=>?_
    have he:=hh.eval x
    have hi:=hh.eval y
    rw [hy] at hi
    have hi:=hi.inv_val
    obtain ⟨ad,e⟩:=he.addr hx
    refine ⟨_,?_,.val _ rfl⟩
    unfold execOp;rw [ho]
    have g:∀ op:BinOp,(eqGuard op t x y (.pointer (some ad)) (.pointer none)).run P w=.ok () w:=fun op=>by cases op<;>simp [eqGuard]
    first
      | (simp only [e,hi,Sem.run_bind,g,Result.andThen_ok,Go.run_eql_pointer_nil w t (some ad) hp,Sem.run_pure];rfl)
      | (simp only [e,hi,Sem.run_bind,g,Result.andThen_ok,Go.run_neq_pointer_nil w t (some ad) hp,Sem.run_pure];rfl)
theorem Wx_ {t:TypeId} {te:TI} (hte : C8 P t = some te) {z : Value} (hz : z.cells.toList = te.zero) (hs : z.cells.size = te.size) (m : Nat) :
    VRels ι O w ((List.replicate m te.zeroV).flatMap V.cells) (madeCells z.cells (m*te.size)).toList:=by
  have hlen:((List.replicate m te.zeroV).flatMap V.cells).length=m*te.size:=by
    rw [G6 (sz:=te.size)]
    . simp
    intro v hv
    rw [eq_of_mem_replicate hv]
    exact (C9.1 (u2 hte)).1
  refine VRels.of_get (by rw [hlen,Array.length_toList,size_madeCells]) fun i v x hv hx=>?_
  have hi:i<m*te.size:=by rw [<-hlen];exact (List.getElem?_eq_some_iff.1 hv).1
  have hpos:0<te.size:=by
    rcases Nat.eq_zero_or_pos te.size with h0|h0
    . rw [h0] at hi;omega
    exact h0
  have hmod:i % te.size<te.size:=Nat.mod_lt _ hpos
  have hx':x=z.cells[i % te.size]!:=by
    rw [Array.getElem?_toList] at hx
    unfold madeCells at hx
    rw [Array.getElem?_map,Array.getElem?_range,hs] at hx
    simp only [hi,if_true,Option.map_some,Option.some.injEq] at hx
    exact hx.symm
  have hzi:te.zero[i % te.size]?=some (z.cells[i % te.size]!):=by
    rw [<-hz,Array.getElem?_toList,Array.getElem?_eq_getElem (by omega),getElem!_pos z.cells (i % te.size) (by omega)]
  have hvi:v=.val (z.cells[i % te.size]!):=by
    have key:∀ (m i:Nat),i<m*te.size->((List.replicate m te.zeroV).flatMap V.cells)[i]?=some (.val (z.cells[i % te.size]!))\/¬ te.zero[i % te.size]?=some (z.cells[i % te.size]!):=by
      intro m
      induction m with
      | zero=>intro i hi;omega
      | succ m ih =>
        intro i hi
        rw [replicate_succ,flatMap_cons]
        have hc:te.zeroV.cells.length=te.size:=(C9.1 (u2 hte)).1
        by_cases h:i<te.size
        . rw [List.getElem?_append_left (by omega),Q2 hte,List.getElem?_map,Nat.mod_eq_of_lt h]
          by_cases hq:te.zero[i]?=some (z.cells[i]!)
          . exact .inl (by rw [hq];rfl)
          exact .inr hq
        rw [List.getElem?_append_right (by omega),hc]
        have h1:=ih (i-te.size) (by rw [Nat.succ_mul] at hi;omega)
        have h2:(i-te.size) % te.size=i % te.size:=by
          conv=>rhs;rw [show i=(i-te.size)+te.size by omega,Nat.add_mod_right]
        rw [h2] at h1
        exact h1
    rcases key m i hi with h|h
    . rw [h] at hv;exact (Option.some.inj hv).symm
    exact absurd hzi h
  rw [hvi,hx']
  exact .val _ ((H3 hte).1 _ (List.mem_of_getElem? hzi))
theorem QO_ (hfr : fr σ.k) {o : Oper} {K : V → A8 → Nat → Prop} (t : TypeId) (x y : Operand) (ho : o.op = .makeSlice t x y) {ti te : TI} (hti : C8 P t = some ti) {e : TypeId} (hd : ti.d = .slice e) (hte : C8 P e = some te) {kl kc : IntKind} {l c : Int}
    (hx:A7 σ.t x=.val (.int kl l)) (hy:A7 σ.t y=.val (.int kc c)) (h0:0<=l) (hlc:l=c) (hbytes:(te.bytes:Int)*c<=281474976710656) (h63:c<=9223372036854775807)
    (hk:K (.sl σ.k 0 c.toNat) ((σ.k,.rows te.size (List.replicate c.toNat te.zeroV))::σ.H) (σ.k+1)):OpT fr P o σ K :=
  S6 fun F ι a w hh=>by
    obtain ⟨u',i',z',hu,_,_,_,_,h1,_⟩:=D3 hti
    have hu':P.underlying t=some (.slice e):=by rw [hu];cases u'<;>simp_all [Go.Sl.D.of]
    obtain ⟨_,i,z,_,hi,hz,hzs,_,_,hsz,hby,hzl,_⟩:=D3 hte
    have he1:=hh.eval x
    have he2:=hh.eval y
    rw [hx] at he1;rw [hy] at he2
    have hzs':z.cells.size=te.size:=by rw [hzs,hsz]
    have hfit:∀ v∈List.replicate c.toNat te.zeroV,v.fits te.size=true:=fun v hv=>by rw [eq_of_mem_replicate hv];exact u2 hte
    have hcells:=Wx_ (ι:=ι) (O:=Own F ι σ.H) (w:=w) hte hzl.symm hzs' c.toNat
    refine ⟨_,_,.slice (some ⟨w.heap.size,0,none⟩) c.toNat c.toNat,_,_,_,?_,hk,u3 hfr hh e te.size (List.replicate c.toNat te.zeroV) hfit (madeCells z.cells (c.toNat*te.size)) (by rw [size_madeCells,length_replicate];exact Nat.le_refl _) ?_ w rfl rfl (Tp.refl _) rfl ?_⟩
    . unfold execOp;rw [ho]
      have hr:=run_make (P:=P) w t e i z hu' hi hz kl kc l c h0 (by omega) (by rw [<-hby];exact hbytes) h63
      rw [<-hsz] at hr
      subst hlc
      have e1:=he1.inv_val
      have e2:=he2.inv_val
      simp only [e1,e2,Sem.run_bind,hr,Result.andThen_ok,Sem.run_pure]
    . rw [length_replicate,take_of_length_le (by rw [Array.length_toList,size_madeCells];exact Nat.le_refl _)]
      exact hcells
    intro ι' hι
    rcases Nat.eq_zero_or_pos c.toNat with hc|hc
    . rw [hc];exact .sl0 hι
    refine .sl hι rfl rfl (by simp) hc (Nat.le_refl _) (by unfold maxLen;omega) ?_
    simp only [size_madeCells];omega
end
end Go.Sl
