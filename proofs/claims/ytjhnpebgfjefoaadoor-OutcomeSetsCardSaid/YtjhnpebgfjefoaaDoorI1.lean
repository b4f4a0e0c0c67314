/- Texts put together, in order: Sl1, Sl2, Sl3, Sl4, Sl5, Sl6, Sl7, Sl8, Sl9, Sl9a, Sl9b. -/
import Derived.Tactics
import Derived.Laws.AppendOwn
import Derived.Laws.Rows
import Derived.Laws.Tables
import Derived.Laws.Cells
import Derived.Laws.Small
import Derived.Laws.StructEq
import Derived.Great.FillDense
import Derived.ChangeKeysEq
import Derived.Laws.MakeOwn
import Derived.Laws.Pointers
set_option linter.unusedVariables false
set_option linter.unusedSimpArgs false
namespace Go.Sl
inductive V where
 | any
 | val (v : Value)
 | agg (cs : List V)
 | tup (vs : List V)
 | ptr (n i j : Nat)
 | sl (n i len : Nat)
 | sub (n i j z len : Nat)
 | ro (sz : Nat) (es : List V)
 | rp (cs : List V) (j : Nat)
 | map (n : Nat)
 | fn (f : Fn) (fs cs : List V)
 deriving Inhabited
def V.cells : V → List V
 | .agg cs => cs
 | v => [v]
def V.isAny : V → Bool
 | .any => true
 | _ => false
def V.one : V → Bool
 | .any | .agg _ | .tup _ => false
 | _ => true
def V.fits (sz : Nat) (v : V) : Bool := v.cells.length == sz && v.cells.all V.one
structure Loc where
 b : Nat
 o : Nat
 sz : Nat
 size : Nat
 ghost : Bool
 map : Bool
 deriving Inhabited
abbrev Names := Nat → Option Loc
mutual
inductive VRel (ι : Names) (O : Nat → Prop) (w : World) : V → Value → Prop
  | any (v : Value) : VRel ι O w .any v
  | val (v : Value) (h : v.oneCell' = true) : VRel ι O w (.val v) v
  | agg {cs : List V} {vs : List Value} (h : VRels ι O w cs vs) : VRel ι O w (.agg cs) (.agg vs.toArray)
  | tup {cs : List V} {vs : List Value} (h : VRels ι O w cs vs) : VRel ι O w (.tup cs) (.tuple vs.toArray)
  | ptr {n i j off : Nat} {l : Loc} (h : ι n = some l) (hg : l.ghost = false) (hm : l.map = false) (ho : off = l.o + i * l.sz + j) : VRel ι O w (.ptr n i j) (.pointer (some ⟨l.b, off, none⟩))
  | sl {n i len off cap : Nat} {l : Loc} (h : ι n = some l) (hg : l.ghost = false) (hm : l.map = false) (ho : off = l.o + i * l.sz) (h0 : 0 < cap) (hl : len ≤ cap) (hc : cap ≤ maxLen)
      (hs : off + cap * l.sz ≤ l.size) : VRel ι O w (.sl n i len) (.slice (some ⟨l.b, off, none⟩) len cap)
  | sl0 {n i : Nat} {l : Loc} {a : Option Addr} (h : ι n = some l) : VRel ι O w (.sl n i 0) (.slice a 0 0)
  | sub {n i j z len off cap : Nat} {l : Loc} (h : ι n = some l) (hg : l.ghost = false) (hm : l.map = false) (ho : off = l.o + i * l.sz + j) (hl : len ≤ cap) (hc : cap ≤ maxLen)
      (hs : off + cap * z ≤ l.size) : VRel ι O w (.sub n i j z len) (.slice (some ⟨l.b, off, none⟩) len cap)
  | ro0 {sz cap : Nat} {a : Option Addr} : VRel ι O w (.ro sz []) (.slice a 0 cap)
  | ro {sz b off len cap : Nat} {es : List V} {c : Array Value} {e : TypeId} {fr : Nat × Nat} {vs : List Value} (hb : b < w.heap.size) (hO : ¬ O b) (hw : w.heap[b]? = some (.cells c e fr))
      (hsz : ∀ v ∈ es, v.fits sz = true) (hlen : len = es.length) (hlc : len ≤ cap) (hin : off + es.length * sz ≤ c.size) (hvs : vs = (c.toList.drop off).take (es.length * sz)) (h : VRels ι O w (es.flatMap V.cells) vs) :
      VRel ι O w (.ro sz es) (.slice (some ⟨b, off, none⟩) len cap)
  | rp {b off off' j : Nat} {cs : List V} {c : Array Value} {e : TypeId} {fr : Nat × Nat} {vs : List Value} (hb : b < w.heap.size) (hO : ¬ O b) (hw : w.heap[b]? = some (.cells c e fr))
      (hsz : cs.all V.one = true) (hin : off + cs.length ≤ c.size) (hvs : vs = (c.toList.drop off).take cs.length) (h : VRels ι O w cs vs) (ho : off' = off + j) : VRel ι O w (.rp cs j) (.pointer (some ⟨b, off', none⟩))
  | map {n : Nat} {l : Loc} (h : ι n = some l) (hg : l.ghost = false) (hm : l.map = true) : VRel ι O w (.map n) (.map (some l.b))
  | fn {f : Fn} {fs cs : List V} {fs' cs' : List Value} (h1 : VRels ι O w fs fs') (h2 : VRels ι O w cs cs') : VRel ι O w (.fn f fs cs) (.func f fs'.toArray cs'.toArray)
inductive VRels (ι : Names) (O : Nat → Prop) (w : World) : List V → List Value → Prop
  | nil : VRels ι O w [] []
  | cons {v : V} {x : Value} {vs : List V} {xs : List Value} (h : VRel ι O w v x) (hs : VRels ι O w vs xs) : VRels ι O w (v :: vs) (x :: xs)
end
section
variable {ι ι' : Names} {O O' : Nat → Prop} {w w' : World}
theorem VRels.length {vs : List V} {xs : List Value} (h : VRels ι O w vs xs) : vs.length = xs.length := by
 induction vs generalizing xs with
 | nil => cases h; rfl
 | cons v vs ih => cases h with | cons h hs => simp [ih hs]
theorem VRels.get {vs : List V} {xs : List Value} (h : VRels ι O w vs xs) : ∀ (i : Nat) (v : V), vs[i]? = some v → ∃ x, xs[i]? = some x ∧ VRel ι O w v x := by
 induction vs generalizing xs with
 | nil => intro i v hv; simp at hv
 | cons u vs ih =>
  cases h with
  | cons h hs =>
   rename_i x xs
   intro i v hv
   cases i with
   | zero => simp at hv; subst hv; exact ⟨x, rfl, h⟩
   | succ i => simpa using ih hs i v (by simpa using hv)
theorem VRels.of_get {vs : List V} {xs : List Value} (hl : vs.length = xs.length) (h : ∀ (i : Nat) (v : V) (x : Value), vs[i]? = some v → xs[i]? = some x → VRel ι O w v x) : VRels ι O w vs xs := by
 induction vs generalizing xs with
 | nil => cases xs with | nil => exact .nil | cons => simp at hl
 | cons v vs ih =>
  cases xs with
  | nil => simp at hl
  | cons x xs =>
   refine .cons (h 0 v x rfl rfl) (ih (by simpa using hl) fun i v x hv hx => h (i + 1) v x (by simpa using hv) (by simpa using hx))
theorem VRels.append {vs us : List V} {xs ys : List Value} (h : VRels ι O w vs xs) (h' : VRels ι O w us ys) : VRels ι O w (vs ++ us) (xs ++ ys) := by
 induction vs generalizing xs with
 | nil => cases h; exact h'
 | cons v vs ih => cases h with | cons h hs => exact .cons h (ih hs)
theorem VRels.take {vs : List V} {xs : List Value} (h : VRels ι O w vs xs) (n : Nat) : VRels ι O w (vs.take n) (xs.take n) := by
 induction vs generalizing xs n with
 | nil => cases h; simpa using VRels.nil
 | cons v vs ih =>
  cases h with
  | cons h hs =>
   cases n with
   | zero => exact .nil
   | succ n => exact .cons h (ih hs n)
theorem VRels.drop {vs : List V} {xs : List Value} (h : VRels ι O w vs xs) (n : Nat) : VRels ι O w (vs.drop n) (xs.drop n) := by
 induction vs generalizing xs n with
 | nil => cases h; simpa using VRels.nil
 | cons v vs ih =>
  cases h with
  | cons h hs =>
   cases n with
   | zero => exact .cons h hs
   | succ n => exact ih hs n
theorem VRels.split {vs us : List V} {xs : List Value} (h : VRels ι O w (vs ++ us) xs) : ∃ ys zs, xs = ys ++ zs ∧ VRels ι O w vs ys ∧ VRels ι O w us zs := by
 refine ⟨xs.take vs.length, xs.drop vs.length, (List.take_append_drop _ _).symm, ?_, ?_⟩
 ·have := h.take vs.length; simpa using this
 ·have := h.drop vs.length; simpa using this
theorem VRels.snoc {vs : List V} {v : V} {xs : List Value} {x : Value} (h : VRels ι O w vs xs) (hv : VRel ι O w v x) : VRels ι O w (vs ++ [v]) (xs ++ [x]) := h.append (.cons hv .nil)
theorem VRel.oneCell {v : V} {x : Value} (h : VRel ι O w v x) (hv : v.one = true) : x.oneCell' = true := by
 cases h <;> simp_all [V.one, Value.oneCell']
theorem cells_of_oneCell {x : Value} (h : x.oneCell' = true) : x.cells = #[x] := by cases x <;> simp_all [Value.oneCell', Value.cells]
theorem VRel.cells {v : V} {x : Value} (h : VRel ι O w v x) (hv : v.isAny = false) : VRels ι O w v.cells x.cells.toList := by
 cases h with
 | any => simp [V.isAny] at hv
 | val _ h => simp only [V.cells, cells_of_oneCell h]; exact .cons (.val _ h) .nil
 | agg h => simpa [V.cells, Value.cells] using h
 | tup h => exact .cons (.tup h) .nil
 | ptr h hg hm ho => exact .cons (.ptr h hg hm ho) .nil
 | sl h hg hm ho h0 hl hc hs => exact .cons (.sl h hg hm ho h0 hl hc hs) .nil
 | sl0 h => exact .cons (.sl0 h) .nil
 | sub h hg hm ho hl hc hs => exact .cons (.sub h hg hm ho hl hc hs) .nil
 | ro0 => exact .cons .ro0 .nil
 | ro hb hO hw hsz hlen hlc hin hvs h => exact .cons (.ro hb hO hw hsz hlen hlc hin hvs h) .nil
 | rp hb hO hw hsz hin hvs h ho => exact .cons (.rp hb hO hw hsz hin hvs h ho) .nil
 | map h hg hm => exact .cons (.map h hg hm) .nil
 | fn h1 h2 => exact .cons (.fn h1 h2) .nil
structure Stays (ι : Names) (O : Nat → Prop) (w : World) (ι' : Names) (O' : Nat → Prop) (w' : World) : Prop where
 le : ∀ n l, ι n = some l → ι' n = some l
 size : w.heap.size ≤ w'.heap.size
 heap : ∀ b, b < w.heap.size → ¬ O b → ¬ O' b ∧ w'.heap[b]? = w.heap[b]?
mutual
theorem VRel.stays (S : Stays ι O w ι' O' w') : {v : V} → {x : Value} → VRel ι O w v x → VRel ι' O' w' v x
 | _, _, .any v => .any v
 | _, _, .val v h => .val v h
 | _, _, .agg h => .agg (VRels.stays S h)
 | _, _, .tup h => .tup (VRels.stays S h)
 | _, _, .ptr h hg hm ho => .ptr (S.le _ _ h) hg hm ho
 | _, _, .sl h hg hm ho h0 hl hc hs => .sl (S.le _ _ h) hg hm ho h0 hl hc hs
 | _, _, .sl0 h => .sl0 (S.le _ _ h)
 | _, _, .sub h hg hm ho hl hc hs => .sub (S.le _ _ h) hg hm ho hl hc hs
 | _, _, .ro0 => .ro0
 | _, _, .ro hb hO hw hsz hlen hlc hin hvs h => .ro (Nat.lt_of_lt_of_le hb S.size) (S.heap _ hb hO).1 ((S.heap _ hb hO).2.trans hw) hsz hlen hlc hin hvs (VRels.stays S h)
 | _, _, .rp hb hO hw hsz hin hvs h ho => .rp (Nat.lt_of_lt_of_le hb S.size) (S.heap _ hb hO).1 ((S.heap _ hb hO).2.trans hw) hsz hin hvs (VRels.stays S h) ho
 | _, _, .map h hg hm => .map (S.le _ _ h) hg hm
 | _, _, .fn h1 h2 => .fn (VRels.stays S h1) (VRels.stays S h2)
theorem VRels.stays (S : Stays ι O w ι' O' w') : {vs : List V} → {xs : List Value} → VRels ι O w vs xs → VRels ι' O' w' vs xs
 | _, _, .nil => .nil
 | _, _, .cons h hs => .cons (VRel.stays S h) (VRels.stays S hs)
end
end
inductive B where
 | rows (sz : Nat) (es : List V)
 | map (es : List (V × V))
 | iter (m : Nat) (done : List Nat) (n : Nat)
abbrev Heap := List (Nat × B)
def OwnH (ι : Names) (H : Heap) (b : Nat) : Prop := ∃ n B l, (n, B) ∈ H ∧ ι n = some l ∧ l.ghost = false ∧ l.b = b
def Own (F : Nat → Prop) (ι : Names) (H : Heap) (b : Nat) : Prop := F b ∨ OwnH ι H b
def BRel (ι : Names) (O : Nat → Prop) (w : World) (l : Loc) : B → Prop
  | .rows sz es => l.sz = sz ∧ l.map = false ∧ (∀ v ∈ es, v.fits sz = true) ∧
      ((l.ghost = true ∧ es = []) ∨
       (l.ghost = false ∧ ∃ c e, w.heap[l.b]? = some (.cells c e (0, 0)) ∧ c.size = l.size ∧ l.o + es.length * sz ≤ c.size ∧
          VRels ι O w (es.flatMap V.cells) ((c.toList.drop l.o).take (es.length * sz))))
  | .map es => l.ghost = false ∧ l.map = true ∧ ∃ mes : Array MapEntry, w.heap[l.b]? = some (.map mes mes.size) ∧ VRels ι O w (es.map (·.1)) (mes.toList.map (·.key)) ∧
      VRels ι O w (es.map (·.2)) (mes.toList.map (·.val)) ∧ mes.toList.map (·.born) = List.range mes.size
  | .iter m done n => l.ghost = false ∧ l.map = false ∧ l.o = 0 ∧ ∃ lm, ι m = some lm ∧ lm.ghost = false ∧ w.heap[l.b]? = some (.mapIter (some lm.b) n done.toArray n)
structure Rep (F : Nat → Prop) (ι : Names) (H : Heap) (w : World) : Prop where
 frame : ∀ b, F b → b < w.heap.size
 names : (H.map Prod.fst).Nodup
 own : ∀ n B, (n, B) ∈ H → ∃ l, ι n = some l ∧ BRel ι (Own F ι H) w l B ∧ (l.ghost = false → l.b < w.heap.size ∧ ¬ F l.b)
 apart : ∀ n B m C l l', (n, B) ∈ H → (m, C) ∈ H → n ≠ m → ι n = some l → ι m = some l' → l.ghost = false → l'.ghost = false → l.b ≠ l'.b
class Md where
 d : Prop
variable [Md]
def Tp (w w' : World) : Prop := w'.tape = w.tape ∧ (Md.d → w.drawn ≤ w'.drawn)
theorem Tp.refl (w : World) : Tp w w := ⟨rfl, fun _ => Nat.le_refl _⟩
theorem Tp.same {w w' : World} (h : w'.tape = w.tape) (h' : w'.drawn = w.drawn) : Tp w w' := ⟨h, fun _ => Nat.le_of_eq h'.symm⟩
theorem Tp.trans {w w' w'' : World} (h : Tp w w') (h' : Tp w' w'') : Tp w w'' := ⟨h'.1.trans h.1, fun d => Nat.le_trans (h.2 d) (h'.2 d)⟩
theorem Tp.drew (w : World) : Tp w w.drew := ⟨rfl, fun _ => Nat.le_succ _⟩
structure Kept (ι : Names) (H : Heap) (w : World) (ι' : Names) (H' : Heap) (w' : World) : Prop where
 le : ∀ n l, ι n = some l → ι' n = some l
 os : w'.os = w.os
 tape : Tp w w'
 output : w'.output = w.output
 size : w.heap.size ≤ w'.heap.size
 stay : ∀ b, b < w.heap.size → ¬ OwnH ι H b → w'.heap[b]? = w.heap[b]?
 old : ∀ b, b < w.heap.size → OwnH ι' H' b → OwnH ι H b
theorem Kept.refl (ι : Names) (H : Heap) (w : World) : Kept ι H w ι H w :=
 ⟨fun _ _ h => h, rfl, Tp.refl _, rfl, Nat.le_refl _, fun _ _ _ => rfl, fun _ _ h => h⟩
theorem Kept.trans {ι ι' ι'' : Names} {H H' H'' : Heap} {w w' w'' : World} (h : Kept ι H w ι' H' w') (h' : Kept ι' H' w' ι'' H'' w'') : Kept ι H w ι'' H'' w'' :=
  ⟨fun n l e => h'.le n l (h.le n l e), h'.os.trans h.os, h.tape.trans h'.tape, h'.output.trans h.output, Nat.le_trans h.size h'.size,
   fun b hb hn => (h'.stay b (Nat.lt_of_lt_of_le hb h.size) (fun ho => hn (h.old b hb ho))).trans (h.stay b hb hn),
   fun b hb ho => h.old b hb (h'.old b (Nat.lt_of_lt_of_le hb h.size) ho)⟩
theorem Kept.stays {F : Nat → Prop} {ι ι' : Names} {H H' : Heap} {w w' : World} (h : Kept ι H w ι' H' w') : Stays ι (Own F ι H) w ι' (Own F ι' H') w' :=
 ⟨h.le, h.size, fun b hb hn => ⟨fun ho => hn (ho.elim .inl fun ho => .inr (h.old b hb ho)), h.stay b hb fun ho => hn (.inr ho)⟩⟩
end Go.Sl
namespace Go.Sl
instance mdT : Md := ⟨True⟩
end Go.Sl
namespace Go.Sl
variable [Md]
def look (n : Nat) : Heap → Option B
 | [] => none
 | (m, b) :: r => if n = m then some b else look n r
def put (n : Nat) (b : B) : Heap → Heap
 | [] => []
 | (m, c) :: r => if n = m then (m, b) :: r else (m, c) :: put n b r
def del (n : Nat) : Heap → Heap
 | [] => []
 | (m, c) :: r => if n = m then r else (m, c) :: del n r
def upd (ι : Names) (k : Nat) (l : Loc) : Names := fun n => if n = k then some l else ι n
omit [Md] in
theorem upd_same (ι : Names) (k : Nat) (l : Loc) : upd ι k l k = some l := by simp [upd]
omit [Md] in
theorem upd_other (ι : Names) (k n : Nat) (l : Loc) (h : n ≠ k) : upd ι k l n = ι n := by simp [upd, h]
omit [Md] in
theorem upd_le {ι : Names} {k : Nat} (l : Loc) (h : ι k = none) (n : Nat) (l' : Loc) (hn : ι n = some l') : upd ι k l n = some l' := by
 unfold upd; split
 ·subst_vars; rw [h] at hn; cases hn
 ·exact hn
omit [Md] in
theorem look_mem {n : Nat} {b : B} : ∀ {H : Heap}, look n H = some b → (n, b) ∈ H
 | [], h => by simp [look] at h
 | (m, c) :: r, h => by
  simp only [look] at h
  split at h
  ·subst_vars; simp at h; subst h; exact .head _
  ·exact .tail _ (look_mem h)
omit [Md] in
theorem look_of_mem {n : Nat} {b : B} : ∀ {H : Heap}, (H.map Prod.fst).Nodup → (n, b) ∈ H → look n H = some b
 | (m, c) :: r, hd, h => by
  simp only [List.map_cons, List.nodup_cons] at hd
  simp only [look]
  cases h with
  | head => simp
  | tail _ h =>
   rw [if_neg, look_of_mem hd.2 h]
   intro e; subst e; exact hd.1 (List.mem_map.2 ⟨(n, b), h, rfl⟩)
omit [Md] in
theorem names_put (n : Nat) (b : B) : ∀ H : Heap, (put n b H).map Prod.fst = H.map Prod.fst
 | [] => rfl
 | (m, c) :: r => by simp only [put]; split <;> simp [names_put n b r]
omit [Md] in
theorem mem_put {n m : Nat} {b c : B} : ∀ {H : Heap}, (H.map Prod.fst).Nodup → (m, c) ∈ put n b H → (m = n ∧ c = b) ∨ (m ≠ n ∧ (m, c) ∈ H)
 | (p, d) :: r, hd, h => by
  simp only [List.map_cons, List.nodup_cons] at hd
  simp only [put] at h
  split at h
  ·subst_vars
   cases h with
   | head => exact .inl ⟨rfl, rfl⟩
   | tail _ h => exact .inr ⟨fun e => hd.1 (e ▸ List.mem_map.2 ⟨(m, c), h, rfl⟩), .tail _ h⟩
  ·rename_i hne
   cases h with
   | head => exact .inr ⟨fun e => hne e.symm, .head _⟩
   | tail _ h => exact (mem_put hd.2 h).imp id fun h => ⟨h.1, .tail _ h.2⟩
omit [Md] in
theorem mem_put_self {n : Nat} {b c : B} : ∀ {H : Heap}, (n, c) ∈ H → (n, b) ∈ put n b H
 | (p, d) :: r, h => by
  simp only [put]
  split
  ·subst_vars; exact .head _
  ·rename_i hne
   cases h with
   | head => exact absurd rfl hne
   | tail _ h => exact .tail _ (mem_put_self h)
omit [Md] in
theorem mem_del {n m : Nat} {c : B} : ∀ {H : Heap}, (H.map Prod.fst).Nodup → (m, c) ∈ del n H → m ≠ n ∧ (m, c) ∈ H
 | (p, d) :: r, hd, h => by
  simp only [List.map_cons, List.nodup_cons] at hd
  simp only [del] at h
  split at h
  ·subst_vars; exact ⟨fun e => hd.1 (e ▸ List.mem_map.2 ⟨(m, c), h, rfl⟩), .tail _ h⟩
  ·rename_i hne
   cases h with
   | head => exact ⟨fun e => hne e.symm, .head _⟩
   | tail _ h => exact ⟨(mem_del hd.2 h).1, .tail _ (mem_del hd.2 h).2⟩
omit [Md] in
theorem names_del_sub (n : Nat) : ∀ H : Heap, ((del n H).map Prod.fst).Sublist (H.map Prod.fst)
 | [] => .refl _
 | (m, c) :: r => by
  simp only [del]; split
  ·exact .cons _ (.refl _)
  ·exact .cons_cons _ (names_del_sub n r)
section
variable {F : Nat → Prop} {ι ι' : Names} {H H' : Heap} {w w' : World} {O O' : Nat → Prop}
omit [Md] in
theorem BRel.stays {l : Loc} {b : B} (S : Stays ι O w ι' O' w') (hh : l.ghost = false → w'.heap[l.b]? = w.heap[l.b]?) (h : BRel ι O w l b) : BRel ι' O' w' l b := by
 cases b with
 | rows sz es =>
  obtain ⟨h1, h2, h3, h4⟩ := h
  refine ⟨h1, h2, h3, ?_⟩
  rcases h4 with h4 | ⟨hg, c, e, hw, hc, ho, hv⟩
  ·exact .inl h4
  ·exact .inr ⟨hg, c, e, (hh hg).trans hw, hc, ho, VRels.stays S hv⟩
 | map es =>
  obtain ⟨h1, h2, mes, hw, hk, hv, hb⟩ := h
  exact ⟨h1, h2, mes, (hh h1).trans hw, VRels.stays S hk, VRels.stays S hv, hb⟩
 | iter m done n =>
  obtain ⟨h1, h2, h3, lm, hm, hg, hw⟩ := h
  exact ⟨h1, h2, h3, lm, S.le _ _ hm, hg, (hh h1).trans hw⟩
theorem Rep.change (R : Rep F ι H w) (K : Kept ι H w ι' H' w') (hn : (H'.map Prod.fst).Nodup) (x : Nat)
    (h1 : ∀ m C, (m, C) ∈ H' → m ≠ x → (m, C) ∈ H)
    (h2 : ∀ m C l, (m, C) ∈ H' → m ≠ x → ι m = some l → l.ghost = false → w'.heap[l.b]? = w.heap[l.b]?)
    (h3 : ∀ C, (x, C) ∈ H' → ∃ l, ι' x = some l ∧ BRel ι' (Own F ι' H') w' l C ∧
      (l.ghost = false → l.b < w'.heap.size ∧ ¬ F l.b ∧ ∀ m C lm, (m, C) ∈ H' → m ≠ x → ι m = some lm → lm.ghost = false → lm.b ≠ l.b)) :
    Rep F ι' H' w' := by
  refine ⟨fun b hb => Nat.lt_of_lt_of_le (R.frame b hb) K.size, hn, ?_, ?_⟩
  · intro n C hC
    by_cases hx : n = x
    · subst hx
      obtain ⟨l, hl, hB, hg⟩ := h3 C hC
      exact ⟨l, hl, hB, fun hgh => ⟨(hg hgh).1, (hg hgh).2.1⟩⟩
    · obtain ⟨l, hl, hB, hg⟩ := R.own n C (h1 n C hC hx)
      refine ⟨l, K.le _ _ hl, BRel.stays K.stays (h2 n C l hC hx hl) hB, fun hgh => ⟨Nat.lt_of_lt_of_le (hg hgh).1 K.size, (hg hgh).2⟩⟩
  · intro n C m D l l' hC hD hne hl hl' hg hg'
    by_cases hx : n = x
    · subst hx
      obtain ⟨l0, hl0, _, h⟩ := h3 C hC
      rw [hl] at hl0; cases hl0
      obtain ⟨lm, hlm, _, _⟩ := R.own m D (h1 m D hD (Ne.symm hne))
      have := K.le _ _ hlm
      rw [hl'] at this; cases this
      exact Ne.symm ((h hg).2.2 m D _ hD (Ne.symm hne) hlm hg')
    · by_cases hy : m = x
      · subst hy
        obtain ⟨l0, hl0, _, h⟩ := h3 D hD
        rw [hl'] at hl0; cases hl0
        obtain ⟨lm, hlm, _, _⟩ := R.own n C (h1 n C hC hne)
        have := K.le _ _ hlm
        rw [hl] at this; cases this
        exact (h hg').2.2 n C _ hC hne hlm hg
      · obtain ⟨la, hla, _, _⟩ := R.own n C (h1 n C hC hx)
        obtain ⟨lb, hlb, _, _⟩ := R.own m D (h1 m D hD hy)
        have e1 := K.le _ _ hla
        have e2 := K.le _ _ hlb
        rw [hl] at e1; cases e1
        rw [hl'] at e2; cases e2
        exact R.apart n C m D _ _ (h1 n C hC hx) (h1 m D hD hy) hne hla hlb hg hg'
omit [Md] in
theorem Rep.known (R : Rep F ι H w) {n : Nat} {b : B} (h : look n H = some b) : ∃ l, ι n = some l ∧ BRel ι (Own F ι H) w l b ∧ (l.ghost = false → l.b < w.heap.size ∧ ¬ F l.b) :=
 R.own n b (look_mem h)
omit [Md] in
theorem Rep.fresh_not (R : Rep F ι H w) {k : Nat} (hk : ι k = none) (b : B) : (k, b) ∉ H := fun h => by
 obtain ⟨l, hl, _⟩ := R.own k b h
 rw [hk] at hl; cases hl
omit [Md] in
theorem Rep.fresh_names (R : Rep F ι H w) {k : Nat} (hk : ι k = none) : k ∉ H.map Prod.fst := fun h => by
 obtain ⟨⟨n, b⟩, hm, he⟩ := List.mem_map.1 h
 simp only at he; subst he
 exact R.fresh_not hk b hm
theorem kept_alloc (_R : Rep F ι H w) {k : Nat} (hk : ι k = none) (l : Loc) (b : B) (hl : l.b = w.heap.size) (ho : w'.os = w.os) (ht : Tp w w') (hu : w'.output = w.output)
    (hs : w.heap.size ≤ w'.heap.size) (hh : ∀ i, i < w.heap.size → w'.heap[i]? = w.heap[i]?) : Kept ι H w (upd ι k l) ((k, b) :: H) w' := by
  refine ⟨fun n l' h => upd_le l hk n l' h, ho, ht, hu, hs, fun i hi _ => hh i hi, ?_⟩
  rintro i hi ⟨n, B', l', hm, hι, hg, rfl⟩
  by_cases hn : n = k
  · subst hn; rw [upd_same] at hι; cases hι; omega
  · rw [upd_other _ _ _ _ hn] at hι
    cases hm with
    | head => exact absurd rfl hn
    | tail _ hm => exact ⟨n, B', l', hm, hι, hg, rfl⟩
theorem Rep.alloc (R : Rep F ι H w) {k : Nat} (hk : ι k = none) (l : Loc) (b : B) (hl : l.b = w.heap.size) (ho : w'.os = w.os) (ht : Tp w w') (hu : w'.output = w.output)
    (hs : w.heap.size < w'.heap.size) (hh : ∀ i, i < w.heap.size → w'.heap[i]? = w.heap[i]?)
    (hb : ∀ ι' O', Stays ι (Own F ι H) w ι' O' w' → BRel ι' O' w' l b) : Rep F (upd ι k l) ((k, b) :: H) w' := by
  have K := kept_alloc R hk l b hl ho ht hu (Nat.le_of_lt hs) hh
  refine R.change K ?_ k ?_ ?_ ?_
  · simp only [List.map_cons, List.nodup_cons]; exact ⟨R.fresh_names hk, R.names⟩
  · intro m C h hne; cases h with
    | head => exact absurd rfl hne
    | tail _ h => exact h
  · intro m C l' h hne hι hg
    cases h with
    | head => exact absurd rfl hne
    | tail _ h =>
      obtain ⟨l0, hl0, _, h0⟩ := R.own m C h
      rw [hι] at hl0; cases hl0
      exact hh _ (h0 hg).1
  · intro C hC
    have hCb : C = b := by
      cases hC with
      | head => rfl
      | tail _ h => exact absurd h (R.fresh_not hk C)
    subst hCb
    refine ⟨l, upd_same _ _ _, hb _ _ K.stays, fun _ => ⟨by omega, fun hF => by have := R.frame _ hF; omega, ?_⟩⟩
    intro m C lm h hne hι hg
    cases h with
    | head => exact absurd rfl hne
    | tail _ h =>
      obtain ⟨l0, hl0, _, h0⟩ := R.own m C h
      rw [hι] at hl0; cases hl0
      have := (h0 hg).1; omega
theorem kept_put {n : Nat} {b b' : B} (hm : (n, b) ∈ H) {l : Loc} (hl : ι n = some l) (hg : l.ghost = false) (hd : (H.map Prod.fst).Nodup)
    (ho : w'.os = w.os) (ht : Tp w w') (hu : w'.output = w.output) (hs : w.heap.size ≤ w'.heap.size) (hh : ∀ i, i < w.heap.size → i ≠ l.b → w'.heap[i]? = w.heap[i]?) : Kept ι H w ι (put n b' H) w' := by
  refine ⟨fun _ _ h => h, ho, ht, hu, hs, fun i hi hno => hh i hi fun e => hno ⟨n, b, l, hm, hl, hg, e.symm⟩, ?_⟩
  rintro i hi ⟨m, B', l', hm', hι, hg', rfl⟩
  rcases mem_put hd hm' with ⟨rfl, rfl⟩ | ⟨_, h⟩
  · rw [hl] at hι; cases hι; exact ⟨m, b, l, hm, hl, hg, rfl⟩
  · exact ⟨m, B', l', h, hι, hg', rfl⟩
theorem Rep.put (R : Rep F ι H w) {n : Nat} {b b' : B} (hm : (n, b) ∈ H) {l : Loc} (hl : ι n = some l) (hg : l.ghost = false)
    (ho : w'.os = w.os) (ht : Tp w w') (hu : w'.output = w.output) (hs : w.heap.size ≤ w'.heap.size) (hh : ∀ i, i < w.heap.size → i ≠ l.b → w'.heap[i]? = w.heap[i]?)
    (hb : ∀ O', Stays ι (Own F ι H) w ι O' w' → BRel ι O' w' l b') : Rep F ι (put n b' H) w' := by
  have K := kept_put (b' := b') hm hl hg R.names ho ht hu hs hh
  refine R.change K (by rw [names_put]; exact R.names) n ?_ ?_ ?_
  · intro m C h hne; exact ((mem_put R.names h).resolve_left fun e => hne e.1).2
  · intro m C lm h hne hι hgm
    have h' := ((mem_put R.names h).resolve_left fun e => hne e.1).2
    obtain ⟨l0, hl0, _, h0⟩ := R.own m C h'
    rw [hι] at hl0; cases hl0
    exact hh _ (h0 hgm).1 (R.apart m C n b _ _ h' hm hne hι hl hgm hg)
  · intro C hC
    have hCb : C = b' := ((mem_put R.names hC).resolve_right fun e => e.1 rfl).2
    subst hCb
    obtain ⟨l0, hl0, _, h0⟩ := R.own n b hm
    rw [hl] at hl0; cases hl0
    refine ⟨l, hl, hb _ K.stays, fun _ => ⟨Nat.lt_of_lt_of_le (h0 hg).1 hs, (h0 hg).2, ?_⟩⟩
    intro m C lm h hne hι hgm
    have h' := ((mem_put R.names h).resolve_left fun e => hne e.1).2
    exact R.apart m C n b _ _ h' hm hne hι hl hgm hg
theorem kept_del (R : Rep F ι H w) (n : Nat) : Kept ι H w ι (del n H) w :=
 ⟨fun _ _ h => h, rfl, Tp.refl _, rfl, Nat.le_refl _, fun _ _ _ => rfl, by
  rintro i hi ⟨m, B', l', hm', hι, hg', rfl⟩
  exact ⟨m, B', l', (mem_del R.names hm').2, hι, hg', rfl⟩⟩
theorem Rep.del (R : Rep F ι H w) (n : Nat) : Rep F ι (del n H) w := by
 refine R.change (kept_del R n) ((names_del_sub n H).nodup R.names) n ?_ ?_ ?_
 ·intro m C h _; exact (mem_del R.names h).2
 ·intro _ _ _ _ _ _ _; rfl
 ·intro C hC; exact absurd rfl (mem_del R.names hC).1
theorem Rep.ghost (R : Rep F ι H w) {k : Nat} (hk : ι k = none) (sz : Nat) :
    Rep F (upd ι k ⟨0, 0, sz, 0, true, false⟩) ((k, .rows sz []) :: H) w ∧ Kept ι H w (upd ι k ⟨0, 0, sz, 0, true, false⟩) ((k, .rows sz []) :: H) w := by
  have K : Kept ι H w (upd ι k ⟨0, 0, sz, 0, true, false⟩) ((k, .rows sz []) :: H) w := by
    refine ⟨fun n l' h => upd_le _ hk n l' h, rfl, Tp.refl _, rfl, Nat.le_refl _, fun i hi _ => rfl, ?_⟩
    rintro i hi ⟨n, B', l', hm, hι, hg, rfl⟩
    by_cases hn : n = k
    · subst hn; rw [upd_same] at hι; cases hι; simp at hg
    · rw [upd_other _ _ _ _ hn] at hι
      cases hm with
      | head => exact absurd rfl hn
      | tail _ hm => exact ⟨n, B', l', hm, hι, hg, rfl⟩
  refine ⟨R.change K ?_ k ?_ ?_ ?_, K⟩
  · simp only [List.map_cons, List.nodup_cons]; exact ⟨R.fresh_names hk, R.names⟩
  · intro m C h hne; cases h with
    | head => exact absurd rfl hne
    | tail _ h => exact h
  · intro _ _ _ _ _ _ _; rfl
  · intro C hC
    have hCb : C = .rows sz [] := by
      cases hC with
      | head => rfl
      | tail _ h => exact absurd h (R.fresh_not hk C)
    subst hCb
    exact ⟨_, upd_same _ _ _, ⟨rfl, rfl, by simp, .inl ⟨rfl, rfl⟩⟩, by simp⟩
theorem Rep.move (R : Rep F ι H w) {n : Nat} {b : B} (hm : (n, b) ∈ H) {l : Loc} (hl : ι n = some l) (hg : l.ghost = false) {k : Nat} (hk : ι k = none) (l' : Loc) (hl' : l'.b = l.b) (b' : B)
    (ho : w'.os = w.os) (ht : Tp w w') (hu : w'.output = w.output) (hs : w.heap.size ≤ w'.heap.size) (hh : ∀ i, i < w.heap.size → i ≠ l.b → w'.heap[i]? = w.heap[i]?)
    (hb : ∀ ι' O', Stays ι (Own F ι H) w ι' O' w' → BRel ι' O' w' l' b') :
    Rep F (upd ι k l') ((k, b') :: Sl.del n H) w' ∧ Kept ι H w (upd ι k l') ((k, b') :: Sl.del n H) w' := by
  have hnk : n ≠ k := fun e => by subst e; rw [hk] at hl; cases hl
  have K : Kept ι H w (upd ι k l') ((k, b') :: Sl.del n H) w' := by
    refine ⟨fun n l' h => upd_le _ hk n l' h, ho, ht, hu, hs, fun i hi hno => hh i hi fun e => hno ⟨n, b, l, hm, hl, hg, e.symm⟩, ?_⟩
    rintro i hi ⟨m, B', lm, hm', hι, hg', rfl⟩
    by_cases hmk : m = k
    · subst hmk; rw [upd_same] at hι; cases hι
      exact ⟨n, b, l, hm, hl, hg, hl'.symm⟩
    · rw [upd_other _ _ _ _ hmk] at hι
      cases hm' with
      | head => exact absurd rfl hmk
      | tail _ hm' => exact ⟨m, B', lm, (mem_del R.names hm').2, hι, hg', rfl⟩
  refine ⟨R.change K ?_ k ?_ ?_ ?_, K⟩
  · simp only [List.map_cons, List.nodup_cons]
    exact ⟨fun h => R.fresh_names hk ((names_del_sub n H).mem h), (names_del_sub n H).nodup R.names⟩
  · intro m C h hne; cases h with
    | head => exact absurd rfl hne
    | tail _ h => exact (mem_del R.names h).2
  · intro m C lm h hne hι hgm
    cases h with
    | head => exact absurd rfl hne
    | tail _ h =>
      have h' := mem_del R.names h
      obtain ⟨l0, hl0, _, h0⟩ := R.own m C h'.2
      rw [hι] at hl0; cases hl0
      exact hh _ (h0 hgm).1 (R.apart m C n b _ _ h'.2 hm h'.1 hι hl hgm hg)
  · intro C hC
    have hCb : C = b' := by
      cases hC with
      | head => rfl
      | tail _ h => exact absurd (mem_del R.names h).2 (R.fresh_not hk C)
    subst hCb
    obtain ⟨l0, hl0, _, h0⟩ := R.own n b hm
    rw [hl] at hl0; cases hl0
    refine ⟨l', upd_same _ _ _, hb _ _ K.stays, fun _ => ⟨hl' ▸ Nat.lt_of_lt_of_le (h0 hg).1 hs, hl' ▸ (h0 hg).2, ?_⟩⟩
    intro m C lm h hne hι hgm
    cases h with
    | head => exact absurd rfl hne
    | tail _ h =>
      have h' := mem_del R.names h
      rw [hl']
      exact R.apart m C n b _ _ h'.2 hm h'.1 hι hl hgm hg
omit [Md] in
theorem OwnH.perm (p : H.Perm H') (b : Nat) : OwnH ι H b ↔ OwnH ι H' b :=
 ⟨fun ⟨n, B, l, h, r⟩ => ⟨n, B, l, p.mem_iff.1 h, r⟩, fun ⟨n, B, l, h, r⟩ => ⟨n, B, l, p.mem_iff.2 h, r⟩⟩
theorem Kept.perm (p : H.Perm H') : Kept ι H w ι H' w :=
 ⟨fun _ _ h => h, rfl, Tp.refl _, rfl, Nat.le_refl _, fun _ _ _ => rfl, fun b _ h => (OwnH.perm p b).2 h⟩
theorem Rep.perm (R : Rep F ι H w) (p : H.Perm H') : Rep F ι H' w := by
 refine ⟨R.frame, (p.map _).nodup_iff.1 R.names, ?_, ?_⟩
 ·intro n C hC
  obtain ⟨l, hl, hB, h⟩ := R.own n C (p.mem_iff.2 hC)
  exact ⟨l, hl, BRel.stays (Kept.perm p).stays (fun _ => rfl) hB, h⟩
 ·intro n C m D l l' hC hD
  exact R.apart n C m D l l' (p.mem_iff.2 hC) (p.mem_iff.2 hD)
def Fr (F : Nat → Prop) (ι : Names) (G : Heap) : Nat → Prop := fun b => F b ∨ OwnH ι G b
omit [Md] in
theorem own_split (H G : Heap) (b : Nat) : Own F ι (H ++ G) b ↔ Own (Fr F ι G) ι H b := by
 unfold Own Fr OwnH
 constructor
 ·rintro (h | ⟨n, B, l, h, r⟩)
  ·exact .inl (.inl h)
  ·rcases List.mem_append.1 h with h | h
   ·exact .inr ⟨n, B, l, h, r⟩
   ·exact .inl (.inr ⟨n, B, l, h, r⟩)
 ·rintro ((h | ⟨n, B, l, h, r⟩) | ⟨n, B, l, h, r⟩)
  ·exact .inl h
  ·exact .inr ⟨n, B, l, List.mem_append.2 (.inr h), r⟩
  ·exact .inr ⟨n, B, l, List.mem_append.2 (.inl h), r⟩
omit [Md] in
theorem own_split_eq (F : Nat → Prop) (ι : Names) (H G : Heap) : Own F ι (H ++ G) = Own (Fr F ι G) ι H := funext fun b => propext (own_split H G b)
omit [Md] in
theorem Rep.lend {G : Heap} (R : Rep F ι (H ++ G) w) : Rep (Fr F ι G) ι H w := by
 have hn := R.names
 simp only [List.map_append] at hn
 rw [List.nodup_append] at hn
 refine ⟨?_, hn.1, ?_, ?_⟩
 ·rintro b (h | ⟨n, B, l, h, hl, hg, rfl⟩)
  ·exact R.frame b h
  ·obtain ⟨l', hl', _, h'⟩ := R.own n B (List.mem_append.2 (.inr h))
   rw [hl] at hl'; cases hl'
   exact (h' hg).1
 ·intro n C hC
  obtain ⟨l, hl, hB, h⟩ := R.own n C (List.mem_append.2 (.inl hC))
  rw [own_split_eq] at hB
  refine ⟨l, hl, hB, fun hg => ⟨(h hg).1, ?_⟩⟩
  rintro (hF | ⟨m, D, l', hD, hl', hg', he⟩)
  ·exact (h hg).2 hF
  ·have hne : n ≠ m := fun e => hn.2.2 n (List.mem_map.2 ⟨(n, C), hC, rfl⟩) m (List.mem_map.2 ⟨(m, D), hD, rfl⟩) e
   exact R.apart n C m D l l' (List.mem_append.2 (.inl hC)) (List.mem_append.2 (.inr hD)) hne hl hl' hg hg' he.symm
 ·intro n C m D l l' hC hD
  exact R.apart n C m D l l' (List.mem_append.2 (.inl hC)) (List.mem_append.2 (.inl hD))
theorem Kept.frame {G : Heap} (R : Rep F ι (H ++ G) w) (K : Kept ι H w ι' H' w') : Kept ι (H ++ G) w ι' (H' ++ G) w' := by
 refine ⟨K.le, K.os, K.tape, K.output, K.size, fun b hb hn => K.stay b hb fun ⟨n, B, l, h, r⟩ => hn ⟨n, B, l, List.mem_append.2 (.inl h), r⟩, ?_⟩
 rintro b hb ⟨n, B, l, h, hl, hg, rfl⟩
 rcases List.mem_append.1 h with h | h
 ·obtain ⟨m, D, l', h', r⟩ := K.old _ hb ⟨n, B, l, h, hl, hg, rfl⟩
  exact ⟨m, D, l', List.mem_append.2 (.inl h'), r⟩
 ·obtain ⟨l', hl', _⟩ := R.own n B (List.mem_append.2 (.inr h))
  have := K.le _ _ hl'
  rw [hl] at this; cases this
  exact ⟨n, B, l, List.mem_append.2 (.inr h), hl', hg, rfl⟩
omit [Md] in
theorem Fr.later {G : Heap} (R : Rep F ι (H ++ G) w) (hle : ∀ n l, ι n = some l → ι' n = some l) (b : Nat) : Fr F ι' G b ↔ Fr F ι G b := by
 constructor
 ·rintro (h | ⟨n, B, l, h, hl, hg, rfl⟩)
  ·exact .inl h
  ·obtain ⟨l', hl', _⟩ := R.own n B (List.mem_append.2 (.inr h))
   have := hle _ _ hl'
   rw [hl] at this; cases this
   exact .inr ⟨n, B, l, h, hl', hg, rfl⟩
 ·rintro (h | ⟨n, B, l, h, hl, hg, rfl⟩)
  ·exact .inl h
  ·exact .inr ⟨n, B, l, h, hle _ _ hl, hg, rfl⟩
theorem Rep.give {G : Heap} (R : Rep F ι (H ++ G) w) (K : Kept ι H w ι' H' w') (R' : Rep (Fr F ι G) ι' H' w') (hd : ∀ n, n ∈ H'.map Prod.fst → n ∉ G.map Prod.fst) : Rep F ι' (H' ++ G) w' := by
 have hFr : Fr F ι' G = Fr F ι G := funext fun b => propext (Fr.later R K.le b)
 have hn := R.names
 simp only [List.map_append] at hn
 rw [List.nodup_append] at hn
 have hS : Stays ι (Own F ι (H ++ G)) w ι' (Own F ι' (H' ++ G)) w' := (Kept.frame R K).stays
 refine ⟨fun b hb => R'.frame b (.inl hb), ?_, ?_, ?_⟩
 ·simp only [List.map_append]; rw [List.nodup_append]
  exact ⟨R'.names, hn.2.1, fun a ha b hb e => hd a ha (e ▸ hb)⟩
 ·intro n C hC
  rcases List.mem_append.1 hC with hC | hC
  ·obtain ⟨l, hl, hB, h⟩ := R'.own n C hC
   refine ⟨l, hl, ?_, fun hg => ⟨(h hg).1, fun hF => (h hg).2 (.inl hF)⟩⟩
   rw [own_split_eq, hFr]; exact hB
  ·obtain ⟨l, hl, hB, h⟩ := R.own n C (List.mem_append.2 (.inr hC))
   refine ⟨l, K.le _ _ hl, BRel.stays hS (fun hg => ?_) hB, fun hg => ⟨Nat.lt_of_lt_of_le (h hg).1 K.size, (h hg).2⟩⟩
   refine K.stay _ (h hg).1 ?_
   rintro ⟨m, D, l', hD, hl', hg', he⟩
   have hne : m ≠ n := fun e => hn.2.2 m (List.mem_map.2 ⟨(m, D), hD, rfl⟩) n (List.mem_map.2 ⟨(n, C), hC, rfl⟩) e
   exact R.apart m D n C l' l (List.mem_append.2 (.inl hD)) (List.mem_append.2 (.inr hC)) hne hl' hl hg' hg he
 ·intro n C m D l l' hC hD hne hl hl' hg hg'
  have inG : ∀ n C l, (n, C) ∈ G → ι' n = some l → ι n = some l := fun n C l h hl => by
   obtain ⟨l0, hl0, _⟩ := R.own n C (List.mem_append.2 (.inr h))
   have := K.le _ _ hl0
   rw [hl] at this; cases this; exact hl0
  have cross : ∀ n C m D l l', (n, C) ∈ H' → (m, D) ∈ G → ι' n = some l → ι' m = some l' → l.ghost = false → l'.ghost = false → l.b ≠ l'.b := by
   intro n C m D l l' h1 h2 hl hl' hg hg' he
   obtain ⟨l0, hl0, _, h0⟩ := R'.own n C h1
   rw [hl] at hl0; cases hl0
   exact (h0 hg).2 (.inr ⟨m, D, l', h2, inG m D l' h2 hl', hg', he.symm⟩)
  rcases List.mem_append.1 hC with hC | hC <;> rcases List.mem_append.1 hD with hD | hD
  ·exact R'.apart n C m D l l' hC hD hne hl hl' hg hg'
  ·exact cross n C m D l l' hC hD hl hl' hg hg'
  ·exact fun e => cross m D n C l' l hD hC hl' hl hg' hg e.symm
  ·exact R.apart n C m D l l' (List.mem_append.2 (.inr hC)) (List.mem_append.2 (.inr hD)) hne (inG n C l hC hl) (inG m D l' hD hl') hg hg'
end
end Go.Sl
namespace Go.Sl
variable [Md]
structure St where
 N : Nat
 t : List (Nat × V)
 H : Heap
 k : Nat
def get : List (Nat × V) → Nat → V
 | [], _ => .any
 | (j, v) :: r, i => if i = j then v else get r i
def setT (t : List (Nat × V)) : Option Tmp → V → List (Nat × V)
 | none, _ => t
 | some d, v => (d, v) :: t
def All : Nat → Prop := fun _ => True
structure Holds (fr : Nat → Prop) (F : Nat → Prop) (ι : Names) (σ : St) (a : Act) (w : World) : Prop where
 defers : a.defers = []
 size : a.tmps.size = σ.N
 tmps : ∀ i, VRel ι (Own F ι σ.H) w (get σ.t i) (a.tmps.getD i undef)
 rep : Rep F ι σ.H w
 fresh : ∀ n, fr n → σ.k ≤ n → ι n = none
def constV : Value → V
 | .agg _ => .any
 | .tuple _ => .any
 | v => .val v
def evalV (t : List (Nat × V)) : Operand → V
 | .tmp i => get t i
 | .const v => constV v
 | .global g => .val (.pointer (some ⟨g, 0, none⟩))
 | .func f => .fn (.func f) [] []
structure Ext (fr : Nat → Prop) (ι : Names) (H : Heap) (k : Nat) (w : World) (ι' : Names) (H' : Heap) (k' : Nat) (w' : World) : Prop where
 kept : Kept ι H w ι' H' w'
 le : k ≤ k'
 same : ∀ n, (fr n → n < k) → ι' n = ι n
 dom : ∀ n, n ∈ H'.map Prod.fst → n ∈ H.map Prod.fst ∨ (fr n ∧ k ≤ n)
theorem Ext.refl (fr : Nat → Prop) (ι : Names) (H : Heap) (k : Nat) (w : World) : Ext fr ι H k w ι H k w := ⟨.refl _ _ _, Nat.le_refl _, fun _ _ => rfl, fun _ h => .inl h⟩
theorem Ext.trans {fr : Nat → Prop} {ι ι' ι'' : Names} {H H' H'' : Heap} {k k' k'' : Nat} {w w' w'' : World} (h : Ext fr ι H k w ι' H' k' w') (h' : Ext fr ι' H' k' w' ι'' H'' k'' w'') : Ext fr ι H k w ι'' H'' k'' w'' :=
 ⟨h.kept.trans h'.kept, Nat.le_trans h.le h'.le, fun n hn => (h'.same n fun hf => Nat.lt_of_lt_of_le (hn hf) h.le).trans (h.same n hn), fun n hn => (h'.dom n hn).elim (h.dom n) fun hk => .inr ⟨hk.1, Nat.le_trans h.le hk.2⟩⟩
structure Out (fr : Nat → Prop) (F : Nat → Prop) (ι : Names) (H : Heap) (k : Nat) (w : World) (ι' : Names) (v : V) (cv : Value) (H' : Heap) (k' : Nat) (w' : World) : Prop where
 ext : Ext fr ι H k w ι' H' k' w'
 rep : Rep F ι' H' w'
 fresh : ∀ n, fr n → k' ≤ n → ι' n = none
 val : VRel ι' (Own F ι' H') w' v cv
section
variable {fr : Nat → Prop} {F : Nat → Prop} {ι ι' : Names} {σ σ' : St} {a a' : Act} {w w' : World}
omit [Md] in
theorem Holds.eval (h : Holds fr F ι σ a w) (x : Operand) : VRel ι (Own F ι σ.H) w (evalV σ.t x) (a.eval x) := by
 cases x with
 | tmp i => exact h.tmps i
 | const v =>
  simp only [evalV, Act.eval]
  cases v <;> first | exact .any _ | exact .val _ rfl
 | global g => exact .val _ rfl
 | func f => exact .fn .nil .nil
omit [Md] in
theorem getD_setIfInBounds (xs : Array Value) (d i : Nat) (v : Value) (h : d < xs.size) : (xs.setIfInBounds d v).getD i undef = if i = d then v else xs.getD i undef := by
 simp only [Array.getD_eq_getD_getElem?, Array.getElem?_setIfInBounds]
 by_cases hi : i = d
 ·subst hi; simp [h]
 ·simp [hi, Ne.symm hi]
theorem Holds.step (h : Holds fr F ι σ a w) {v : V} {cv : Value} {H' : Heap} {k' : Nat} (O : Out fr F ι σ.H σ.k w ι' v cv H' k' w') {dst : Option Tmp} (hd : ∀ d, dst = some d → d < σ.N) :
    Holds fr F ι' ⟨σ.N, setT σ.t dst v, H', k'⟩ (a.put dst cv) w' := by
  have hS := O.ext.kept.stays (F := F)
  refine ⟨?_, ?_, ?_, O.rep, O.fresh⟩
  · cases dst <;> exact h.defers
  · cases dst with
    | none => exact h.size
    | some d => simp [Act.put, h.size]
  · intro i
    cases dst with
    | none => exact (h.tmps i).stays hS
    | some d =>
      have hlt := hd d rfl
      simp only [setT, get, Act.put]
      rw [getD_setIfInBounds _ _ _ _ (by rw [h.size]; exact hlt)]
      split
      · exact O.val
      · exact (h.tmps i).stays hS
def OpT (fr : Nat → Prop) (P : Program) (o : Oper) (σ : St) (K : V → Heap → Nat → Prop) : Prop :=
 ∀ F ι a w, Holds fr F ι σ a w → ∀ next Q, (∀ ι' v cv H' k' w', K v H' k' → Out fr F ι σ.H σ.k w ι' v cv H' k' w' → next (a.put o.dst cv) w') → o.wp P a w next Q
def TrL (P : Program) (ops : Array Oper) (l : List Oper) (K : St → Prop) (σ : St) : Prop :=
 ∀ F ι a w, Holds All F ι σ a w → ∀ Q : Exit → Act → World → Prop,
  (∀ ι' σ' a' w', K σ' → Holds All F ι' σ' a' w' → Ext All ι σ.H σ.k w ι' σ'.H σ'.k w' → Q .normal a' w') → wpList P ops Q l a w
def Tr (P : Program) (c : Code) (Q : Exit → St → Prop) (σ : St) : Prop :=
 ∀ F ι a w, Holds All F ι σ a w → c.wp P (fun e a' w' => ∃ ι' σ', Q e σ' ∧ Holds All F ι' σ' a' w' ∧ Ext All ι σ.H σ.k w ι' σ'.H σ'.k w') a w
variable {P : Program} {Q Q' : Exit → St → Prop}
theorem Tr.mono {c : Code} (h : Tr P c Q σ) (hq : ∀ e σ', Q e σ' → Q' e σ') : Tr P c Q' σ := fun F ι a w hh =>
 wp_mono (h F ι a w hh) fun e a' w' ⟨ι', σ', q, h1, h2⟩ => ⟨ι', σ', hq _ _ q, h1, h2⟩
theorem tr_skip (h : Q .normal σ) : Tr P .skip Q σ := fun _ ι _ w hh => wp_skip ⟨ι, σ, h, hh, Ext.refl _ _ _ _ _⟩
theorem tr_label {l : Nat} (h : Q .normal σ) : Tr P (.label l) Q σ := fun _ ι _ w hh => wp_label ⟨ι, σ, h, hh, Ext.refl _ _ _ _ _⟩
theorem tr_exit {id : Nat} (h : Q (.exit id) σ) : Tr P (.exit id) Q σ := fun _ ι _ w hh => wp_exit ⟨ι, σ, h, hh, Ext.refl _ _ _ _ _⟩
theorem tr_ret (h : Q .ret σ) : Tr P .ret Q σ := fun _ ι _ w hh => wp_ret ⟨ι, σ, h, hh, Ext.refl _ _ _ _ _⟩
def Then (K : St → Prop) (Q : Exit → St → Prop) : Exit → St → Prop
 | .normal, σ => K σ
 | e, σ => Q e σ
theorem tr_seq {x y : Code} (h : Tr P x (Then (Tr P y Q) Q) σ) : Tr P (.seq x y) Q σ := fun F ι a w hh => by
 refine wp_seq (wp_mono (h F ι a w hh) ?_)
 rintro e a' w' ⟨ι', σ', q, h1, h2⟩
 cases e with
 | normal => exact wp_mono (q F ι' a' w' h1) fun e a'' w'' ⟨ι'', σ'', q', h1', h2'⟩ => ⟨ι'', σ'', q', h1', h2.trans h2'⟩
 | _ => exact ⟨ι', σ', q, h1, h2⟩
theorem tr_cond {c : Operand} {x y : Code} {b : Bool} (hc : evalV σ.t c = .val (.bool b)) (ht : b = true → Tr P x Q σ) (hf : b = false → Tr P y Q σ) : Tr P (.cond c x y) Q σ := fun F ι a w hh => by
 have he := hh.eval c
 rw [hc] at he
 have : a.eval c = .bool b := by generalize a.eval c = x at he; cases he; rfl
 exact wp_cond_split this (fun e => ht e F ι a w hh) (fun e => hf e F ι a w hh)
def InBlock (id : Nat) (Q : Exit → St → Prop) : Exit → St → Prop
 | .exit id', σ => if id' = id then Q .normal σ else Q (.exit id') σ
 | e, σ => Q e σ
theorem tr_block {id : Nat} {c : Code} (h : Tr P c (InBlock id Q) σ) : Tr P (.block id c) Q σ := fun F ι a w hh => by
 refine wp_block (wp_mono (h F ι a w hh) ?_)
 rintro e a' w' ⟨ι', σ', q, h1, h2⟩
 cases e with
 | exit id' =>
  simp only [InBlock, Exit.inBlock] at q ⊢
  split at q <;> simp only [*, if_true, if_false] <;> exact ⟨ι', σ', q, h1, h2⟩
 | _ => exact ⟨ι', σ', q, h1, h2⟩
theorem tr_loop {c : Code} (I : Nat → St → Prop) (n : Nat) (h0 : I n σ) (round : ∀ n σ, I n σ → Tr P c (Then (fun σ' => ∃ m, m < n ∧ I m σ') Q) σ) : Tr P (.loop c) Q σ := by
  intro F ι a w hh b k cs
  have key : ∀ n σ ι a w, I n σ → Holds All F ι σ a w →
      ∃ e a' w', (∃ ι' σ', Q e σ' ∧ Holds All F ι' σ' a' w' ∧ Ext All ι σ.H σ.k w ι' σ'.H σ'.k w') ∧ Arrives P (lone (b.at a (.code c :: .inLoop c :: k)) cs w) b k cs e a' w' := by
    intro n
    induction n using Nat.strongRecOn with
    | _ n ih =>
      intro σ ι a w hI hh
      obtain ⟨e, a₁, w₁, ⟨ι₁, σ₁, hq, hh₁, hx⟩, harr⟩ := round n σ hI F ι a w hh b (.inLoop c :: k) cs
      cases e with
      | normal =>
        obtain ⟨m, hlt, hI₁⟩ := hq
        obtain ⟨e₂, a₂, w₂, ⟨ι₂, σ₂, hq₂, hh₂, hx₂⟩, harr₂⟩ := ih m hlt σ₁ ι₁ a₁ w₁ hI₁ hh₁
        exact ⟨e₂, a₂, w₂, ⟨ι₂, σ₂, hq₂, hh₂, hx.trans hx₂⟩, .of_steps (Steps.trans harr (.one step_inLoop)) harr₂⟩
      | exit id => exact ⟨_, a₁, w₁, ⟨ι₁, σ₁, hq, hh₁, hx⟩, .pass (x := .inLoop c) rfl (fun _ _ => .inl (by simp)) harr⟩
      | goto l => exact ⟨_, a₁, w₁, ⟨ι₁, σ₁, hq, hh₁, hx⟩, .pass (x := .inLoop c) rfl (fun _ _ => .inl (by simp)) harr⟩
      | ret => exact ⟨_, a₁, w₁, ⟨ι₁, σ₁, hq, hh₁, hx⟩, .pass (x := .inLoop c) rfl (fun _ _ => .inl (by simp)) harr⟩
      | panic ch => exact ⟨_, a₁, w₁, ⟨ι₁, σ₁, hq, hh₁, hx⟩, .pass (x := .inLoop c) rfl (fun _ _ => .inl (by simp)) harr⟩
      | outgrown => exact ⟨_, a₁, w₁, ⟨ι₁, σ₁, hq, hh₁, hx⟩, .pass (x := .inLoop c) rfl (fun _ _ => .inl (by simp)) harr⟩
  obtain ⟨e, a', w', hq, harr⟩ := key n σ ι a w h0 hh
  exact ⟨e, a', w', hq, .of_steps (.one step_loop) harr⟩
structure Weaker (σ σ' : St) : Prop where
 h : ∀ F ι a w, Holds All F ι σ a w → ∃ ι', Holds All F ι' σ' a w ∧ Ext All ι σ.H σ.k w ι' σ'.H σ'.k w
theorem Tr.weaken {c : Code} (hw : Weaker σ σ') (h : Tr P c Q σ') : Tr P c Q σ := fun F ι a w hh => by
 obtain ⟨ι', h1, h2⟩ := hw.h F ι a w hh
 exact wp_mono (h F ι' a w h1) fun e a'' w'' ⟨ι'', σ'', q', h1', h2'⟩ => ⟨ι'', σ'', q', h1', h2.trans h2'⟩
theorem Weaker.refl (σ : St) : Weaker σ σ := ⟨fun _ ι _ _ h => ⟨ι, h, Ext.refl _ _ _ _ _⟩⟩
theorem Weaker.trans {σ σ' σ'' : St} (h : Weaker σ σ') (h' : Weaker σ' σ'') : Weaker σ σ'' := ⟨fun F ι a w hh => by
 obtain ⟨ι', h1, h2⟩ := h.h F ι a w hh
 obtain ⟨ι'', h3, h4⟩ := h'.h F ι' a w h1
 exact ⟨ι'', h3, h2.trans h4⟩⟩
theorem Weaker.tmps {N k : Nat} {H : Heap} {t t' : List (Nat × V)} (h : ∀ i, get t' i = .any ∨ get t' i = get t i) : Weaker ⟨N, t, H, k⟩ ⟨N, t', H, k⟩ :=
 ⟨fun _ ι _ _ hh => ⟨ι, ⟨hh.defers, hh.size, fun i => by
  rcases h i with e | e
  ·rw [e]; exact .any _
  ·rw [e]; exact hh.tmps i, hh.rep, hh.fresh⟩, Ext.refl _ _ _ _ _⟩⟩
theorem Weaker.perm {N k : Nat} {H H' : Heap} {t : List (Nat × V)} (p : H.Perm H') : Weaker ⟨N, t, H, k⟩ ⟨N, t, H', k⟩ :=
 ⟨fun _ ι _ _ hh => ⟨ι, ⟨hh.defers, hh.size, fun i => (hh.tmps i).stays (Kept.perm p).stays, hh.rep.perm p, hh.fresh⟩, Kept.perm p, Nat.le_refl _, fun _ _ => rfl, fun _ h => .inl ((p.map _).mem_iff.2 h)⟩⟩
theorem Weaker.del {N k : Nat} {H : Heap} {t : List (Nat × V)} (n : Nat) : Weaker ⟨N, t, H, k⟩ ⟨N, t, del n H, k⟩ :=
 ⟨fun _ ι _ _ hh => ⟨ι, ⟨hh.defers, hh.size, fun i => (hh.tmps i).stays (kept_del hh.rep n).stays, hh.rep.del n, hh.fresh⟩, kept_del hh.rep n, Nat.le_refl _, fun _ _ => rfl, fun _ h => .inl ((names_del_sub n H).mem h)⟩⟩
def Enters (P : Program) (f : FuncId) : Prop := ∃ fn, P.funcs[f]? = some fn ∧ (fn.name == "runtime.NumGoroutine") = false ∧ fn.body.isNone = false
structure Fn (P : Program) (f : FuncId) (args : List V) (H : Heap) (k : Nat) (K : V → Heap → Nat → Prop) : Prop where
 enters : Enters P f
 calls : ∀ F ι w cargs, VRels ι (Own F ι H) w args cargs → Rep F ι H w → (∀ n, k ≤ n → ι n = none) →
  Calls P f cargs.toArray w fun e w' => ∃ ι' v cv H' k', e = .returned cv ∧ K v H' k' ∧ Out All F ι H k w ι' v cv H' k' w'
theorem Fn.mono {f : FuncId} {args : List V} {H : Heap} {k : Nat} {K K' : V → Heap → Nat → Prop} (h : Fn P f args H k K) (hk : ∀ v H' k', K v H' k' → K' v H' k') : Fn P f args H k K' :=
 ⟨h.enters, fun F ι w cargs h1 h2 h3 => (h.calls F ι w cargs h1 h2 h3).mono fun _ _ ⟨ι', v, cv, H', k', e, q, o⟩ => ⟨ι', v, cv, H', k', e, hk _ _ _ q, o⟩⟩
theorem Out.frame {H H' G : Heap} {k k' : Nat} {v : V} {cv : Value} (R : Rep F ι (H ++ G) w) (hf : ∀ n, fr n → k ≤ n → ι n = none) (O : Out fr (Fr F ι G) ι H k w ι' v cv H' k' w') :
    Out fr F ι (H ++ G) k w ι' v cv (H' ++ G) k' w' := by
  have hn := R.names
  simp only [List.map_append] at hn
  rw [List.nodup_append] at hn
  have hG : ∀ n, n ∈ G.map Prod.fst → fr n → n < k := fun n h hfn => by
    obtain ⟨⟨m, b⟩, hm, he⟩ := List.mem_map.1 h
    simp only at he; subst he
    obtain ⟨l, hl, _⟩ := R.own m b (List.mem_append.2 (.inr hm))
    refine Nat.lt_of_not_le fun hk => ?_
    rw [hf m hfn hk] at hl; cases hl
  have hd : ∀ n, n ∈ H'.map Prod.fst → n ∉ G.map Prod.fst := fun n h hg => by
    rcases O.ext.dom n h with h' | h'
    · exact hn.2.2 n h' n hg rfl
    · have := hG n hg h'.1; omega
  have hFr : Fr F ι' G = Fr F ι G := funext fun b => propext (Fr.later R O.ext.kept.le b)
  refine ⟨⟨Kept.frame R O.ext.kept, O.ext.le, O.ext.same, ?_⟩, Rep.give R O.ext.kept O.rep hd, O.fresh, ?_⟩
  · intro n h
    simp only [List.map_append, List.mem_append] at h ⊢
    rcases h with h | h
    · exact (O.ext.dom n h).imp .inl id
    · exact .inl (.inr h)
  · rw [own_split_eq, hFr]; exact O.val
theorem Out.perm_in {H H1 H' : Heap} {k k' : Nat} {v : V} {cv : Value} (p : H.Perm H1) (O : Out fr F ι H1 k w ι' v cv H' k' w') : Out fr F ι H k w ι' v cv H' k' w' :=
 ⟨⟨(Kept.perm p).trans O.ext.kept, O.ext.le, O.ext.same, fun n h => (O.ext.dom n h).imp (fun h => (p.map _).mem_iff.2 h) id⟩, O.rep, O.fresh, O.val⟩
theorem Fn.frame {f : FuncId} {args : List V} {H Hf G : Heap} {k : Nat} {R K : V → Heap → Nat → Prop} (h : Fn P f args Hf k R) (p : H.Perm (Hf ++ G))
    (hk : ∀ v H' k', k ≤ k' → R v H' k' → K v (H' ++ G) k') : Fn P f args H k K := by
  refine ⟨h.enters, fun F ι w cargs h1 h2 h3 => ?_⟩
  have R' := h2.perm p
  have e : Own F ι H = Own (Fr F ι G) ι Hf := by
    rw [← own_split_eq]; exact funext fun b => propext ⟨fun h => h.imp id (OwnH.perm p b).1, fun h => h.imp id (OwnH.perm p b).2⟩
  rw [e] at h1
  refine (h.calls (Fr F ι G) ι w cargs h1 R'.lend h3).mono ?_
  rintro e w' ⟨ι', v, cv, H', k', he, hr, hO⟩
  exact ⟨ι', v, cv, H' ++ G, k', he, hk v H' k' hO.ext.le hr, Out.perm_in p (Out.frame R' (fun n _ => h3 n) hO)⟩
end
end Go.Sl
namespace Go.Sl
variable [Md]
inductive D where
 | int (k : IntKind)
 | bool
 | string
 | slice (e : TypeId)
 | array (n : Nat) (e : TypeId)
 | struct (fs : List (TypeId × Nat × Nat))
 | pointer (e : TypeId)
 | map (k e : TypeId)
 | func
 | tuple
 | other
def D.of (P : Program) : TypeDesc → D
 | .int k => .int k
 | .bool => .bool
 | .string => .string
 | .slice e => .slice e
 | .array n e => .array n e
 | .struct fs => .struct (fs.toList.map fun f => (f.type, f.offset, P.cellsOf f.type))
 | .pointer e => .pointer e
 | .map k e => .map k e
 | .func _ _ _ => .func
 | .tuple _ => .tuple
 | _ => .other
structure TI where
 d : D
 size : Nat
 bytes : Nat
 zero : List Value
abbrev Tab := Nat → Option TI
def valAgg : Value → Bool
 | .agg _ => true
 | _ => false
def descAgg : TypeDesc → Bool
 | .struct _ | .array .. => true
 | _ => false
def plainD (P : Program) (t : TypeId) : TypeDesc → Bool
 | .struct fs => !P.stoodInHeld t && fs.toList.all fun f => f.name != "_"
 | _ => true
def tiOf (P : Program) (t : TypeId) : Option TI :=
 match P.underlying t, P.info? t with
 | some d, some i =>
  match i.zero with
  | some z => if (z.cells.size == i.size && z.cells.all (·.oneCell') && (valAgg z == descAgg d) && plainD P t d) = true then some ⟨D.of P d, i.size, i.bytes, z.cells.toList⟩ else none
  | none => none
 | _, _ => none
def TabOk (P : Program) (T : Tab) : Prop := ∀ t ti, T t = some ti → tiOf P t = some ti
def TI.agg (ti : TI) : Bool := match ti.d with | .struct _ | .array .. => true | _ => false
def TI.zeroV (ti : TI) : V := if ti.agg then .agg (ti.zero.map .val) else (ti.zero.map V.val).headD .any
omit [Md] in
theorem tiOf_spec {P : Program} {t : TypeId} {ti : TI} (h : tiOf P t = some ti) : ∃ d i z, P.underlying t = some d ∧ P.info? t = some i ∧ i.zero = some z ∧ z.cells.size = i.size ∧ z.cells.all (·.oneCell') = true ∧
    ti.d = D.of P d ∧ ti.size = i.size ∧ ti.bytes = i.bytes ∧ ti.zero = z.cells.toList ∧ valAgg z = descAgg d := by
  unfold tiOf at h
  split at h
  · rename_i d i hd hi
    split at h
    · rename_i z hz
      split at h
      · rename_i hc
        simp only [Bool.and_eq_true, beq_iff_eq] at hc
        cases h
        exact ⟨d, i, z, hd, hi, hz, hc.1.1.1, hc.1.1.2, rfl, rfl, rfl, rfl, hc.1.2⟩
      · cases h
    · cases h
  · cases h
omit [Md] in
theorem tiOf_plain {P : Program} {t : TypeId} {ti : TI} (h : tiOf P t = some ti) {d : TypeDesc} (hd : P.underlying t = some d) : plainD P t d = true := by
 unfold tiOf at h
 rw [hd] at h
 split at h
 ·rename_i d' i hd' hi
  cases hd'
  split at h
  ·split at h
   ·rename_i hc
    simp only [Bool.and_eq_true, beq_iff_eq] at hc
    exact hc.2
   ·cases h
  ·cases h
 ·cases h
section
variable {fr : Nat → Prop} {F : Nat → Prop} {ι ι' : Names} {O : Nat → Prop} {σ σ' : St} {a a' : Act} {w w' : World} {P : Program} {T : Tab}
omit [Md] in
theorem run_isAgg {t : TypeId} {ti : TI} (h : tiOf P t = some ti) (w : World) : (isAgg t).run P w = .ok ti.agg w := by
 obtain ⟨d, i, z, hd, hi, hz, _, _, h1, _⟩ := tiOf_spec h
 unfold isAgg TI.agg
 rw [h1]
 cases d <;> simp [run_underlying hd, D.of]
omit [Md] in
theorem run_sizeOf {t : TypeId} {ti : TI} (h : tiOf P t = some ti) (w : World) : (sizeOf t).run P w = .ok ti.size w := by
 obtain ⟨d, i, z, hd, hi, hz, _, _, h1, h2, _⟩ := tiOf_spec h
 simp [sizeOf, typeInfo, hi, h2]
omit [Md] in
theorem run_typeInfo {t : TypeId} {ti : TI} (h : tiOf P t = some ti) (w : World) : ∃ i z, (typeInfo t).run P w = .ok i w ∧ P.info? t = some i ∧ i.size = ti.size ∧ i.bytes = ti.bytes ∧ i.zero = some z ∧ z.cells.toList = ti.zero := by
 obtain ⟨d, i, z, hd, hi, hz, _, _, h1, h2, h3, h4, _⟩ := tiOf_spec h
 exact ⟨i, z, by simp [typeInfo, hi], hi, h2.symm, h3.symm, hz, h4.symm⟩
omit [Md] in
theorem run_zeroValue {t : TypeId} {ti : TI} (h : tiOf P t = some ti) (w : World) : ∃ z, (zeroValue t).run P w = .ok z w ∧ z.cells.toList = ti.zero ∧ z.cells.size = ti.size := by
 obtain ⟨d, i, z, hd, hi, hz, hs, _, h1, h2, h3, h4, _⟩ := tiOf_spec h
 exact ⟨z, by simp [zeroValue, typeInfo, hi, hz], h4.symm, by rw [hs, h2]⟩
omit [Md] in
theorem zero_oneCell {t : TypeId} {ti : TI} (h : tiOf P t = some ti) : (∀ v ∈ ti.zero, v.oneCell' = true) ∧ ti.zero.length = ti.size := by
 obtain ⟨d, i, z, hd, hi, hz, hs, ha, h1, h2, h3, h4, _⟩ := tiOf_spec h
 rw [h4, h2]
 refine ⟨fun v hv => ?_, by simpa using hs⟩
 rw [Array.all_eq_true_iff_forall_mem] at ha
 exact ha v (by simpa using hv)
omit [Md] in
theorem VRels.vals : ∀ {xs : List Value}, (∀ v ∈ xs, v.oneCell' = true) → VRels ι O w (xs.map .val) xs
 | [], _ => .nil
 | x :: xs, h => .cons (.val x (h x (by simp))) (VRels.vals fun v hv => h v (by simp [hv]))
omit [Md] in
theorem zeroV_cells {t : TypeId} {ti : TI} (h : tiOf P t = some ti) : ti.zeroV.cells = ti.zero.map .val := by
 obtain ⟨d, i, z, hd, hi, hz, hs, ha, h1, h2, h3, h4, h5⟩ := tiOf_spec h
 unfold TI.zeroV
 by_cases hg : ti.agg = true
 ·rw [if_pos hg]; rfl
 ·rw [if_neg hg]
  have hz' : valAgg z = false := by
   rw [h5]
   unfold TI.agg at hg
   rw [h1] at hg
   cases d <;> simp_all [D.of, descAgg]
  have : z.cells = #[z] := by cases z <;> simp_all [Value.cells, valAgg]
  rw [h4, this]
  rfl
omit [Md] in
theorem zeroV_fits {t : TypeId} {ti : TI} (h : tiOf P t = some ti) : ti.zeroV.fits ti.size = true := by
 unfold V.fits
 rw [zeroV_cells h]
 rw [List.length_map, (zero_oneCell h).2]
 simp [V.one]
omit [Md] in
theorem fits_iff {sz : Nat} {v : V} : v.fits sz = true ↔ v.cells.length = sz ∧ ∀ c ∈ v.cells, c.one = true := by simp [V.fits]
omit [Md] in
theorem oneCells {vs : List V} {xs : List Value} (h : VRels ι O w vs xs) (h1 : ∀ c ∈ vs, c.one = true) : ∀ x ∈ xs, x.oneCell' = true := by
 induction vs generalizing xs with
 | nil => cases h; simp
 | cons v vs ih =>
  cases h with
  | cons h hs =>
   intro x hx
   cases hx with
   | head => exact h.oneCell (h1 v (by simp))
   | tail _ hx => exact ih hs (fun c hc => h1 c (by simp [hc])) x hx
theorem opT_run {o : Oper} {K : V → Heap → Nat → Prop} (h : ∀ F ι a w, Holds fr F ι σ a w → ∃ ι' v cv H' k' w', (execOp a.eval o).run P w = .ok (.value cv) w' ∧ K v H' k' ∧ Out fr F ι σ.H σ.k w ι' v cv H' k' w') : OpT fr P o σ K := by
 intro F ι a w hh next Q hn
 obtain ⟨ι', v, cv, H', k', w', hr, hk, hO⟩ := h F ι a w hh
 unfold Oper.wp
 rw [hr]
 exact hn ι' v cv H' k' w' hk hO
theorem opT_skip {o : Oper} {K : V → Heap → Nat → Prop} (h : ∀ F ι a w, Holds fr F ι σ a w → ∃ ι' v H' k' w', (execOp a.eval o).run P w = .ok .skip w' ∧ K v H' k' ∧ Out fr F ι σ.H σ.k w ι' v undef H' k' w') : OpT fr P o σ K := by
 intro F ι a w hh next Q hn
 obtain ⟨ι', v, H', k', w', hr, hk, hO⟩ := h F ι a w hh
 unfold Oper.wp
 rw [hr]
 exact hn ι' v undef H' k' w' hk hO
theorem Holds.same (h : Holds fr F ι σ a w) {v : V} {cv : Value} (hv : VRel ι (Own F ι σ.H) w v cv) : Out fr F ι σ.H σ.k w ι v cv σ.H σ.k w :=
 ⟨Ext.refl _ _ _ _ _, h.rep, h.fresh, hv⟩
theorem opT_pure {o : Oper} {K : V → Heap → Nat → Prop} {v : V} (hk : K v σ.H σ.k)
    (h : ∀ F ι a w, Holds fr F ι σ a w → ∃ cv, (execOp a.eval o).run P w = .ok (.value cv) w ∧ VRel ι (Own F ι σ.H) w v cv) : OpT fr P o σ K :=
  opT_run fun F ι a w hh => by
    obtain ⟨cv, hr, hv⟩ := h F ι a w hh
    exact ⟨ι, v, cv, σ.H, σ.k, w, hr, hk, hh.same hv⟩
omit [Md] in
theorem VRel.inv_bool {b : Bool} {x : Value} (h : VRel ι O w (.val (.bool b)) x) : x = .bool b := by cases h; rfl
omit [Md] in
theorem VRel.inv_val {u x : Value} (h : VRel ι O w (.val u) x) : x = u := by cases h; rfl
theorem op_move {o : Oper} {K : V → Heap → Nat → Prop} (x : Operand) (ho : o.op = .move x ∨ o.op = .assign x) (hk : K (evalV σ.t x) σ.H σ.k) : OpT fr P o σ K :=
 opT_pure hk fun F ι a w hh => ⟨a.eval x, by unfold execOp; rcases ho with ho | ho <;> rw [ho] <;> rfl, hh.eval x⟩
theorem op_pick {o : Oper} {K : V → Heap → Nat → Prop} (c x y : Operand) (ho : o.op = .pick c x y) {b : Bool} (hc : evalV σ.t c = .val (.bool b)) (ht : b = true → K (evalV σ.t x) σ.H σ.k) (hf : b = false → K (evalV σ.t y) σ.H σ.k) : OpT fr P o σ K := by
  cases b with
  | true => exact opT_pure (ht rfl) fun F ι a w hh => ⟨a.eval x, by
      have := hh.eval c; rw [hc] at this
      unfold execOp; rw [ho]; simp [this.inv_bool, asBool], hh.eval x⟩
  | false => exact opT_pure (hf rfl) fun F ι a w hh => ⟨a.eval y, by
      have := hh.eval c; rw [hc] at this
      unfold execOp; rw [ho]; simp [this.inv_bool, asBool], hh.eval y⟩
theorem out_newRow (hfr : fr σ.k) (hh : Holds fr F ι σ a w) (e : TypeId) (sz : Nat) (es : List V) (hfit : ∀ v ∈ es, v.fits sz = true) (c : Array Value) (hc : es.length * sz ≤ c.size)
    (hv : VRels ι (Own F ι σ.H) w (es.flatMap V.cells) (c.toList.take (es.length * sz))) (w0 : World) (hw0 : w0.heap = w.heap) (hos : w0.os = w.os) (htp : Tp w w0) (hou : w0.output = w.output)
    {v : V} {cv : Value} (hcv : ∀ ι', ι' σ.k = some ⟨w.heap.size, 0, sz, c.size, false, false⟩ → VRel ι' (Own F ι' ((σ.k, .rows sz es) :: σ.H)) (w0.alloc (.cells c e)) v cv) :
    Out fr F ι σ.H σ.k w (upd ι σ.k ⟨w.heap.size, 0, sz, c.size, false, false⟩) v cv ((σ.k, .rows sz es) :: σ.H) (σ.k + 1) (w0.alloc (.cells c e)) := by
  have hk := hh.fresh σ.k hfr (Nat.le_refl _)
  have hhp : ∀ i, i < w.heap.size → (w0.alloc (.cells c e)).heap[i]? = w.heap[i]? := fun i hi => by
    rw [← hw0] at hi ⊢; exact heap_alloc_old w0 _ i hi
  have hsz : (w0.alloc (.cells c e)).heap.size = w.heap.size + 1 := by rw [World.size_alloc, hw0]
  refine ⟨⟨kept_alloc hh.rep hk _ _ rfl hos htp hou (by omega) hhp, Nat.le_succ _, fun n hn => upd_other _ _ _ _ (fun e => by subst e; have := hn hfr; omega), ?_⟩, ?_, ?_, hcv _ (upd_same _ _ _)⟩
  · intro n hn
    simp only [List.map_cons, List.mem_cons] at hn
    rcases hn with hn | hn
    · subst hn; exact .inr ⟨hfr, by omega⟩
    · exact .inl hn
  · refine hh.rep.alloc hk _ _ rfl hos htp hou (by omega) hhp fun ι' O' S => ⟨rfl, rfl, hfit, .inr ⟨rfl, c, e, ?_, rfl, by simpa using hc, ?_⟩⟩
    · show (w0.alloc _).heap[w.heap.size]? = _
      rw [← hw0]; exact heap_alloc_new w0 _
    · simpa using hv.stays S
  · intro n hf hn
    rw [upd_other _ _ _ _ (by omega)]
    exact hh.fresh n hf (by omega)
omit [Md] in
theorem flatMap_one (v : V) : [v].flatMap V.cells = v.cells := by simp
theorem out_newVar (hfr : fr σ.k) (hh : Holds fr F ι σ a w) (e : TypeId) (sz : Nat) (v : V) (x : Value) (hfit : v.fits sz = true) (hv : VRel ι (Own F ι σ.H) w v x) :
    Out fr F ι σ.H σ.k w (upd ι σ.k ⟨w.heap.size, 0, sz, x.cells.size, false, false⟩) (.ptr σ.k 0 0) (.pointer (some ⟨w.heap.size, 0, none⟩)) ((σ.k, .rows sz [v]) :: σ.H) (σ.k + 1) (w.alloc (.cells x.cells e)) := by
  have hf := fits_iff.1 hfit
  have hany : v.isAny = false := by
    cases v <;> simp_all [V.isAny, V.cells, V.one]
  have hc := hv.cells hany
  have hl := hc.length
  have hsz : x.cells.size = sz := by rw [← Array.length_toList, ← hl, hf.1]
  refine out_newRow hfr hh e sz [v] (by simpa using hfit) x.cells (by simp [hsz]) ?_ w rfl rfl (Tp.refl _) rfl ?_
  · simpa [hsz, List.take_of_length_le (show x.cells.toList.length ≤ sz by simp [hsz])] using hc
  · intro ι' h; exact .ptr h rfl rfl (by simp)
theorem op_box (hfr : fr σ.k) {o : Oper} {K : V → Heap → Nat → Prop} (e : TypeId) (x : Operand) (ho : o.op = .box e x) {ti : TI} (hti : tiOf P e = some ti) (hfit : (evalV σ.t x).fits ti.size = true)
    (hk : K (.ptr σ.k 0 0) ((σ.k, .rows ti.size [evalV σ.t x]) :: σ.H) (σ.k + 1)) : OpT fr P o σ K :=
  opT_run fun F ι a w hh => ⟨_, _, _, _, _, _, by
    unfold execOp; rw [ho]
    simp [Instr.box, newVar, newRow], hk, out_newVar hfr hh e ti.size _ _ hfit (hh.eval x)⟩
theorem op_alloc (hfr : fr σ.k) {o : Oper} {K : V → Heap → Nat → Prop} (e : TypeId) (ho : o.op = .alloc e) {ti : TI} (hti : tiOf P e = some ti)
    (hk : K (.ptr σ.k 0 0) ((σ.k, .rows ti.size [ti.zeroV]) :: σ.H) (σ.k + 1)) : OpT fr P o σ K :=
  opT_run fun F ι a w hh => by
    obtain ⟨z, hz, hzc, hzs⟩ := run_zeroValue hti w
    have hv : VRels ι (Own F ι σ.H) w ti.zeroV.cells z.cells.toList := by
      rw [zeroV_cells hti, hzc]; exact VRels.vals (zero_oneCell hti).1
    refine ⟨_, _, _, _, _, _, ?_, hk, out_newRow hfr hh e ti.size [ti.zeroV] (by simpa using zeroV_fits hti) z.cells (by simp [hzs]) (cv := .pointer (some ⟨w.heap.size, 0, none⟩)) ?_ w rfl rfl (Tp.refl _) rfl ?_⟩
    · unfold execOp; rw [ho]
      simp [Instr.alloc, newVar, newRow, hz]
    · simpa [hzs, List.take_of_length_le (show z.cells.toList.length ≤ ti.size by simp [hzs])] using hv
    · intro ι' h; exact .ptr h rfl rfl (by simp)
end
end Go.Sl
namespace Go.Sl
variable [Md]
def cut (j n : Nat) (cs : List V) : List V := (cs.drop j).take n
omit [Md] in
theorem cut_all {cs : List V} {n : Nat} (h : cs.length = n) : cut 0 n cs = cs := by simp [cut, List.take_of_length_le (Nat.le_of_eq h)]
def partV (agg : Bool) (n : Nat) (cs : List V) (j : Nat) : V := if agg then .agg (cut j n cs) else cs.getD j .any
def splice {α : Type} (cs : List α) (o : Nat) (us : List α) : List α := cs.take o ++ (us ++ cs.drop (o + us.length))
omit [Md] in
theorem length_splice {α : Type} (cs : List α) (o : Nat) (us : List α) (h : o + us.length ≤ cs.length) : (splice cs o us).length = cs.length := by
 simp only [splice, List.length_append, List.length_take, List.length_drop]; omega
omit [Md] in
theorem splice_all {α : Type} {cs us : List α} (h : us.length = cs.length) : splice cs 0 us = us := by
 simp [splice, List.drop_of_length_le (Nat.le_of_eq h.symm)]
omit [Md] in
theorem mem_splice {α : Type} {cs us : List α} {o : Nat} {x : α} (h : x ∈ splice cs o us) : x ∈ cs ∨ x ∈ us := by
 simp only [splice, List.mem_append] at h
 rcases h with h | h | h
 ·exact .inl (List.mem_of_mem_take h)
 ·exact .inr h
 ·exact .inl (List.mem_of_mem_drop h)
omit [Md] in
theorem getElem?_splice {α : Type} (cs us : List α) (o q : Nat) (h : o + us.length ≤ cs.length) : (splice cs o us)[q]? = if o ≤ q ∧ q < o + us.length then us[q - o]? else cs[q]? := by
 unfold splice
 have hl : (cs.take o).length = o := by rw [List.length_take]; omega
 by_cases h1 : q < o
 ·rw [List.getElem?_append_left (by omega), List.getElem?_take, if_pos h1, if_neg (by omega)]
 ·rw [List.getElem?_append_right (by omega), hl]
  by_cases h2 : q < o + us.length
  ·rw [List.getElem?_append_left (by omega), if_pos ⟨by omega, h2⟩]
  ·rw [List.getElem?_append_right (by omega), List.getElem?_drop, if_neg (by omega)]
   congr 1; omega
omit [Md] in
theorem splice_window {α : Type} (c ys : List α) (o m q off : Nat) (h : off = o + q) (h1 : q + ys.length ≤ m) (h2 : o + m ≤ c.length) : ((splice c off ys).drop o).take m = splice ((c.drop o).take m) q ys := by
 have hl : ((c.drop o).take m).length = m := by rw [List.length_take, List.length_drop]; omega
 apply List.ext_getElem?
 intro r
 rw [getElem?_splice ((c.drop o).take m) ys q r (by rw [hl]; exact h1)]
 simp only [List.getElem?_take, List.getElem?_drop]
 rw [getElem?_splice c ys off (o + r) (by omega)]
 by_cases hr : r < m
 ·simp only [hr, if_true]
  by_cases hr2 : q ≤ r ∧ r < q + ys.length
  ·rw [if_pos (by omega), if_pos hr2]; congr 1; omega
  ·rw [if_neg (by omega), if_neg hr2]
 ·simp only [hr, if_false]
  rw [if_neg (by omega)]
def putPart (v : V) (j : Nat) (u : V) : V :=
 match v with
 | .agg cs => .agg (splice cs j u.cells)
 | _ => u
section
variable {fr : Nat → Prop} {F : Nat → Prop} {ι ι' : Names} {O : Nat → Prop} {H : Heap} {σ σ' : St} {a a' : Act} {w w' : World} {P : Program} {T : Tab}
omit [Md] in
theorem VRels.splice {cs us : List V} {xs ys : List Value} (h : VRels ι O w cs xs) (h' : VRels ι O w us ys) (o : Nat) : VRels ι O w (splice cs o us) (splice xs o ys) := by
 unfold Sl.splice
 rw [h'.length]
 exact (h.take o).append (h'.append (h.drop _))
omit [Md] in
theorem flatMap_drop {es : List V} {sz : Nat} (h : ∀ v ∈ es, v.cells.length = sz) (i : Nat) : (es.flatMap V.cells).drop (i * sz) = (es.drop i).flatMap V.cells := by
 induction es generalizing i with
 | nil => simp
 | cons v es ih =>
  cases i with
  | zero => simp
  | succ i =>
   have hv := h v (by simp)
   rw [List.flatMap_cons, List.drop_append, hv, List.drop_succ_cons, ← ih (fun v hv => h v (by simp [hv])) i]
   rw [List.drop_of_length_le (by rw [hv, Nat.add_mul]; omega), List.nil_append]
   congr 1
   rw [Nat.add_mul]; omega
omit [Md] in
theorem length_flatMap_cells {es : List V} {sz : Nat} (h : ∀ v ∈ es, v.cells.length = sz) : (es.flatMap V.cells).length = es.length * sz := by
 induction es with
 | nil => simp
 | cons v es ih => rw [List.flatMap_cons, List.length_append, h v (by simp), ih (fun v hv => h v (by simp [hv])), List.length_cons, Nat.add_mul]; omega
omit [Md] in
theorem flatMap_take {es : List V} {sz : Nat} (h : ∀ v ∈ es, v.cells.length = sz) (i : Nat) : (es.flatMap V.cells).take (i * sz) = (es.take i).flatMap V.cells := by
 induction es generalizing i with
 | nil => simp
 | cons v es ih =>
  cases i with
  | zero => simp
  | succ i =>
   have hv := h v (by simp)
   rw [List.flatMap_cons, List.take_append, hv, List.take_succ_cons, List.flatMap_cons, ← ih (fun v hv => h v (by simp [hv])) i]
   rw [List.take_of_length_le (by rw [hv, Nat.add_mul]; omega)]
   congr 2
   rw [Nat.add_mul]; omega
omit [Md] in
theorem flatMap_elem {es : List V} {sz i : Nat} {v : V} (h : ∀ v ∈ es, v.cells.length = sz) (hv : es[i]? = some v) : ((es.flatMap V.cells).drop (i * sz)).take sz = v.cells := by
 rw [flatMap_drop h]
 have hlt := (List.getElem?_eq_some_iff.1 hv).1
 have e : es.drop i = v :: es.drop (i + 1) := by
  rw [List.drop_eq_getElem_cons hlt]
  congr 1
  exact (List.getElem?_eq_some_iff.1 hv).2
 rw [e, List.flatMap_cons, List.take_append, h v (List.mem_of_getElem? hv)]
 simp [List.take_of_length_le (Nat.le_of_eq (h v (List.mem_of_getElem? hv)))]
omit [Md] in
theorem flatMap_set {es : List V} {sz i : Nat} {v : V} (h : ∀ v ∈ es, v.cells.length = sz) (hi : i < es.length) (hv : v.cells.length = sz) :
    (es.set i v).flatMap V.cells = splice (es.flatMap V.cells) (i * sz) v.cells := by
  unfold splice
  rw [hv, ← Nat.succ_mul, flatMap_drop h, flatMap_take h]
  rw [List.set_eq_take_append_cons_drop, if_pos hi]
  simp
omit [Md] in
theorem Rep.block (R : Rep F ι H w) {n sz : Nat} {es : List V} (h : look n H = some (.rows sz es)) {l : Loc} (hl : ι n = some l) (hg : l.ghost = false) :
    l.sz = sz ∧ l.map = false ∧ (∀ v ∈ es, v.fits sz = true) ∧ l.b < w.heap.size ∧ ¬ F l.b ∧ ∃ c e, w.heap[l.b]? = some (.cells c e (0, 0)) ∧ c.size = l.size ∧ l.o + es.length * sz ≤ c.size ∧
      VRels ι (Own F ι H) w (es.flatMap V.cells) ((c.toList.drop l.o).take (es.length * sz)) := by
  obtain ⟨l', hl', ⟨h1, h2, h3, h4⟩, h5⟩ := R.known h
  rw [hl] at hl'; cases hl'
  rcases h4 with ⟨h4, _⟩ | ⟨_, c, e, hw, hc, ho, hv⟩
  · rw [hg] at h4; cases h4
  · exact ⟨h1, h2, h3, (h5 hg).1, (h5 hg).2, c, e, hw, hc, ho, hv⟩
omit [Md] in
theorem cell_of_block {b off : Nat} {c : Array Value} {e : TypeId} {fr : Nat × Nat} (hw : w.heap[b]? = some (.cells c e fr)) (q : Nat) : w.cell? ((⟨b, off, none⟩ : Addr).add q) = c[off + q]? := by
 rw [Addr.add_lit, cell_of_row w b (off + q) c e fr hw]
omit [Md] in
theorem cells_at {b off n : Nat} {c : Array Value} {e : TypeId} {fr : Nat × Nat} (hw : w.heap[b]? = some (.cells c e fr)) : ∀ q v, ((c.toList.drop off).take n)[q]? = some v → w.cell? ((⟨b, off, none⟩ : Addr).add q) = some v := by
 intro q v h
 rw [cell_of_block hw]
 rw [List.getElem?_take] at h
 split at h
 ·rw [List.getElem?_drop] at h; simpa using h
 ·cases h
omit [Md] in
theorem run_loadVar_at {t : TypeId} {ti : TI} (hti : tiOf P t = some ti) {b off : Nat} {c : Array Value} {e : TypeId} {fr : Nat × Nat} (hw : w.heap[b]? = some (.cells c e fr)) (hin : off + ti.size ≤ c.size)
    {cs : List V} (hv : VRels ι O w cs ((c.toList.drop off).take ti.size)) : ∃ x, (loadVar t ⟨b, off, none⟩).run P w = .ok x w ∧ VRel ι O w (partV ti.agg ti.size cs 0) x := by
  have hl : ((c.toList.drop off).take ti.size).length = ti.size := by simp; omega
  unfold loadVar partV
  by_cases hg : ti.agg = true
  · refine ⟨.agg ((c.toList.drop off).take ti.size).toArray, ?_, ?_⟩
    · have := run_loadCells_list (P := P) w ⟨b, off, none⟩ ((c.toList.drop off).take ti.size) (cells_at hw)
      rw [hl] at this
      simp [run_isAgg hti, run_sizeOf hti, hg, this]
    · rw [if_pos hg, cut_all (by rw [hv.length, hl])]
      exact .agg hv
  · have h1 : ti.size = 1 := by
      have := zeroV_cells hti
      have h2 := (zero_oneCell hti).2
      unfold TI.zeroV at this
      rw [if_neg hg] at this
      cases hz : ti.zero with
      | nil => rw [hz] at this; simp [V.cells] at this
      | cons z zs =>
        rw [hz] at this h2
        simp [V.cells] at this
        rw [this] at h2
        simpa using h2.symm
    rw [if_neg hg]
    obtain ⟨x, hx⟩ : ∃ x, c[off]? = some x := ⟨_, Array.getElem?_eq_getElem (by omega)⟩
    have hc0 := cell_of_block (off := off) hw 0
    rw [Addr.add_zero', Nat.add_zero, hx] at hc0
    refine ⟨x, by simp [run_isAgg hti, hg, hc0], ?_⟩
    have hxs : ((c.toList.drop off).take ti.size)[0]? = some x := by
      rw [List.getElem?_take, if_pos (by omega), List.getElem?_drop]; simpa using hx
    have h0 : cs.length = 1 := by rw [hv.length, hl, h1]
    obtain ⟨u, hu⟩ : ∃ u, cs[0]? = some u := ⟨_, List.getElem?_eq_getElem (by omega)⟩
    obtain ⟨y, hy, hvy⟩ := hv.get 0 u hu
    rw [hxs] at hy; cases hy
    simpa [List.getD, hu] using hvy
omit [Md] in
theorem size_pos_of_scalar {t : TypeId} {ti : TI} (hti : tiOf P t = some ti) (hg : ¬ ti.agg = true) : 0 < ti.size := by
 have h2 := (zero_oneCell hti).2
 rcases Nat.eq_zero_or_pos ti.size with h0 | h0
 ·exfalso
  have := zeroV_cells hti
  unfold TI.zeroV at this; rw [if_neg hg] at this
  rw [h0] at h2
  rw [List.eq_nil_of_length_eq_zero h2] at this
  simp [V.cells] at this
 ·exact h0
omit [Md] in
theorem partV_of {t : TypeId} {ti : TI} (hti : tiOf P t = some ti) {cs : List V} {j : Nat} {y : Value} (h : VRel ι O w (partV ti.agg ti.size ((cs.drop j).take ti.size) 0) y) : VRel ι O w (partV ti.agg ti.size cs j) y := by
 unfold partV at h ⊢
 split
 ·rename_i hg'; rw [if_pos hg'] at h; simpa [cut, List.take_take] using h
 ·rename_i hg'; rw [if_neg hg'] at h
  have := size_pos_of_scalar hti hg'
  simpa [List.getD, List.getElem?_take, List.getElem?_drop, this] using h
omit [Md] in
theorem run_load_ptr (R : Rep F ι H w) {t : TypeId} {ti : TI} (hti : tiOf P t = some ti) {n i j sz : Nat} {es : List V} {cx : Value} (hx : VRel ι (Own F ι H) w (.ptr n i j) cx)
    (hn : look n H = some (.rows sz es)) (hi : i < es.length) (hj : j + ti.size ≤ sz) :
    ∃ ad y, cx = .pointer (some ad) ∧ (loadVar t ad).run P w = .ok y w ∧ VRel ι (Own F ι H) w (partV ti.agg ti.size (es.getD i .any).cells j) y := by
  cases hx with
  | ptr hl hg hm hoff =>
    rename_i off l
    obtain ⟨h1, h2, h3, h4, h5, c, e, hw, hc, hlen, hv⟩ := R.block hn hl hg
    have hcl : ∀ v ∈ es, v.cells.length = sz := fun v hv => (fits_iff.1 (h3 v hv)).1
    obtain ⟨v, hvi⟩ : ∃ v, es[i]? = some v := ⟨_, List.getElem?_eq_getElem hi⟩
    have hd : es.getD i .any = v := by simp [List.getD, hvi]
    have hmul : i * sz + sz ≤ es.length * sz := by rw [← Nat.succ_mul]; exact Nat.mul_le_mul_right _ hi
    have hel := (hv.drop (i * sz)).take sz
    rw [flatMap_elem hcl hvi] at hel
    have hpart := (hel.drop j).take ti.size
    have hin : off + ti.size ≤ c.size := by rw [hoff, h1]; omega
    have hlist : (((((c.toList.drop l.o).take (es.length * sz)).drop (i * sz)).take sz).drop j).take ti.size = (c.toList.drop off).take ti.size := by
      apply List.ext_getElem?
      intro q
      simp only [List.getElem?_take, List.getElem?_drop]
      by_cases hq : q < ti.size
      · simp only [hq, if_true, show j + q < sz by omega, show i * sz + (j + q) < es.length * sz by omega]
        congr 1; rw [hoff, h1]; omega
      · simp [hq]
    rw [hlist] at hpart
    obtain ⟨y, hy, hvy⟩ := run_loadVar_at hti hw hin hpart
    exact ⟨_, y, rfl, hy, by rw [hd]; exact partV_of hti hvy⟩
omit [Md] in
theorem run_load_rp {t : TypeId} {ti : TI} (hti : tiOf P t = some ti) {j : Nat} {cs : List V} {cx : Value} (hx : VRel ι O w (.rp cs j) cx) (hj : j + ti.size ≤ cs.length) :
    ∃ ad y, cx = .pointer (some ad) ∧ (loadVar t ad).run P w = .ok y w ∧ VRel ι O w (partV ti.agg ti.size cs j) y := by
  cases hx with
  | rp hb hO hw hsz hin hvs hv hoff =>
    rename_i b off off' c e fr vs
    subst hvs
    have hpart := (hv.drop j).take ti.size
    have hlist : (((c.toList.drop off).take cs.length).drop j).take ti.size = (c.toList.drop off').take ti.size := by
      apply List.ext_getElem?
      intro q
      simp only [List.getElem?_take, List.getElem?_drop]
      by_cases hq : q < ti.size
      · simp only [hq, if_true, show j + q < cs.length by omega]
        congr 1; rw [hoff]; omega
      · simp [hq]
    rw [hlist] at hpart
    obtain ⟨y, hy, hvy⟩ := run_loadVar_at hti hw (by omega) hpart
    exact ⟨_, y, rfl, hy, partV_of hti hvy⟩
theorem op_load_ptr {o : Oper} {K : V → Heap → Nat → Prop} (t : TypeId) (x : Operand) (ho : o.op = .load t x) {ti : TI} (hti : tiOf P t = some ti) {n i j sz : Nat} {es : List V} (hx : evalV σ.t x = .ptr n i j)
    (hn : look n σ.H = some (.rows sz es)) (hi : i < es.length) (hj : j + ti.size ≤ sz) (hk : K (partV ti.agg ti.size (es.getD i .any).cells j) σ.H σ.k) : OpT fr P o σ K :=
  opT_pure hk fun F ι a w hh => by
    have he := hh.eval x
    rw [hx] at he
    obtain ⟨ad, y, h1, h2, h3⟩ := run_load_ptr (P := P) hh.rep hti he hn hi hj
    refine ⟨y, ?_, h3⟩
    unfold execOp; rw [ho]; simp [h1, Instr.loadAt, Instr.sureAddr, h2]
theorem op_load_rp {o : Oper} {K : V → Heap → Nat → Prop} (t : TypeId) (x : Operand) (ho : o.op = .load t x) {ti : TI} (hti : tiOf P t = some ti) {j : Nat} {cs : List V} (hx : evalV σ.t x = .rp cs j)
    (hj : j + ti.size ≤ cs.length) (hk : K (partV ti.agg ti.size cs j) σ.H σ.k) : OpT fr P o σ K :=
  opT_pure hk fun F ι a w hh => by
    have he := hh.eval x
    rw [hx] at he
    obtain ⟨ad, y, h1, h2, h3⟩ := run_load_rp (P := P) hti he hj
    refine ⟨y, ?_, h3⟩
    unfold execOp; rw [ho]; simp [h1, Instr.loadAt, Instr.sureAddr, h2]
omit [Md] in
theorem splice_one (x : V) {j : Nat} {us : List V} (h : j + us.length ≤ 1) (h0 : 0 < us.length) : us = splice [x] j us := by
 have hj : j = 0 := by omega
 subst hj
 rw [splice_all (by simp; omega)]
omit [Md] in
theorem putPart_cells {v u : V} {j : Nat} (h : j + u.cells.length ≤ v.cells.length) (h0 : 0 < u.cells.length) : (putPart v j u).cells = splice v.cells j u.cells := by
 cases v with
 | agg cs => rfl
 | _ => exact splice_one _ h h0
theorem op_store_ptr {o : Oper} {K : V → Heap → Nat → Prop} (t : TypeId) (x y : Operand) (ho : o.op = .store t x y) {ti : TI} (hti : tiOf P t = some ti) {n i j sz : Nat} {es : List V} (hx : evalV σ.t x = .ptr n i j)
    (hn : look n σ.H = some (.rows sz es)) (hi : i < es.length) (h0 : 0 < ti.size) (hj : j + ti.size ≤ sz) (hfit : (evalV σ.t y).fits ti.size = true)
    (hk : K (.tup []) (put n (.rows sz (es.set i (putPart (es.getD i .any) j (evalV σ.t y)))) σ.H) σ.k) : OpT fr P o σ K :=
  opT_skip fun F ι a w hh => by
    have he := hh.eval x
    have hy := hh.eval y
    rw [hx] at he
    generalize hcv : a.eval x = cv at he
    generalize hcy : a.eval y = cy at hy
    generalize evalV σ.t y = u at hfit hk hy
    have hf := fits_iff.1 hfit
    have hany : u.isAny = false := by cases u <;> simp_all [V.isAny, V.cells, V.one]
    have hyc := hy.cells hany
    have hyl : cy.cells.size = ti.size := by rw [← Array.length_toList, ← hyc.length, hf.1]
    have hy1 := oneCells hyc hf.2
    cases he with
    | ptr hl hg hm hoff =>
      rename_i off l
      obtain ⟨h1, h2, h3, h4, h5, c, e, hw, hc, hlen, hv⟩ := hh.rep.block hn hl hg
      have hcl : ∀ v ∈ es, v.cells.length = sz := fun v hv => (fits_iff.1 (h3 v hv)).1
      obtain ⟨v, hvi⟩ : ∃ v, es[i]? = some v := ⟨_, List.getElem?_eq_getElem hi⟩
      have hd : es.getD i .any = v := by simp [List.getD, hvi]
      rw [hd] at hk
      have hvm := List.mem_of_getElem? hvi
      have hvf := fits_iff.1 (h3 v hvm)
      have hpc : (putPart v j u).cells = splice v.cells j u.cells := putPart_cells (by rw [hf.1, hvf.1]; exact hj) (by rw [hf.1]; exact h0)
      have hpl : (putPart v j u).cells.length = sz := by rw [hpc, length_splice _ _ _ (by rw [hf.1, hvf.1]; exact hj), hvf.1]
      have hmul : i * sz + sz ≤ es.length * sz := by rw [← Nat.succ_mul]; exact Nat.mul_le_mul_right _ hi
      have hrun := run_storeCells_at P l.b off e cy.cells.toList 0 c w hw (by rw [Array.length_toList, hyl, hoff, h1]; omega) hy1
      rw [Nat.add_zero] at hrun
      refine ⟨ι, .tup [], _, σ.k, w.setRow l.b (c.toList.take off ++ cy.cells.toList ++ c.toList.drop (off + cy.cells.toList.length)).toArray, ?_, hk, ?_⟩
      · unfold execOp; rw [ho]
        simp [hcv, hcy, Instr.storeAt, Instr.sureAddr, storeVar, run_sizeOf hti, hyl, hrun]
      · have hsz : (c.toList.take off ++ cy.cells.toList ++ c.toList.drop (off + cy.cells.toList.length)).toArray.size = c.size := by
          simp only [List.size_toArray, List.length_append, List.length_take, List.length_drop, Array.length_toList, hyl]
          rw [hoff, h1]; omega
        have hcs : (w.setRow l.b (c.toList.take off ++ cy.cells.toList ++ c.toList.drop (off + cy.cells.toList.length)).toArray).heap[l.b]? = some (.cells _ e (0, 0)) := setRow_heap w l.b c _ e (0, 0) hw
        have hoth : ∀ q, q < w.heap.size → q ≠ l.b → (w.setRow l.b (c.toList.take off ++ cy.cells.toList ++ c.toList.drop (off + cy.cells.toList.length)).toArray).heap[q]? = w.heap[q]? := fun q _ hq => setRow_other w l.b q _ hq
        have hmem := look_mem hn
        have hrel : VRels ι (Own F ι σ.H) w ((es.set i (putPart v j u)).flatMap V.cells) ((((c.toList.take off ++ cy.cells.toList ++ c.toList.drop (off + cy.cells.toList.length)).toArray).toList.drop l.o).take (es.length * sz)) := by
          have e1 : (es.set i (putPart v j u)).flatMap V.cells = splice (es.flatMap V.cells) (i * sz + j) u.cells := by
            rw [flatMap_set hcl hi hpl, hpc]
            apply List.ext_getElem?
            intro q
            have hL := length_flatMap_cells hcl
            rw [getElem?_splice (es.flatMap V.cells) (splice v.cells j u.cells) (i * sz) q (by rw [length_splice _ _ _ (by rw [hf.1, hvf.1]; exact hj), hvf.1, hL]; exact hmul), getElem?_splice (es.flatMap V.cells) u.cells (i * sz + j) q (by rw [hf.1, hL]; omega)]
            rw [length_splice v.cells j u.cells (by rw [hf.1, hvf.1]; exact hj), hvf.1, hf.1]
            by_cases hq : i * sz ≤ q ∧ q < i * sz + sz
            · rw [if_pos hq, getElem?_splice _ _ _ _ (by rw [hf.1, hvf.1]; exact hj), hf.1]
              by_cases hq2 : i * sz + j ≤ q ∧ q < i * sz + j + ti.size
              · rw [if_pos (by omega), if_pos hq2]; congr 1; omega
              · rw [if_neg (by omega), if_neg hq2]
                have := congrArg (·[q - i * sz]?) (flatMap_elem hcl hvi)
                simp only [List.getElem?_take, List.getElem?_drop] at this
                rw [if_pos (by omega)] at this
                rw [← this]; congr 1; omega
            · rw [if_neg hq, if_neg (by omega)]
          rw [e1]
          have h' := hv.splice hyc (i * sz + j)
          have e2 : ((((c.toList.take off ++ cy.cells.toList ++ c.toList.drop (off + cy.cells.toList.length)).toArray).toList.drop l.o).take (es.length * sz)) = splice ((c.toList.drop l.o).take (es.length * sz)) (i * sz + j) cy.cells.toList := by
            have hs : c.toList.take off ++ cy.cells.toList ++ c.toList.drop (off + cy.cells.toList.length) = splice c.toList off cy.cells.toList := by simp [splice]
            have hyl' : cy.cells.toList.length = ti.size := by simpa using hyl
            show ((c.toList.take off ++ cy.cells.toList ++ c.toList.drop (off + cy.cells.toList.length)).drop l.o).take (es.length * sz) = _
            rw [hs]
            exact splice_window _ _ _ _ _ _ (by rw [hoff, h1]; omega) (by rw [hyl']; omega) (by simpa using hlen)
          rw [e2]; exact h'
        refine ⟨⟨kept_put hmem hl hg hh.rep.names rfl (Tp.same rfl rfl) rfl (by simp) hoth, Nat.le_refl _, fun _ _ => rfl, fun m hm => .inl (by rw [names_put] at hm; exact hm)⟩, hh.rep.put hmem hl hg rfl (Tp.same rfl rfl) rfl (by simp) hoth fun O' S => ⟨h1, h2, ?_, .inr ⟨hg, _, e, hcs, by rw [hsz, hc], by rw [List.length_set, hsz]; exact hlen, ?_⟩⟩, hh.fresh, ?_⟩
        · intro v' hv'
          rcases List.mem_or_eq_of_mem_set hv' with h | h
          · exact h3 v' h
          · subst h
            refine fits_iff.2 ⟨hpl, fun c' hc' => ?_⟩
            rw [hpc] at hc'
            exact (mem_splice hc').elim (hvf.2 c') (hf.2 c')
        · rw [List.length_set]; exact hrel.stays S
        · exact VRel.tup .nil
end
end Go.Sl
namespace Go.Sl
variable [Md]
section
variable {fr : Nat → Prop} {F : Nat → Prop} {ι ι' : Names} {O : Nat → Prop} {H : Heap} {σ σ' : St} {a a' : Act} {w w' : World} {P : Program} {T : Tab}
omit [Md] in
theorem D.of_array {d : TypeDesc} {n : Nat} {e : TypeId} (h : D.of P d = .array n e) : d = .array n e := by cases d <;> simp_all [D.of]
omit [Md] in
theorem D.of_slice {d : TypeDesc} {e : TypeId} (h : D.of P d = .slice e) : d = .slice e := by cases d <;> simp_all [D.of]
omit [Md] in
theorem D.of_int {d : TypeDesc} {k : IntKind} (h : D.of P d = .int k) : d = .int k := by cases d <;> simp_all [D.of]
omit [Md] in
theorem D.of_bool {d : TypeDesc} (h : D.of P d = .bool) : d = .bool := by cases d <;> simp_all [D.of]
omit [Md] in
theorem D.of_string {d : TypeDesc} (h : D.of P d = .string) : d = .string := by cases d <;> simp_all [D.of]
omit [Md] in
theorem D.of_pointer {d : TypeDesc} {e : TypeId} (h : D.of P d = .pointer e) : d = .pointer e := by cases d <;> simp_all [D.of]
omit [Md] in
theorem D.of_map {d : TypeDesc} {k e : TypeId} (h : D.of P d = .map k e) : d = .map k e := by cases d <;> simp_all [D.of]
omit [Md] in
theorem D.of_struct {d : TypeDesc} {fs : List (TypeId × Nat × Nat)} (h : D.of P d = .struct fs) : ∃ gs, d = .struct gs ∧ gs.toList.map (fun f => (f.type, f.offset, P.cellsOf f.type)) = fs := by
 cases d <;> simp_all [D.of]
omit [Md] in
theorem run_und {t : TypeId} {ti : TI} (h : tiOf P t = some ti) (w : World) : ∃ d, (underlying t).run P w = .ok d w ∧ P.underlying t = some d ∧ ti.d = D.of P d := by
 obtain ⟨d, i, z, hd, hi, hz, hs, ha, h1, _⟩ := tiOf_spec h
 exact ⟨d, run_underlying hd w, hd, h1⟩
omit [Md] in
theorem run_und_array {t : TypeId} {ti : TI} (h : tiOf P t = some ti) {n : Nat} {e : TypeId} (hd : ti.d = .array n e) (w : World) : (underlying t).run P w = .ok (.array n e) w := by
 obtain ⟨d, hr, _, h1⟩ := run_und h w
 rw [hr, D.of_array (h1.symm.trans hd)]
omit [Md] in
theorem run_und_slice {t : TypeId} {ti : TI} (h : tiOf P t = some ti) {e : TypeId} (hd : ti.d = .slice e) (w : World) : (underlying t).run P w = .ok (.slice e) w := by
 obtain ⟨d, hr, _, h1⟩ := run_und h w
 rw [hr, D.of_slice (h1.symm.trans hd)]
omit [Md] in
theorem run_und_string {t : TypeId} {ti : TI} (h : tiOf P t = some ti) (hd : ti.d = .string) (w : World) : (underlying t).run P w = .ok .string w := by
 obtain ⟨d, hr, _, h1⟩ := run_und h w
 rw [hr, D.of_string (h1.symm.trans hd)]
omit [Md] in
theorem run_und_int {t : TypeId} {ti : TI} (h : tiOf P t = some ti) {k : IntKind} (hd : ti.d = .int k) (w : World) : (underlying t).run P w = .ok (.int k) w := by
 obtain ⟨d, hr, _, h1⟩ := run_und h w
 rw [hr, D.of_int (h1.symm.trans hd)]
omit [Md] in
theorem run_und_bool {t : TypeId} {ti : TI} (h : tiOf P t = some ti) (hd : ti.d = .bool) (w : World) : (underlying t).run P w = .ok .bool w := by
 obtain ⟨d, hr, _, h1⟩ := run_und h w
 rw [hr, D.of_bool (h1.symm.trans hd)]
omit [Md] in
theorem run_und_pointer {t : TypeId} {ti : TI} (h : tiOf P t = some ti) {e : TypeId} (hd : ti.d = .pointer e) (w : World) : (underlying t).run P w = .ok (.pointer e) w := by
 obtain ⟨d, hr, _, h1⟩ := run_und h w
 rw [hr, D.of_pointer (h1.symm.trans hd)]
omit [Md] in
theorem run_und_map {t : TypeId} {ti : TI} (h : tiOf P t = some ti) {k e : TypeId} (hd : ti.d = .map k e) (w : World) : (underlying t).run P w = .ok (.map k e) w := by
 obtain ⟨d, hr, _, h1⟩ := run_und h w
 rw [hr, D.of_map (h1.symm.trans hd)]
omit [Md] in
theorem run_und_struct {t : TypeId} {ti : TI} (h : tiOf P t = some ti) {fs : List (TypeId × Nat × Nat)} (hd : ti.d = .struct fs) (w : World) :
    ∃ gs, (underlying t).run P w = .ok (.struct gs) w ∧ gs.toList.map (fun f => (f.type, f.offset, P.cellsOf f.type)) = fs := by
  obtain ⟨d, hr, _, h1⟩ := run_und h w
  obtain ⟨gs, hg, hm⟩ := D.of_struct (h1.symm.trans hd)
  exact ⟨gs, by rw [hr, hg], hm⟩
omit [Md] in
theorem field_at {gs : Array Field} {fs : List (TypeId × Nat × Nat)} (hm : gs.toList.map (fun f => (f.type, f.offset, P.cellsOf f.type)) = fs) {i : Nat} {ft : TypeId} {off sz : Nat} (h : fs[i]? = some (ft, off, sz)) :
    ∃ f, gs[i]? = some f ∧ f.type = ft ∧ f.offset = off ∧ P.cellsOf ft = sz := by
  subst hm
  simp only [List.getElem?_map, Array.getElem?_toList, Option.map_eq_some_iff, Prod.mk.injEq] at h
  obtain ⟨f, hf, h1, h2, h3⟩ := h
  exact ⟨f, hf, h1, h2, h1 ▸ h3⟩
omit [Md] in
theorem cellsOf_of {t : TypeId} {ti : TI} (h : tiOf P t = some ti) : P.cellsOf t = ti.size := by
 obtain ⟨d, i, z, hd, hi, hz, hs, ha, h1, h2, _⟩ := tiOf_spec h
 simp [Program.cellsOf, hi, h2]
theorem op_indexAddr_arr_ptr {o : Oper} {K : V → Heap → Nat → Prop} (t : TypeId) (x y : Operand) (ho : o.op = .indexAddr t x y) {ti te : TI} {len : Nat} {e : TypeId} (hti : tiOf P t = some ti) (hd : ti.d = .array len e) (hte : tiOf P e = some te)
    {n i j : Nat} {kd : IntKind} {m : Int} (hx : evalV σ.t x = .ptr n i j) (hy : evalV σ.t y = .val (.int kd m)) (h0 : 0 ≤ m) (h1 : m < len) (hk : K (.ptr n i (j + m.toNat * te.size)) σ.H σ.k) : OpT fr P o σ K :=
  opT_pure hk fun F ι a w hh => by
    have he := hh.eval x
    have hi := (hh.eval y)
    rw [hx] at he; rw [hy] at hi
    have hi := hi.inv_val
    generalize hcv : a.eval x = cv at he
    cases he with
    | ptr hl hg hm hoff =>
      rename_i off l
      refine ⟨.pointer (some ⟨l.b, off + m.toNat * te.size, none⟩), ?_, .ptr hl hg hm (by omega)⟩
      unfold execOp; rw [ho]
      simp [hcv, hi, Instr.indexAt, asIntOf, run_und_array hti hd, Instr.sureAddr, h0, h1, run_sizeOf hte, Addr.add_lit]
theorem op_indexAddr_arr_rp {o : Oper} {K : V → Heap → Nat → Prop} (t : TypeId) (x y : Operand) (ho : o.op = .indexAddr t x y) {ti te : TI} {len : Nat} {e : TypeId} (hti : tiOf P t = some ti) (hd : ti.d = .array len e) (hte : tiOf P e = some te)
    {j : Nat} {cs : List V} {kd : IntKind} {m : Int} (hx : evalV σ.t x = .rp cs j) (hy : evalV σ.t y = .val (.int kd m)) (h0 : 0 ≤ m) (h1 : m < len) (hk : K (.rp cs (j + m.toNat * te.size)) σ.H σ.k) : OpT fr P o σ K :=
  opT_pure hk fun F ι a w hh => by
    have he := hh.eval x
    have hi := (hh.eval y)
    rw [hx] at he; rw [hy] at hi
    have hi := hi.inv_val
    generalize hcv : a.eval x = cv at he
    cases he with
    | rp hb hO hw hsz hin hvs hv hoff =>
      rename_i b off off' c e fr vs
      refine ⟨.pointer (some ⟨b, off' + m.toNat * te.size, none⟩), ?_, .rp hb hO hw hsz hin hvs hv (by omega)⟩
      unfold execOp; rw [ho]
      simp [hcv, hi, Instr.indexAt, asIntOf, run_und_array hti hd, Instr.sureAddr, h0, h1, run_sizeOf hte, Addr.add_lit]
theorem op_indexAddr_sl {o : Oper} {K : V → Heap → Nat → Prop} (t : TypeId) (x y : Operand) (ho : o.op = .indexAddr t x y) {ti te : TI} {e : TypeId} (hti : tiOf P t = some ti) (hd : ti.d = .slice e) (hte : tiOf P e = some te)
    {n i len : Nat} {es : List V} {kd : IntKind} {m : Int} (hx : evalV σ.t x = .sl n i len) (hy : evalV σ.t y = .val (.int kd m)) (hn : look n σ.H = some (.rows te.size es)) (h0 : 0 ≤ m) (h1 : m < len) (hk : K (.ptr n (i + m.toNat) 0) σ.H σ.k) : OpT fr P o σ K :=
  opT_pure hk fun F ι a w hh => by
    have he := hh.eval x
    have hi := (hh.eval y)
    rw [hx] at he; rw [hy] at hi
    have hi := hi.inv_val
    generalize hcv : a.eval x = cv at he
    cases he with
    | sl hl hg hm hoff hc0 hlc hcm hs =>
      rename_i off cap l
      obtain ⟨e1, _⟩ := hh.rep.block hn hl hg
      refine ⟨.pointer (some ⟨l.b, off + m.toNat * te.size, none⟩), ?_, .ptr hl hg hm (by rw [hoff, e1, Nat.add_mul]; omega)⟩
      unfold execOp; rw [ho]
      simp [hcv, hi, Instr.indexAt, asIntOf, run_und_slice hti hd, h0, h1, run_sizeOf hte, Addr.add_lit]
    | sl0 hl => exfalso; omega
theorem op_indexAddr_ro {o : Oper} {K : V → Heap → Nat → Prop} (t : TypeId) (x y : Operand) (ho : o.op = .indexAddr t x y) {ti te : TI} {e : TypeId} (hti : tiOf P t = some ti) (hd : ti.d = .slice e) (hte : tiOf P e = some te)
    {es : List V} {kd : IntKind} {m : Int} (hx : evalV σ.t x = .ro te.size es) (hy : evalV σ.t y = .val (.int kd m)) (h0 : 0 ≤ m) (h1 : m < es.length) (hk : K (.rp (es.getD m.toNat .any).cells 0) σ.H σ.k) : OpT fr P o σ K :=
  opT_pure hk fun F ι a w hh => by
    have he := hh.eval x
    have hi := (hh.eval y)
    rw [hx] at he; rw [hy] at hi
    have hi := hi.inv_val
    generalize hcv : a.eval x = cv at he
    cases he with
    | ro0 => exfalso; simp at h1; omega
    | ro hb hO hw hsz hlen hlc hin hvs hv =>
      rename_i b off len cap c e fr vs
      subst hvs
      have hcl : ∀ v ∈ es, v.cells.length = te.size := fun v hv => (fits_iff.1 (hsz v hv)).1
      obtain ⟨v, hvi⟩ : ∃ v, es[m.toNat]? = some v := ⟨_, List.getElem?_eq_getElem (by omega)⟩
      have hgd : es.getD m.toNat .any = v := by simp [List.getD, hvi]
      have hel := (hv.drop (m.toNat * te.size)).take te.size
      rw [flatMap_elem hcl hvi] at hel
      have hmul : m.toNat * te.size + te.size ≤ es.length * te.size := by rw [← Nat.succ_mul]; exact Nat.mul_le_mul_right _ (by omega)
      have hlist : (((c.toList.drop off).take (es.length * te.size)).drop (m.toNat * te.size)).take te.size = (c.toList.drop (off + m.toNat * te.size)).take v.cells.length := by
        rw [hcl v (List.mem_of_getElem? hvi)]
        apply List.ext_getElem?
        intro q
        simp only [List.getElem?_take, List.getElem?_drop]
        by_cases hq : q < te.size
        · simp only [hq, if_true, show m.toNat * te.size + q < es.length * te.size by omega]
          congr 1; omega
        · simp [hq]
      rw [hlist] at hel
      have hvf := fits_iff.1 (hsz v (List.mem_of_getElem? hvi))
      refine ⟨.pointer (some ⟨b, off + m.toNat * te.size, none⟩), ?_, ?_⟩
      · unfold execOp; rw [ho]
        have h1' : m < len := by omega
        simp [hcv, hi, Instr.indexAt, asIntOf, run_und_slice hti hd, h0, h1', run_sizeOf hte, Addr.add_lit]
      · rw [hgd]
        exact .rp hb hO hw (by simpa using hvf.2) (by rw [hvf.1]; omega) rfl hel rfl
theorem op_fieldAddr_ptr {o : Oper} {K : V → Heap → Nat → Prop} (t : TypeId) (x : Operand) (f : Nat) (ho : o.op = .fieldAddr t x f) {ti tf : TI} {fs : List (TypeId × Nat × Nat)} (hti : tiOf P t = some ti) (hd : ti.d = .struct fs)
    {ft off sz : Nat} (hf : fs[f]? = some (ft, off, sz)) (htf : tiOf P ft = some tf) (hsz : 0 < tf.size) {n i j : Nat} (hx : evalV σ.t x = .ptr n i j) (hk : K (.ptr n i (j + off)) σ.H σ.k) : OpT fr P o σ K :=
  opT_pure hk fun F ι a w hh => by
    have he := hh.eval x
    rw [hx] at he
    generalize hcv : a.eval x = cv at he
    obtain ⟨gs, hr, hm⟩ := run_und_struct hti hd w
    obtain ⟨g, hg, h1, h2, h3⟩ := field_at hm hf
    cases he with
    | ptr hl hgh hmp hoff =>
      rename_i off' l
      refine ⟨.pointer (some ⟨l.b, off' + off, none⟩), ?_, .ptr hl hgh hmp (by omega)⟩
      unfold execOp; rw [ho]
      have : ¬ tf.size = 0 := by omega
      simp [hcv, Instr.fieldAt, hr, hg, Instr.sureAddr, fieldPlace, h1, run_sizeOf htf, this, h2, Addr.add_lit]
theorem op_fieldAddr_rp {o : Oper} {K : V → Heap → Nat → Prop} (t : TypeId) (x : Operand) (f : Nat) (ho : o.op = .fieldAddr t x f) {ti tf : TI} {fs : List (TypeId × Nat × Nat)} (hti : tiOf P t = some ti) (hd : ti.d = .struct fs)
    {ft off sz : Nat} (hf : fs[f]? = some (ft, off, sz)) (htf : tiOf P ft = some tf) (hsz : 0 < tf.size) {cs : List V} {j : Nat} (hx : evalV σ.t x = .rp cs j) (hk : K (.rp cs (j + off)) σ.H σ.k) : OpT fr P o σ K :=
  opT_pure hk fun F ι a w hh => by
    have he := hh.eval x
    rw [hx] at he
    generalize hcv : a.eval x = cv at he
    obtain ⟨gs, hr, hm⟩ := run_und_struct hti hd w
    obtain ⟨g, hg, h1, h2, h3⟩ := field_at hm hf
    cases he with
    | rp hb hO hw hs hin hvs hv hoff =>
      rename_i b off0 off' c e fr vs
      refine ⟨.pointer (some ⟨b, off' + off, none⟩), ?_, .rp hb hO hw hs hin hvs hv (by omega)⟩
      unfold execOp; rw [ho]
      have : ¬ tf.size = 0 := by omega
      simp [hcv, Instr.fieldAt, hr, hg, Instr.sureAddr, fieldPlace, h1, run_sizeOf htf, this, h2, Addr.add_lit]
omit [Md] in
theorem run_part {t : TypeId} {ti : TI} (hti : tiOf P t = some ti) {cs : List V} {vs : List Value} (hv : VRels ι O w cs vs) {off : Nat} (hin : off + ti.size ≤ cs.length) (w' : World) :
    ∃ x, (part t vs.toArray off).run P w' = .ok x w' ∧ VRel ι O w (partV ti.agg ti.size cs off) x := by
  unfold part partV
  by_cases hg : ti.agg = true
  · refine ⟨.agg ((vs.drop off).take ti.size).toArray, ?_, ?_⟩
    · simp [run_isAgg hti, run_sizeOf hti, hg, List.extract_eq_take_drop]
    · rw [if_pos hg]; exact .agg ((hv.drop off).take ti.size)
  · have h1 : 0 < ti.size := by
      have := zeroV_cells hti
      have h2 := (zero_oneCell hti).2
      unfold TI.zeroV at this
      rw [if_neg hg] at this
      rcases Nat.eq_zero_or_pos ti.size with h0 | h0
      · exfalso
        rw [h0] at h2
        rw [List.eq_nil_of_length_eq_zero h2] at this
        simp [V.cells] at this
      · exact h0
    rw [if_neg hg]
    obtain ⟨u, hu⟩ : ∃ u, cs[off]? = some u := ⟨_, List.getElem?_eq_getElem (by omega)⟩
    obtain ⟨x, hx, hvx⟩ := hv.get off u hu
    exact ⟨x, by simp [run_isAgg hti, hg, hx], by simpa [List.getD, hu] using hvx⟩
theorem op_field {o : Oper} {K : V → Heap → Nat → Prop} (t : TypeId) (x : Operand) (f : Nat) (ho : o.op = .field t x f) {ti tf : TI} {fs : List (TypeId × Nat × Nat)} (hti : tiOf P t = some ti) (hd : ti.d = .struct fs)
    {ft off sz : Nat} (hf : fs[f]? = some (ft, off, sz)) (htf : tiOf P ft = some tf) {cs : List V} (hx : evalV σ.t x = .agg cs) (hin : off + tf.size ≤ cs.length) (hk : K (partV tf.agg tf.size cs off) σ.H σ.k) : OpT fr P o σ K :=
  opT_pure hk fun F ι a w hh => by
    have he := hh.eval x
    rw [hx] at he
    generalize hcv : a.eval x = cv at he
    obtain ⟨gs, hr, hm⟩ := run_und_struct hti hd w
    obtain ⟨g, hg, h1, h2, h3⟩ := field_at hm hf
    cases he with
    | agg hv =>
      obtain ⟨y, hy, hvy⟩ := run_part htf hv hin w
      refine ⟨y, ?_, hvy⟩
      unfold execOp; rw [ho]
      simp [hcv, Instr.field, hr, hg, asAgg, h1, h2, hy]
theorem op_index_arr {o : Oper} {K : V → Heap → Nat → Prop} (t : TypeId) (x y : Operand) (ho : o.op = .index t x y) {ti te : TI} {len : Nat} {e : TypeId} (hti : tiOf P t = some ti) (hd : ti.d = .array len e) (hte : tiOf P e = some te)
    {cs : List V} {kd : IntKind} {m : Int} (hx : evalV σ.t x = .agg cs) (hy : evalV σ.t y = .val (.int kd m)) (h0 : 0 ≤ m) (h1 : m < len) (hin : m.toNat * te.size + te.size ≤ cs.length)
    (hk : K (partV te.agg te.size cs (m.toNat * te.size)) σ.H σ.k) : OpT fr P o σ K :=
  opT_pure hk fun F ι a w hh => by
    have he := hh.eval x
    have hi := (hh.eval y)
    rw [hx] at he; rw [hy] at hi
    have hi := hi.inv_val
    generalize hcv : a.eval x = cv at he
    cases he with
    | agg hv =>
      obtain ⟨y, hy, hvy⟩ := run_part hte hv hin w
      refine ⟨y, ?_, hvy⟩
      unfold execOp; rw [ho]
      simp [hcv, hi, Instr.index, asIntOf, run_und_array hti hd, h0, h1, run_sizeOf hte, hy]
theorem op_index_str {o : Oper} {K : V → Heap → Nat → Prop} (t : TypeId) (x y : Operand) (ho : o.op = .index t x y) {ti : TI} (hti : tiOf P t = some ti) (hd : ti.d = .string)
    {s : ByteArray} {kd : IntKind} {m : Int} (hx : evalV σ.t x = .val (.string s)) (hy : evalV σ.t y = .val (.int kd m)) (h0 : 0 ≤ m) (h1 : m < s.size)
    (hk : K (.val (.int .u8 ((s.data.toList.getD m.toNat 0).toNat : Int))) σ.H σ.k) : OpT fr P o σ K :=
  opT_pure hk fun F ι a w hh => by
    have he := (hh.eval x)
    have hi := (hh.eval y)
    rw [hx] at he; rw [hy] at hi
    have hi := hi.inv_val
    have he := he.inv_val
    refine ⟨_, ?_, .val _ rfl⟩
    have hlt : m.toNat < s.size := by omega
    have hs : s[m.toNat]? = some (s.data.toList.getD m.toNat 0) := by
      rw [getElem?_pos s m.toNat hlt]
      have : m.toNat < s.data.toList.length := by simpa using hlt
      simp [List.getD, List.getElem?_eq_getElem this]; rfl
    unfold execOp; rw [ho]
    simp [he, hi, Instr.index, asIntOf, run_und_string hti hd, h0, hs]
theorem op_extract {o : Oper} {K : V → Heap → Nat → Prop} (x : Operand) (i : Nat) (ho : o.op = .extract x i) {vs : List V} (hx : evalV σ.t x = .tup vs) (hi : i < vs.length) (hk : K (vs.getD i .any) σ.H σ.k) : OpT fr P o σ K :=
 opT_pure hk fun F ι a w hh => by
  have he := hh.eval x
  rw [hx] at he
  generalize hcv : a.eval x = cv at he
  cases he with
  | tup hv =>
   obtain ⟨u, hu⟩ : ∃ u, vs[i]? = some u := ⟨_, List.getElem?_eq_getElem hi⟩
   obtain ⟨y, hy, hvy⟩ := hv.get i u hu
   refine ⟨y, ?_, by simpa [List.getD, hu] using hvy⟩
   unfold execOp; rw [ho]
   simp [hcv, Instr.extract, hy]
def binI (op : BinOp) (k : IntKind) (x y : Int) : Option Value :=
 match op with
 | .add => some (.int k (k.wrap (x + y)))
 | .sub => some (.int k (k.wrap (x - y)))
 | .mul => some (.int k (k.wrap (x * y)))
 | .quo => if y = 0 then none else some (.int k (k.wrap (x.tdiv y)))
 | .rem => if y = 0 then none else some (.int k (x.tmod y))
 | .and => some (.int k (k.wrap (BitVec.ofInt k.bits x &&& BitVec.ofInt k.bits y).toNat))
 | .or => some (.int k (k.wrap (BitVec.ofInt k.bits x ||| BitVec.ofInt k.bits y).toNat))
 | .xor => some (.int k (k.wrap (BitVec.ofInt k.bits x ^^^ BitVec.ofInt k.bits y).toNat))
 | .andNot => some (.int k (k.wrap (BitVec.ofInt k.bits x &&& ~~~BitVec.ofInt k.bits y).toNat))
 | .eql => some (.bool (x == y))
 | .neq => some (.bool (x != y))
 | .lss => some (.bool (decide (x < y)))
 | .leq => some (.bool (decide (x ≤ y)))
 | .gtr => some (.bool (decide (x > y)))
 | .geq => some (.bool (decide (x ≥ y)))
 | _ => none
def shI (op : BinOp) (k : IntKind) (x y : Int) : Option Value :=
 if y < 0 then none else
 match op with
 | .shl => some (.int k (k.wrap (x * 2 ^ (min y.toNat k.bits))))
 | .shr => some (.int k (x.fdiv (2 ^ (min y.toNat k.bits))))
 | _ => none
omit [Md] in
theorem binI_oneCell {op : BinOp} {k : IntKind} {x y : Int} {v : Value} (h : binI op k x y = some v) : v.oneCell' = true := by
 unfold binI at h
 cases op <;> simp only [] at h <;> (first | (split at h <;> first | (cases h; done) | (cases h; rfl)) | (cases h; rfl) | cases h)
omit [Md] in
theorem shI_oneCell {op : BinOp} {k : IntKind} {x y : Int} {v : Value} (h : shI op k x y = some v) : v.oneCell' = true := by
 unfold shI at h
 split at h
 ·cases h
 ·cases op <;> simp only [] at h <;> first | (cases h; rfl) | cases h
omit [Md] in
theorem run_binI {op : BinOp} {k : IntKind} {x y : Int} {v : Value} (h : binI op k x y = some v) (t : TypeId) (p q : Operand) : ((do eqGuard op t p q (.int k x) (.int k y); binOp op t (.int k x) (.int k y)) : Sem Value).run P w = .ok v w := by
  unfold binI at h
  cases op <;> simp only [] at h <;>
    first
    | (cases h; done)
    | (cases h; simp [eqGuard, binOp, Op.intArith, Op.intBits, Op.intCmp]; done)
    | (split at h
       · cases h
       · cases h; rename_i hy; simp [eqGuard, binOp, Op.intDiv, hy])
omit [Md] in
theorem run_shI {op : BinOp} {k k' : IntKind} {x y : Int} {v : Value} (h : shI op k x y = some v) (t : TypeId) (p q : Operand) : ((do eqGuard op t p q (.int k x) (.int k' y); binOp op t (.int k x) (.int k' y)) : Sem Value).run P w = .ok v w := by
 unfold shI at h
 split at h
 ·cases h
 ·rename_i hy
  cases op <;> simp only [] at h <;>
   first
   | (cases h; done)
   | (cases h; simp [eqGuard, binOp, Op.shift, hy])
theorem op_binI {o : Oper} {K : V → Heap → Nat → Prop} (op : BinOp) (t u : TypeId) (x y : Operand) (ho : o.op = .binOp op t x y u) {k : IntKind} {m n : Int} (hx : evalV σ.t x = .val (.int k m)) (hy : evalV σ.t y = .val (.int k n)) {v : Value}
    (h : binI op k m n = some v) (hk : K (.val v) σ.H σ.k) : OpT fr P o σ K :=
  opT_pure hk fun F ι a w hh => by
    have he := hh.eval x
    have hi := hh.eval y
    rw [hx] at he; rw [hy] at hi
    have hi := hi.inv_val
    have he := he.inv_val
    refine ⟨v, ?_, .val v (binI_oneCell h)⟩
    have hr := run_binI (P := P) (w := w) h t x y
    unfold execOp; rw [ho]
    simp only [he, hi, Sem.run_bind, hr, Result.andThen_ok, Sem.run_pure]
theorem op_shI {o : Oper} {K : V → Heap → Nat → Prop} (op : BinOp) (t u : TypeId) (x y : Operand) (ho : o.op = .binOp op t x y u) {k k' : IntKind} {m n : Int} (hx : evalV σ.t x = .val (.int k m)) (hy : evalV σ.t y = .val (.int k' n)) {v : Value}
    (h : shI op k m n = some v) (hk : K (.val v) σ.H σ.k) : OpT fr P o σ K :=
  opT_pure hk fun F ι a w hh => by
    have he := hh.eval x
    have hi := hh.eval y
    rw [hx] at he; rw [hy] at hi
    have hi := hi.inv_val
    have he := he.inv_val
    refine ⟨v, ?_, .val v (shI_oneCell h)⟩
    have hr := run_shI (P := P) (w := w) (k' := k') h t x y
    unfold execOp; rw [ho]
    simp only [he, hi, Sem.run_bind, hr, Result.andThen_ok, Sem.run_pure]
def binS (op : BinOp) (x y : ByteArray) : Option Value :=
 match op with
 | .add => if ((x.size + y.size : Nat) : Int) > 9223372036854775807 then none else some (.string (x ++ y))
 | .eql => some (.bool (x.toList == y.toList))
 | .neq => some (.bool !(x.toList == y.toList))
 | .lss => some (.bool (Op.bytesLess x.toList y.toList))
 | .leq => some (.bool (Op.bytesLess x.toList y.toList || x.toList == y.toList))
 | .gtr => some (.bool !(Op.bytesLess x.toList y.toList || x.toList == y.toList))
 | .geq => some (.bool !(Op.bytesLess x.toList y.toList))
 | _ => none
theorem op_binS {o : Oper} {K : V → Heap → Nat → Prop} (op : BinOp) (t u : TypeId) (x y : Operand) (ho : o.op = .binOp op t x y u) {m n : ByteArray} (hx : evalV σ.t x = .val (.string m)) (hy : evalV σ.t y = .val (.string n)) {v : Value}
    (h : binS op m n = some v) (hk : K (.val v) σ.H σ.k) : OpT fr P o σ K :=
  opT_pure hk fun F ι a w hh => by
    have he := hh.eval x
    have hi := hh.eval y
    rw [hx] at he; rw [hy] at hi
    have hi := hi.inv_val
    have he := he.inv_val
    have h1 : v.oneCell' = true := by
      unfold binS at h
      cases op <;> simp only [] at h <;> first | (cases h; rfl) | (split at h <;> first | (cases h; done) | (cases h; rfl)) | cases h
    refine ⟨v, ?_, .val v h1⟩
    have hr : ((do eqGuard op t x y (.string m) (.string n); binOp op t (.string m) (.string n)) : Sem Value).run P w = .ok v w := by
      unfold binS at h
      cases op <;> simp only [] at h <;>
        first
        | (cases h; done)
        | (cases h; simp [eqGuard, binOp, Op.stringOp]; done)
        | (split at h
           · cases h
           · cases h
             rename_i hy
             simp [eqGuard, binOp, Op.stringOp, IntKind.max_i64]
             omega)
    unfold execOp; rw [ho]
    simp only [he, hi, Sem.run_bind, hr, Result.andThen_ok, Sem.run_pure]
theorem op_eqB {o : Oper} {K : V → Heap → Nat → Prop} (op : BinOp) (t u : TypeId) (x y : Operand) (ho : o.op = .binOp op t x y u) {ti : TI} (hti : tiOf P t = some ti) (hd : ti.d = .bool) {m n : Bool} (hx : evalV σ.t x = .val (.bool m)) (hy : evalV σ.t y = .val (.bool n))
    (h : op = .eql ∧ K (.val (.bool (m == n))) σ.H σ.k ∨ op = .neq ∧ K (.val (.bool (m != n))) σ.H σ.k) : OpT fr P o σ K := by
  rcases h with ⟨rfl, hk⟩ | ⟨rfl, hk⟩ <;>
  · refine opT_pure hk fun F ι a w hh => ?_
    have he := hh.eval x
    have hi := hh.eval y
    rw [hx] at he; rw [hy] at hi
    have hi := hi.inv_val
    have he := he.inv_val
    obtain ⟨d, hr, hu, h1⟩ := run_und hti w
    have hu' : P.underlying t = some .bool := by rw [hu, D.of_bool (h1.symm.trans hd)]
    have hq := run_equal_bool (P := P) w t m n hu'
    refine ⟨_, ?_, .val _ rfl⟩
    unfold execOp; rw [ho]
    simp only [he, hi, eqGuard_at_bool, binOp, Sem.run_bind, Sem.run_pure, Result.andThen_ok, hq]
    try rfl
theorem op_not {o : Oper} {K : V → Heap → Nat → Prop} (t : TypeId) (x : Operand) (ho : o.op = .unOp .not t x) {b : Bool} (hx : evalV σ.t x = .val (.bool b)) (hk : K (.val (.bool (!b))) σ.H σ.k) : OpT fr P o σ K :=
 opT_pure hk fun F ι a w hh => by
  have he := hh.eval x
  rw [hx] at he
  have he := he.inv_val
  refine ⟨_, ?_, .val _ rfl⟩
  unfold execOp; rw [ho]
  simp [he, Op.unary]
theorem op_neg {o : Oper} {K : V → Heap → Nat → Prop} (t : TypeId) (x : Operand) (ho : o.op = .unOp .neg t x) {k : IntKind} {n : Int} (hx : evalV σ.t x = .val (.int k n)) (hk : K (.val (.int k (k.wrap (0 - n)))) σ.H σ.k) : OpT fr P o σ K :=
 opT_pure hk fun F ι a w hh => by
  have he := hh.eval x
  rw [hx] at he
  have he := he.inv_val
  refine ⟨_, ?_, .val _ rfl⟩
  unfold execOp; rw [ho]
  simp [he, Op.unary, Op.intArith]
theorem op_com {o : Oper} {K : V → Heap → Nat → Prop} (t : TypeId) (x : Operand) (ho : o.op = .unOp .xor t x) {k : IntKind} {n : Int} (hx : evalV σ.t x = .val (.int k n))
    (hk : K (.val (.int k (k.wrap (BitVec.ofInt k.bits (if k.signed then -1 else k.max) ^^^ BitVec.ofInt k.bits n).toNat))) σ.H σ.k) : OpT fr P o σ K :=
  opT_pure hk fun F ι a w hh => by
    have he := hh.eval x
    rw [hx] at he
    have he := he.inv_val
    refine ⟨_, ?_, .val _ rfl⟩
    unfold execOp; rw [ho]
    simp [he, Op.unary, Op.intBits]
theorem op_convI {o : Oper} {K : V → Heap → Nat → Prop} (s t : TypeId) (x : Operand) (ho : o.op = .convert s t x) {ti tj : TI} (hti : tiOf P t = some ti) (htj : tiOf P s = some tj) {k k' : IntKind} (hd : ti.d = .int k) (hs : tj.d = .int k') {n : Int} (hx : evalV σ.t x = .val (.int k' n))
    (hk : K (.val (.int k (k.wrap n))) σ.H σ.k) : OpT fr P o σ K :=
  opT_pure hk fun F ι a w hh => by
    have he := hh.eval x
    rw [hx] at he
    have he := he.inv_val
    refine ⟨_, ?_, .val _ rfl⟩
    unfold execOp; rw [ho]
    simp [he, convert, run_und_int hti hd, run_und_int htj hs, Conv.intToInt]
end
end Go.Sl
namespace Go.Sl
variable [Md]
section
variable {fr : Nat → Prop} {F : Nat → Prop} {ι ι' : Names} {O : Nat → Prop} {H : Heap} {σ σ' : St} {a a' : Act} {w w' : World} {P : Program} {T : Tab}
omit [Md] in
theorem foldl_set_get (off : Nat) : ∀ (l : List Value) (s : Nat) (cs : Array Value), off + s + l.length ≤ cs.size →
    ((l.zipIdx s).foldl (fun cs (x : Value × Nat) => cs.setIfInBounds (off + x.2) x.1) cs).toList = splice cs.toList (off + s) l
  | [], s, cs, h => by simp [splice]
  | v :: l, s, cs, h => by
    simp only [List.zipIdx_cons, List.foldl_cons, List.length_cons] at h ⊢
    rw [foldl_set_get off l (s + 1) _ (by simp; omega)]
    apply List.ext_getElem?
    intro q
    rw [getElem?_splice _ _ _ _ (by simp; omega), getElem?_splice _ _ _ _ (by simp; omega)]
    simp only [Array.getElem?_toList, Array.getElem?_setIfInBounds, List.length_cons]
    by_cases h1 : q = off + s
    · subst h1
      rw [if_neg (by omega), if_pos (by omega), Nat.sub_self]
      simp; omega
    · by_cases h2 : off + (s + 1) ≤ q ∧ q < off + (s + 1) + l.length
      · rw [if_pos h2, if_pos (by omega)]
        rw [show q - (off + s) = (q - (off + (s + 1))) + 1 by omega, List.getElem?_cons_succ]
      · rw [if_neg h2, if_neg (by omega), if_neg (by omega)]
def fillP (pl : Nat → Option (Nat × Nat)) : List V → List (Nat × V) → (List V → Prop) → Prop
 | cs, [], K => K cs
 | cs, (i, v) :: r, K =>
  match pl i with
  | some (off, sz) => v.cells.length = sz ∧ v.isAny = false ∧ off + sz ≤ cs.length ∧ fillP pl (splice cs off v.cells) r K
  | none => False
omit [Md] in
theorem fillP_sound {pl : Nat → Option (Nat × Nat)} : ∀ (parts : List (Nat × V)) (cparts : List (Nat × Value)) (cs : List V) (ccs : Array Value) (K : List V → Prop), fillP pl cs parts K → VRels ι O w cs ccs.toList →
    parts.map Prod.fst = cparts.map Prod.fst → VRels ι O w (parts.map Prod.snd) (cparts.map Prod.snd) → ∃ cs' ccs', Instr.fill pl ccs cparts = some ccs' ∧ VRels ι O w cs' ccs'.toList ∧ K cs'
  | [], cparts, cs, ccs, K, h, hv, hf, _ => by
    cases cparts with
    | nil => exact ⟨cs, ccs, rfl, hv, h⟩
    | cons => simp at hf
  | (i, v) :: r, cparts, cs, ccs, K, h, hv, hf, hs => by
    cases cparts with
    | nil => simp at hf
    | cons cp cr =>
      obtain ⟨i', x⟩ := cp
      simp only [List.map_cons, List.cons.injEq] at hf
      obtain ⟨hi, hf⟩ := hf
      subst hi
      simp only [List.map_cons] at hs
      cases hs with
      | cons hx hs =>
        simp only [fillP] at h
        cases hpl : pl i with
        | none => rw [hpl] at h; exact h.elim
        | some p =>
          obtain ⟨off, sz⟩ := p
          rw [hpl] at h
          obtain ⟨h1, h2, h3, h4⟩ := h
          have hxc := hx.cells h2
          have hxl : x.cells.size = sz := by rw [← Array.length_toList, ← hxc.length, h1]
          have hcl : ccs.size = cs.length := by rw [← Array.length_toList, hv.length]
          have e := foldl_set_get off x.cells.toList 0 ccs (by rw [Array.length_toList, hxl]; omega)
          obtain ⟨cs', ccs', e1, e2, e3⟩ := fillP_sound r cr (splice cs off v.cells) _ K h4 (by rw [e]; exact hv.splice hxc _) hf hs
          refine ⟨cs', ccs', ?_, e2, e3⟩
          rw [← e1]
          simp only [Instr.fill, hpl, hxl]
          rw [if_neg (by simp; omega)]
          congr 1
          rw [← Array.foldl_toList]
          congr 1
          simp
theorem op_build {o : Oper} {K : V → Heap → Nat → Prop} (t : TypeId) (parts : Array (Nat × Operand)) (ho : o.op = .build t parts) {ti : TI} (hti : tiOf P t = some ti) {fs : List (TypeId × Nat × Nat)} (hd : ti.d = .struct fs)
    (hfs : ∀ f ∈ fs, ∃ tf, tiOf P f.1 = some tf) (h : fillP (fun i => (fs[i]?).map fun f => (f.2.1, f.2.2)) (ti.zero.map .val) (parts.toList.map fun p => (p.1, evalV σ.t p.2)) (fun cs => K (.agg cs) σ.H σ.k)) : OpT fr P o σ K :=
  opT_run fun F ι a w hh => by
    obtain ⟨gs, hr, hm⟩ := run_und_struct hti hd w
    obtain ⟨z, hz, hzc, hzs⟩ := run_zeroValue hti w
    have hz' : VRels ι (Own F ι σ.H) w (ti.zero.map .val) z.cells.toList := by rw [hzc]; exact VRels.vals (zero_oneCell hti).1
    have hpv : ∀ ps : List (Nat × Operand), VRels ι (Own F ι σ.H) w ((ps.map fun p => (p.1, evalV σ.t p.2)).map Prod.snd) ((ps.map fun p => (p.1, a.eval p.2)).map Prod.snd) := by
      intro ps
      induction ps with
      | nil => exact .nil
      | cons p ps ih => exact .cons (hh.eval p.2) ih
    obtain ⟨cs', ccs', e1, e2, e3⟩ := fillP_sound (ι := ι) (O := Own F ι σ.H) (w := w) (parts.toList.map fun p => (p.1, evalV σ.t p.2)) (parts.toList.map fun p => (p.1, a.eval p.2)) _ z.cells _ h hz' (by simp [Function.comp_def]) (hpv _)
    have hpl : (gs.toList.mapM fun f => (P.info? f.type).map fun i => (f.offset, i.size)) = some (gs.toList.map fun f => (f.offset, P.cellsOf f.type)) := by
      have : ∀ l : List Field, (∀ f ∈ l, ∃ tf, tiOf P f.type = some tf) → (l.mapM fun f => (P.info? f.type).map fun i => (f.offset, i.size)) = some (l.map fun f => (f.offset, P.cellsOf f.type)) := by
        intro l
        induction l with
        | nil => intro _; rfl
        | cons f l ih =>
          intro hl
          obtain ⟨tf, htf⟩ := hl f (by simp)
          obtain ⟨d, i, z, hd, hi, hz, hs, ha, h1, h2, _⟩ := tiOf_spec htf
          simp [List.mapM_cons, ih (fun f hf => hl f (by simp [hf])), hi, Program.cellsOf]
      refine this _ fun f hf => hfs (f.type, f.offset, P.cellsOf f.type) ?_
      rw [← hm]; exact List.mem_map.2 ⟨f, hf, rfl⟩
    have hrp := run_places w gs.toList _ hpl
    have hfun : (fun i : Nat => (gs.toList.map fun f : Field => (f.offset, P.cellsOf f.type)).toArray[i]?) = (fun i => (fs[i]?).map fun (f : TypeId × Nat × Nat) => (f.2.1, f.2.2)) := by
      funext i
      rw [← hm]
      simp [Function.comp_def]
    refine ⟨ι, .agg cs', .agg ccs', σ.H, σ.k, w, ?_, e3, hh.same ?_⟩
    · unfold execOp; rw [ho]
      have hrp' : (gs.mapM fun f => Prod.mk f.offset <$> sizeOf f.type).run P w = .ok (gs.toList.map fun f => (f.offset, P.cellsOf f.type)).toArray w := by
        rw [Array.mapM_eq_mapM_toList]
        simp [hrp]
      have e1' : Instr.fill (fun i : Nat => (gs.toList.map fun f : Field => (f.offset, P.cellsOf f.type)).toArray[i]?) z.cells (parts.toList.map fun p => (p.1, a.eval p.2)) = some ccs' := by rw [hfun]; exact e1
      simp [Instr.build, hz, hr, hrp', Array.toList_map]
      simp at e1'
      rw [e1']
      rfl
    · exact .agg e2
theorem op_build_arr {o : Oper} {K : V → Heap → Nat → Prop} (t : TypeId) (parts : Array (Nat × Operand)) (ho : o.op = .build t parts) {ti te : TI} (hti : tiOf P t = some ti) {n : Nat} {e : TypeId} (hd : ti.d = .array n e) (hte : tiOf P e = some te)
    (h : fillP (fun i => some (i * te.size, te.size)) (ti.zero.map .val) (parts.toList.map fun p => (p.1, evalV σ.t p.2)) (fun cs => K (.agg cs) σ.H σ.k)) : OpT fr P o σ K :=
  opT_run fun F ι a w hh => by
    obtain ⟨z, hz, hzc, hzs⟩ := run_zeroValue hti w
    have hz' : VRels ι (Own F ι σ.H) w (ti.zero.map .val) z.cells.toList := by rw [hzc]; exact VRels.vals (zero_oneCell hti).1
    have hpv : ∀ ps : List (Nat × Operand), VRels ι (Own F ι σ.H) w ((ps.map fun p => (p.1, evalV σ.t p.2)).map Prod.snd) ((ps.map fun p => (p.1, a.eval p.2)).map Prod.snd) := by
      intro ps
      induction ps with
      | nil => exact .nil
      | cons p ps ih => exact .cons (hh.eval p.2) ih
    obtain ⟨cs', ccs', e1, e2, e3⟩ := fillP_sound (ι := ι) (O := Own F ι σ.H) (w := w) (parts.toList.map fun p => (p.1, evalV σ.t p.2)) (parts.toList.map fun p => (p.1, a.eval p.2)) _ z.cells _ h hz' (by simp [Function.comp_def]) (hpv _)
    refine ⟨ι, .agg cs', .agg ccs', σ.H, σ.k, w, ?_, e3, hh.same (.agg e2)⟩
    unfold execOp; rw [ho]
    simp [Instr.build, hz, run_und_array hti hd, run_sizeOf hte, Array.toList_map]
    rw [e1]
    rfl
theorem op_buildSlice (hfr : fr σ.k) {o : Oper} {K : V → Heap → Nat → Prop} (t : TypeId) (len : Nat) (parts : Array (Nat × Operand)) (ho : o.op = .buildSlice t len parts) {ti te : TI} (hti : tiOf P t = some ti) {e : TypeId} (hd : ti.d = .slice e) (hte : tiOf P e = some te)
    (hs : 0 < te.size) (hidx : parts.toList.map Prod.fst = List.range len) (hbig : len * te.size ≤ 16777216) (hfit : ∀ p ∈ parts.toList, (evalV σ.t p.2).fits te.size = true)
    (hk : K (.sl σ.k 0 len) ((σ.k, .rows te.size (parts.toList.map fun p => evalV σ.t p.2)) :: σ.H) (σ.k + 1)) : OpT fr P o σ K :=
  opT_run fun F ι a w hh => by
    obtain ⟨z, hz, hzc, hzs⟩ := run_zeroValue hte w
    have hlen : parts.toList.length = len := by have := congrArg List.length hidx; simpa using this
    have hvals : VRels ι (Own F ι σ.H) w ((parts.toList.map fun p => evalV σ.t p.2).flatMap V.cells) ((parts.toList.map fun p => a.eval p.2).flatMap fun v => v.cells.toList) ∧ (∀ v ∈ parts.toList.map fun p => a.eval p.2, v.cells.size = te.size) := by
      have : ∀ ps : List (Nat × Operand), (∀ p ∈ ps, (evalV σ.t p.2).fits te.size = true) → VRels ι (Own F ι σ.H) w ((ps.map fun p => evalV σ.t p.2).flatMap V.cells) ((ps.map fun p => a.eval p.2).flatMap fun v => v.cells.toList) ∧ (∀ v ∈ ps.map fun p => a.eval p.2, v.cells.size = te.size) := by
        intro ps
        induction ps with
        | nil => intro _; exact ⟨.nil, by simp⟩
        | cons p ps ih =>
          intro hp
          have hf := fits_iff.1 (hp p (by simp))
          have hany : (evalV σ.t p.2).isAny = false := by
            cases h : evalV σ.t p.2 <;> simp_all [V.isAny, V.cells, V.one]
          have hc := (hh.eval p.2).cells hany
          obtain ⟨i1, i2⟩ := ih fun q hq => hp q (by simp [hq])
          refine ⟨by simpa using hc.append i1, ?_⟩
          intro v hv
          simp only [List.map_cons, List.mem_cons] at hv
          rcases hv with rfl | hv
          · rw [← Array.length_toList, ← hc.length, hf.1]
          · exact i2 v hv
      exact this _ hfit
    have hzip : (parts.toList.map fun p => (p.1, a.eval p.2)) = (((parts.toList.map fun p => a.eval p.2).zipIdx 0).map fun x => (x.2, x.1)) := by
      apply List.ext_getElem?
      intro q
      simp only [List.getElem?_map, List.getElem?_zipIdx]
      cases hq : parts.toList[q]? with
      | none => simp
      | some p =>
        have := congrArg (·[q]?) hidx
        simp only [List.getElem?_map, hq, Option.map_some] at this
        have hql : q < len := by rw [← hlen]; exact (List.getElem?_eq_some_iff.1 hq).1
        rw [List.getElem?_range hql] at this
        simp at this
        simp [this]
    have hfl : ((parts.toList.map fun p => a.eval p.2).flatMap fun v => v.cells.toList).length = len * te.size := by
      rw [← hvals.1.length, length_flatMap_cells (sz := te.size)]
      · simp [hlen]
      · intro v hv
        obtain ⟨p, hp, rfl⟩ := List.mem_map.1 hv
        exact (fits_iff.1 (hfit p hp)).1
    have hfill := Great.fill_whole hs (parts.toList.map fun p => a.eval p.2) ((Array.range (len * te.size)).map (z.cells[· % z.cells.size]!)) hvals.2 (by simp [hlen])
    have hrun : (Instr.buildSlice t len (parts.map fun (i, x) => (i, a.eval x))).run P w =
        .ok (.slice (some ⟨w.heap.size, 0, none⟩) len len) (w.alloc (.cells ((parts.toList.map fun p => a.eval p.2).flatMap fun v => v.cells.toList).toArray e)) := by
      have hb : ¬ (len * te.size > 2 ^ 24) := by omega
      have hzip' : ((parts.map fun x : Nat × Operand => (x.1, a.eval x.2)).toList) = (((parts.toList.map fun p => a.eval p.2).zipIdx 0).map fun x => (x.2, x.1)) := by
        rw [Array.toList_map]; exact hzip
      by_cases h0 : len * te.size = 0
      · have hl0 : len = 0 := by
          rcases Nat.mul_eq_zero.1 h0 with h | h
          · exact h
          · omega
        subst hl0
        have hp0 : parts.toList = [] := List.eq_nil_of_length_eq_zero hlen
        have hp0' : parts = #[] := by cases parts; simp at hp0; subst hp0; rfl
        subst hp0'
        simp [Instr.buildSlice, run_und_slice hti hd, run_sizeOf hte, Instr.fill, newRow, Array.range_zero']
      · simp only [Instr.buildSlice, Sem.run_bind, run_und_slice hti hd, run_sizeOf hte, Result.andThen_ok, hb, if_false, h0, hz, Sem.run_pure, hzip', hfill, newRow, run_newObj, World.alloc_eq]
    refine ⟨_, .sl σ.k 0 len, .slice (some ⟨w.heap.size, 0, none⟩) len len, _, _, w.alloc (.cells ((parts.toList.map fun p => a.eval p.2).flatMap fun v => v.cells.toList).toArray e), ?_, hk, out_newRow hfr hh e te.size _ ?_ ((parts.toList.map fun p => a.eval p.2).flatMap fun v => v.cells.toList).toArray ?_ ?_ w rfl rfl (Tp.refl _) rfl ?_⟩
    · unfold execOp; rw [ho]
      simp only [Sem.run_bind, hrun, Result.andThen_ok, Sem.run_pure]
    · intro v hv
      obtain ⟨p, hp, rfl⟩ := List.mem_map.1 hv
      exact hfit p hp
    · simp only [List.size_toArray, hfl, List.length_map, hlen]; exact Nat.le_refl _
    · simp only [List.length_map, hlen]
      rw [List.take_of_length_le (by simp only [hfl]; exact Nat.le_refl _)]
      exact hvals.1
    · intro ι' h
      by_cases h0 : len = 0
      · subst h0; exact .sl0 h
      · refine .sl h rfl rfl (by simp) (by omega) (Nat.le_refl _) ?_ ?_
        · have : len ≤ len * te.size := Nat.le_mul_of_pos_right len hs
          simp only [maxLen]; omega
        · simp only [List.size_toArray, hfl, Nat.zero_add]; exact Nat.le_refl _
omit [Md] in
theorem VRels.evals (hh : Holds fr F ι σ a w) (xs : List Operand) : VRels ι (Own F ι σ.H) w (xs.map (evalV σ.t)) (xs.map a.eval) := by
 induction xs with
 | nil => exact .nil
 | cons x xs ih => exact .cons (hh.eval x) ih
theorem op_call {o : Oper} {K : V → Heap → Nat → Prop} (f : Operand) (args : Array Operand) (ts : Array TypeId) (ho : o.op = .call ⟨.value f, args, ts⟩) {g : FuncId} {fs cs : List V} (hf : evalV σ.t f = .fn (.func g) fs cs)
    (h : Fn P g (fs ++ args.toList.map (evalV σ.t) ++ cs) σ.H σ.k K) : OpT All P o σ K := by
  intro F ι a w hh next Q hn
  have he := hh.eval f
  rw [hf] at he
  generalize hcv : a.eval f = cv at he
  cases he with
  | fn h1 h2 =>
    rename_i fs' cs'
    obtain ⟨fn, hg, hnm, hbody⟩ := h.enters
    have hargs := (h1.append (VRels.evals hh args.toList)).append h2
    have hc := h.calls F ι w _ hargs hh.rep (fun n => hh.fresh n trivial)
    have hrun : (execOp a.eval o).run P w = .ok (.enter g (fs' ++ args.toList.map a.eval ++ cs').toArray) w := by
      unfold execOp; rw [ho]
      have e1 : fs'.toArray ++ args.map a.eval ++ cs'.toArray = (fs' ++ args.toList.map a.eval ++ cs').toArray := by
        apply Array.ext'; simp
      simp only [resolve, hcv, Deferred.ofValue, invoke, callFunc, Sem.run_bind, Sem.run_pure, Result.andThen_ok, run_program, hg, hnm, hbody, Bool.false_eq_true, if_false, e1]
    unfold Oper.wp
    rw [hrun]
    refine Calls.mono hc ?_
    rintro e w' ⟨ι', v, cv', H', k', rfl, hk, hO⟩
    exact hn ι' v cv' H' k' w' hk hO
end
end Go.Sl
namespace Go.Sl
variable [Md]
section
variable {fr : Nat → Prop} {F : Nat → Prop} {ι ι' : Names} {O : Nat → Prop} {H : Heap} {σ σ' : St} {a a' : Act} {w w' : World} {P : Program} {T : Tab}
def lenV : V → Option Nat
 | .val (.string s) => some s.size
 | .val (.slice none 0 0) => some 0
 | .sl _ _ len => some len
 | .sub _ _ _ _ len => some len
 | .ro _ es => some es.length
 | _ => none
def lenD : D → V → Bool
 | .string, .val (.string _) => true
 | .slice _, .val (.slice ..) | .slice _, .sl .. | .slice _, .sub .. | .slice _, .ro .. => true
 | _, _ => false
theorem op_len {o : Oper} {K : V → Heap → Nat → Prop} (x : Operand) (t : TypeId) (ho : o.op = .call ⟨.builtin .len, #[x], #[t]⟩) {ti : TI} (hti : tiOf P t = some ti) (hd : lenD ti.d (evalV σ.t x) = true) {n : Nat} (hn : lenV (evalV σ.t x) = some n)
    (hk : K (.val (.int .i64 n)) σ.H σ.k) : OpT fr P o σ K :=
  opT_pure hk fun F ι a w hh => by
    have he := hh.eval x
    obtain ⟨d, hr, hu, h1⟩ := run_und hti w
    refine ⟨.int .i64 n, ?_, .val _ rfl⟩
    have key : (Builtin.len_ #[t] o.type #[a.eval x]).run P w = .ok (.int .i64 n) w := by
      generalize a.eval x = cv at he
      generalize evalV σ.t x = v at hd hn he
      rw [h1] at hd
      cases d with
      | string =>
        cases v with
        | val u =>
          have := he.inv_val; subst this
          cases cv <;> simp_all [lenD, lenV, D.of]
          simp [Builtin.len_, hr, goInt, hn]
        | _ => simp [lenD, D.of] at hd
      | slice e =>
        cases he with
        | val u h =>
          cases cv with
          | slice a l c =>
            cases a with
            | none => cases l <;> cases c <;> simp_all [lenV]; subst hn; simp [Builtin.len_, hr, goInt]
            | some a => simp [lenV] at hn
          | _ => simp_all [lenD, D.of]
        | sl _ _ _ _ _ _ _ _ => simp [lenV] at hn; subst hn; simp [Builtin.len_, hr, goInt]
        | sl0 _ => simp [lenV] at hn; subst hn; simp [Builtin.len_, hr, goInt]
        | sub _ _ _ _ _ _ _ => simp [lenV] at hn; subst hn; simp [Builtin.len_, hr, goInt]
        | ro0 => simp [lenV] at hn; subst hn; simp [Builtin.len_, hr, goInt]
        | ro _ _ _ _ hlen _ _ _ _ => simp [lenV] at hn; subst hn; subst hlen; simp [Builtin.len_, hr, goInt]
        | _ => simp [lenD, D.of] at hd
      | _ => simp [lenD, D.of] at hd
    unfold execOp; rw [ho]
    simp [resolve, invoke, builtin, key]
theorem op_min {o : Oper} {K : V → Heap → Nat → Prop} (x y : Operand) (ts : Array TypeId) (ho : o.op = .call ⟨.builtin .min, #[x, y], ts⟩) {k k' : IntKind} {m n : Int} (hx : evalV σ.t x = .val (.int k m)) (hy : evalV σ.t y = .val (.int k' n))
    (hk : K (.val (.int k (if n < m then n else m))) σ.H σ.k) : OpT fr P o σ K :=
  opT_pure hk fun F ι a w hh => by
    have he := hh.eval x
    have hi := hh.eval y
    rw [hx] at he; rw [hy] at hi
    refine ⟨_, ?_, .val _ rfl⟩
    unfold execOp; rw [ho]
    simp [resolve, invoke, builtin, he.inv_val, hi.inv_val, Builtin.min_, Builtin.min2]
theorem op_max {o : Oper} {K : V → Heap → Nat → Prop} (x y : Operand) (ts : Array TypeId) (ho : o.op = .call ⟨.builtin .max, #[x, y], ts⟩) {k k' : IntKind} {m n : Int} (hx : evalV σ.t x = .val (.int k m)) (hy : evalV σ.t y = .val (.int k' n))
    (hk : K (.val (.int k (if n > m then n else m))) σ.H σ.k) : OpT fr P o σ K :=
  opT_pure hk fun F ι a w hh => by
    have he := hh.eval x
    have hi := hh.eval y
    rw [hx] at he; rw [hy] at hi
    refine ⟨_, ?_, .val _ rfl⟩
    unfold execOp; rw [ho]
    simp [resolve, invoke, builtin, he.inv_val, hi.inv_val, Builtin.max_, Builtin.max2]
def boundV (t : List (Nat × V)) (d : Nat) : Option Operand → Option Int
 | none => some d
 | some x => match evalV t x with | .val (.int _ n) => some n | _ => none
omit [Md] in
theorem run_sliceBounds (b : Bool) (len cap : Nat) (lo hi : Option Value) (l h : Int) (hlo : lo = none ∧ l = 0 ∨ ∃ k, lo = some (.int k l)) (hhi : hi = none ∧ h = len ∨ ∃ k, hi = some (.int k h)) (h0 : 0 ≤ l) (h1 : l ≤ h) (h2 : h ≤ len) (hc : len ≤ cap) (w : World) :
    (Instr.sliceBounds b len cap lo hi none).run P w = .ok (l.toNat, h.toNat, cap) w := by
  have hh0 : 0 ≤ h := by omega
  have hhc : h ≤ cap := by omega
  rcases hhi with ⟨rfl, rfl⟩ | ⟨k, rfl⟩ <;> rcases hlo with ⟨rfl, rfl⟩ | ⟨k', rfl⟩ <;> simp [Instr.sliceBounds, Instr.sliceBound, asIntOf, h0, hh0, hhc, h1]
  · omega
omit [Md] in
theorem bound_eval (hh : Holds fr F ι σ a w) (d : Nat) (x : Option Operand) (n : Int) (h : boundV σ.t d x = some n) : (x.map a.eval = none ∧ n = d) ∨ ∃ k, x.map a.eval = some (.int k n) := by
 cases x with
 | none => simp [boundV] at h; exact .inl ⟨rfl, h.symm⟩
 | some x =>
  have he := hh.eval x
  simp only [boundV] at h
  split at h
  ·rename_i k m hv
   rw [hv] at he
   cases h
   exact .inr ⟨k, by simp [he.inv_val]⟩
  ·cases h
theorem op_slice_str {o : Oper} {K : V → Heap → Nat → Prop} (t : TypeId) (x : Operand) (lo hi : Option Operand) (ho : o.op = .slice t x lo hi none) {ti : TI} (hti : tiOf P t = some ti) (hd : ti.d = .string) {s : ByteArray} (hx : evalV σ.t x = .val (.string s))
    {l h : Int} (hl : boundV σ.t 0 lo = some l) (hh' : boundV σ.t s.size hi = some h) (h0 : 0 ≤ l) (h1 : l ≤ h) (h2 : h ≤ s.size) (hk : K (.val (.string (s.extract l.toNat h.toNat))) σ.H σ.k) : OpT fr P o σ K :=
  opT_pure hk fun F ι a w hh => by
    have he := hh.eval x
    rw [hx] at he
    have hb := run_sliceBounds (P := P) false s.size s.size (lo.map a.eval) (hi.map a.eval) l h (by simpa using bound_eval hh 0 lo l hl) (bound_eval hh _ hi h hh') h0 h1 h2 (Nat.le_refl _) w
    refine ⟨_, ?_, .val _ rfl⟩
    unfold execOp; rw [ho]
    simp [he.inv_val, Instr.sliceAt, Instr.slice, run_und_string hti hd, hb]
theorem op_slice_nil {o : Oper} {K : V → Heap → Nat → Prop} (t : TypeId) (x : Operand) (lo hi : Option Operand) (ho : o.op = .slice t x lo hi none) {ti te : TI} (hti : tiOf P t = some ti) {e : TypeId} (hd : ti.d = .slice e) (hte : tiOf P e = some te) (hx : evalV σ.t x = .val (.slice none 0 0))
    {l h : Int} (hl : boundV σ.t 0 lo = some l) (hh' : boundV σ.t 0 hi = some h) (h0 : l = 0) (h1 : h = 0) (hk : K (.val (.slice none 0 0)) σ.H σ.k) : OpT fr P o σ K :=
  opT_pure hk fun F ι a w hh => by
    have he := hh.eval x
    rw [hx] at he
    subst h0 h1
    have hb := run_sliceBounds (P := P) true 0 0 (lo.map a.eval) (hi.map a.eval) 0 0 (by simpa using bound_eval hh 0 lo 0 hl) (bound_eval hh _ hi 0 hh') (by omega) (by omega) (by omega) (Nat.le_refl _) w
    refine ⟨.slice none 0 0, ?_, .val _ rfl⟩
    unfold execOp; rw [ho]
    simp [he.inv_val, Instr.sliceAt, Instr.slice, run_und_slice hti hd, hb, run_sizeOf hte]
theorem op_slice_sl {o : Oper} {K : V → Heap → Nat → Prop} (t : TypeId) (x : Operand) (lo hi : Option Operand) (ho : o.op = .slice t x lo hi none) {ti te : TI} (hti : tiOf P t = some ti) {e : TypeId} (hd : ti.d = .slice e) (hte : tiOf P e = some te)
    {n i len : Nat} {es : List V} (hx : evalV σ.t x = .sl n i len) (hn : look n σ.H = some (.rows te.size es))
    {l h : Int} (hl : boundV σ.t 0 lo = some l) (hh' : boundV σ.t len hi = some h) (h0 : 0 ≤ l) (h1 : l ≤ h) (h2 : h ≤ len) (hk : K (.sl n (i + l.toNat) (h.toNat - l.toNat)) σ.H σ.k) : OpT fr P o σ K :=
  opT_pure hk fun F ι a w hh => by
    have he := hh.eval x
    rw [hx] at he
    generalize hcv : a.eval x = cv at he
    cases he with
    | sl hl' hg hm hoff hc0 hlc hcm hs =>
      rename_i off cap L
      obtain ⟨e1, _⟩ := hh.rep.block hn hl' hg
      have hb := run_sliceBounds (P := P) true len cap (lo.map a.eval) (hi.map a.eval) l h (by simpa using bound_eval hh 0 lo l hl) (bound_eval hh _ hi h hh') h0 h1 h2 hlc w
      by_cases hcl : cap = l.toNat
      · subst hcl
        refine ⟨.slice (some ⟨L.b, off, none⟩) (h.toNat - l.toNat) (l.toNat - l.toNat), ?_, ?_⟩
        · unfold execOp; rw [ho]
          simp [hcv, Instr.sliceAt, Instr.slice, run_und_slice hti hd, hb, run_sizeOf hte]
        · rw [show h.toNat - l.toNat = 0 by omega, show l.toNat - l.toNat = 0 by omega]
          exact .sl0 hl'
      · refine ⟨.slice (some ⟨L.b, off + l.toNat * te.size, none⟩) (h.toNat - l.toNat) (cap - l.toNat), ?_, ?_⟩
        · unfold execOp; rw [ho]
          simp [hcv, Instr.sliceAt, Instr.slice, run_und_slice hti hd, hb, run_sizeOf hte, hcl, Addr.add_lit]
        · refine .sl hl' hg hm (by rw [hoff, e1, Nat.add_mul]; omega) (by omega) (by omega) (by omega) ?_
          have : (cap - l.toNat) * L.sz + l.toNat * te.size = cap * L.sz := by rw [e1, ← Nat.add_mul]; congr 1; omega
          omega
    | sl0 hl' =>
      rename_i L a0
      have hl0 : l = 0 := by omega
      have hh0 : h = 0 := by omega
      subst hl0 hh0
      have hb := run_sliceBounds (P := P) true 0 0 (lo.map a.eval) (hi.map a.eval) 0 0 (by simpa using bound_eval hh 0 lo 0 hl) (bound_eval hh _ hi 0 hh') (by omega) (by omega) (by omega) (Nat.le_refl _) w
      refine ⟨.slice a0 0 0, ?_, .sl0 hl'⟩
      unfold execOp; rw [ho]
      simp [hcv, Instr.sliceAt, Instr.slice, run_und_slice hti hd, hb, run_sizeOf hte]
theorem op_slice_ro {o : Oper} {K : V → Heap → Nat → Prop} (t : TypeId) (x : Operand) (lo hi : Option Operand) (ho : o.op = .slice t x lo hi none) {ti te : TI} (hti : tiOf P t = some ti) {e : TypeId} (hd : ti.d = .slice e) (hte : tiOf P e = some te)
    {es : List V} (hx : evalV σ.t x = .ro te.size es)
    {l h : Int} (hl : boundV σ.t 0 lo = some l) (hh' : boundV σ.t es.length hi = some h) (h0 : 0 ≤ l) (h1 : l ≤ h) (h2 : h ≤ es.length) (hk : K (.ro te.size ((es.drop l.toNat).take (h.toNat - l.toNat))) σ.H σ.k) : OpT fr P o σ K :=
  opT_pure hk fun F ι a w hh => by
    have he := hh.eval x
    rw [hx] at he
    generalize hcv : a.eval x = cv at he
    cases he with
    | ro0 =>
      rename_i cap a0
      have hl0 : l = 0 := by simp at h2; omega
      have hh0 : h = 0 := by simp at h2; omega
      subst hl0 hh0
      have hb := run_sliceBounds (P := P) true 0 cap (lo.map a.eval) (hi.map a.eval) 0 0 (by simpa using bound_eval hh 0 lo 0 hl) (bound_eval hh _ hi 0 hh') (by omega) (by omega) (by omega) (Nat.zero_le _) w
      refine ⟨.slice a0 0 cap, ?_, by simpa using VRel.ro0⟩
      unfold execOp; rw [ho]
      by_cases hc0 : cap = 0
      · subst hc0; simp [hcv, Instr.sliceAt, Instr.slice, run_und_slice hti hd, hb, run_sizeOf hte]
      · cases a0 <;> simp [hcv, Instr.sliceAt, Instr.slice, run_und_slice hti hd, hb, run_sizeOf hte, hc0, Addr.add_zero']
    | ro hb hO hw hsz hlen hlc hin hvs hv =>
      rename_i b off len cap c et fr vs
      subst hvs hlen
      have hbd := run_sliceBounds (P := P) true es.length cap (lo.map a.eval) (hi.map a.eval) l h (by simpa using bound_eval hh 0 lo l hl) (bound_eval hh _ hi h hh') h0 h1 h2 hlc w
      by_cases hcl : cap = l.toNat
      · subst hcl
        refine ⟨.slice (some ⟨b, off, none⟩) (h.toNat - l.toNat) (l.toNat - l.toNat), ?_, ?_⟩
        · unfold execOp; rw [ho]
          simp [hcv, Instr.sliceAt, Instr.slice, run_und_slice hti hd, hbd, run_sizeOf hte]
        · rw [show h.toNat - l.toNat = 0 by omega]
          exact .ro0
      · refine ⟨.slice (some ⟨b, off + l.toNat * te.size, none⟩) (h.toNat - l.toNat) (cap - l.toNat), ?_, ?_⟩
        · unfold execOp; rw [ho]
          simp [hcv, Instr.sliceAt, Instr.slice, run_und_slice hti hd, hbd, run_sizeOf hte, hcl, Addr.add_lit]
        · have hcl : ∀ v ∈ es, v.cells.length = te.size := fun v hv => (fits_iff.1 (hsz v hv)).1
          have hlen' : ((es.drop l.toNat).take (h.toNat - l.toNat)).length = h.toNat - l.toNat := by simp; omega
          have hmul : l.toNat * te.size + (h.toNat - l.toNat) * te.size ≤ es.length * te.size := by rw [← Nat.add_mul]; exact Nat.mul_le_mul_right _ (by omega)
          have hv' := (hv.drop (l.toNat * te.size)).take ((h.toNat - l.toNat) * te.size)
          rw [flatMap_drop hcl, flatMap_take (fun v hv => hcl v (List.mem_of_mem_drop hv))] at hv'
          have hlist : (((c.toList.drop off).take (es.length * te.size)).drop (l.toNat * te.size)).take ((h.toNat - l.toNat) * te.size) = (c.toList.drop (off + l.toNat * te.size)).take ((h.toNat - l.toNat) * te.size) := by
            apply List.ext_getElem?
            intro q
            simp only [List.getElem?_take, List.getElem?_drop]
            by_cases hq : q < (h.toNat - l.toNat) * te.size
            · simp only [hq, if_true, show l.toNat * te.size + q < es.length * te.size by omega]
              congr 1; omega
            · simp [hq]
          rw [hlist] at hv'
          exact .ro hb hO hw (fun v hv => hsz v (List.mem_of_mem_drop (List.mem_of_mem_take hv))) hlen'.symm (by omega) (by rw [hlen']; omega) (by rw [hlen']) hv'
def newsV (H : Heap) (sz : Nat) : V → Option (List V)
 | .val (.slice none 0 0) => some []
 | .ro sz' es => if sz' = sz then some es else none
 | .sl n i len => match look n H with
  | some (.rows sz' es) => if sz' = sz then (if i + len ≤ es.length then some ((es.drop i).take len) else none) else none
  | _ => none
 | _ => none
omit [Md] in
theorem news_cells (hh : Holds fr F ι σ a w) {sz : Nat} {x : V} {cv : Value} {es : List V} (h : newsV σ.H sz x = some es) (hx : VRel ι (Own F ι σ.H) w x cv) :
    (∀ v ∈ es, v.fits sz = true) ∧ ((∃ cap, cv = .slice none 0 cap ∧ es = []) ∨ ∃ ad cap, cv = .slice (some ad) es.length cap ∧ ∃ vs : List Value, vs.length = es.length * sz ∧ VRels ι (Own F ι σ.H) w (es.flatMap V.cells) vs ∧ ∀ j u, vs[j]? = some u → w.cell? (ad.add j) = some u) := by
  cases hx with
  | val v hv =>
    cases cv with
    | slice a l c =>
      cases a with
      | none => cases l <;> cases c <;> simp_all [newsV]
      | some a => simp [newsV] at h
    | _ => simp [newsV] at h
  | ro0 =>
    rename_i sz' cap a0
    simp only [newsV] at h
    split at h
    · cases h
      refine ⟨by simp, ?_⟩
      cases a0 with
      | none => exact .inl ⟨_, rfl, rfl⟩
      | some a0 => exact .inr ⟨a0, cap, rfl, [], by simp, .nil, by simp⟩
    · cases h
  | ro hb hO hw hsz hlen hlc hin hvs hv =>
    rename_i sz' b off len cap es' c et fr vs
    simp only [newsV] at h
    split at h
    · subst_vars
      cases h
      exact ⟨hsz, .inr ⟨_, cap, rfl, _, by simp; omega, hv, cells_at hw⟩⟩
    · cases h
  | sl hl hg hm hoff hc0 hlc hcm hs =>
    rename_i n i len off cap l
    simp only [newsV] at h
    split at h
    · rename_i sz' es' hn
      split at h
      · rename_i hsz; have hsz := hsz.symm; subst hsz
        split at h
        · rename_i hle
          cases h
          obtain ⟨e1, e2, e3, e4, e5, c, e, hw, hc, hlen, hv⟩ := hh.rep.block hn hl hg
          have hcl : ∀ v ∈ es', v.cells.length = sz := fun v hv => (fits_iff.1 (e3 v hv)).1
          refine ⟨fun v hv => e3 v (List.mem_of_mem_drop (List.mem_of_mem_take hv)), .inr ⟨_, cap, by rw [List.length_take, List.length_drop, show min len (es'.length - i) = len by omega, hoff], (c.toList.drop (l.o + i * l.sz)).take (len * sz), ?_, ?_, cells_at hw⟩⟩
          · have : (i + len) * sz ≤ es'.length * sz := Nat.mul_le_mul_right _ hle
            rw [Nat.add_mul] at this
            simp only [List.length_take, List.length_drop, Array.length_toList, e1]
            rw [show min len (es'.length - i) = len by omega]; omega
          · have hv' := (hv.drop (i * sz)).take (len * sz)
            rw [flatMap_drop hcl, flatMap_take (fun v hv => hcl v (List.mem_of_mem_drop hv))] at hv'
            have : (i + len) * sz ≤ es'.length * sz := Nat.mul_le_mul_right _ hle
            rw [Nat.add_mul] at this
            have hlist : (((c.toList.drop l.o).take (es'.length * sz)).drop (i * sz)).take (len * sz) = (c.toList.drop (l.o + i * l.sz)).take (len * sz) := by
              apply List.ext_getElem?
              intro q
              simp only [List.getElem?_take, List.getElem?_drop]
              by_cases hq : q < len * sz
              · simp only [hq, if_true, show i * sz + q < es'.length * sz by omega]
                congr 1; rw [e1]; omega
              · simp [hq]
            rw [hlist] at hv'; exact hv'
        · cases h
      · cases h
    · cases h
  | sl0 hl =>
    rename_i n i l a0
    simp only [newsV] at h
    split at h
    · split at h
      · split at h
        · cases h
          refine ⟨by simp, ?_⟩
          cases a0 with
          | none => exact .inl ⟨0, rfl, by simp⟩
          | some a0 => exact .inr ⟨a0, 0, by simp, [], by simp, by simpa using VRels.nil, by simp⟩
        · cases h
      · cases h
    · cases h
  | _ => simp [newsV] at h
end
end Go.Sl
namespace Go.Sl
variable [Md]
section
variable {fr : Nat → Prop} {F : Nat → Prop} {ι ι' : Names} {O : Nat → Prop} {H : Heap} {σ σ' : St} {a a' : Act} {w w' : World} {P : Program} {T : Tab}
omit [Md] in
theorem underlying_slice {t : TypeId} {ti : TI} (h : tiOf P t = some ti) {e : TypeId} (hd : ti.d = .slice e) : P.underlying t = some (.slice e) := by
 obtain ⟨d, _, hu, h1⟩ := run_und h (default : World)
 rw [hu, D.of_slice (h1.symm.trans hd)]
omit [Md] in
theorem splice_tail {α : Type} (cs vs : List α) (off m : Nat) (h : off + m + vs.length ≤ cs.length) : ((splice cs (off + m) vs).drop off).take (m + vs.length) = (cs.drop off).take m ++ vs := by
 apply List.ext_getElem?
 intro q
 have hl : ((cs.drop off).take m).length = m := by rw [List.length_take, List.length_drop]; omega
 simp only [List.getElem?_take, List.getElem?_drop]
 rw [getElem?_splice cs vs (off + m) (off + q) (by omega)]
 by_cases h1 : q < m
 ·rw [List.getElem?_append_left (by omega), if_pos (by omega), if_neg (by omega), List.getElem?_take, if_pos h1, List.getElem?_drop]
 ·rw [List.getElem?_append_right (by omega), hl]
  by_cases h2 : q < m + vs.length
  ·rw [if_pos h2, if_pos (by omega)]; congr 1; omega
  ·rw [if_neg h2, List.getElem?_eq_none (by omega)]
omit [Md] in
theorem run_append_fits {t u ty e : TypeId} {ti tu te : TI} (hti : tiOf P t = some ti) (hd : ti.d = .slice e) (htu : tiOf P u = some tu) {e' : TypeId} (hdu : tu.d = .slice e') (hte : tiOf P e = some te)
    (base : Option Addr) (sLen sCap n : Nat) (x : Value) (hx : ∀ w, (Builtin.lenOf x).run P w = .ok n w) (vs : List Value) (hvs : (Builtin.firstCells te.size n x).run P w = .ok vs.toArray w) (hfit : sLen + n ≤ sCap)
    (w1 : World) (hst : (match base with | some a => (storeCells (a.add (sLen * te.size)) vs).run P w | none => .ok () w) = .ok () w1) :
    (Builtin.append_ #[t, u] ty #[.slice base sLen sCap, x]).run P w = .ok (.slice base (sLen + n) sCap) w1 := by
  obtain ⟨i, z, hri, hi, h1, h2, hz, hzc⟩ := run_typeInfo hte w
  cases base with
  | none =>
    simp only [] at hst
    cases hst
    simp [Builtin.append_, run_und_slice hti hd, run_und_slice htu hdu, run_sizeOf hte, hx, hvs, hfit]
  | some a =>
    simp only [] at hst
    simp [Builtin.append_, run_und_slice hti hd, run_und_slice htu hdu, run_sizeOf hte, hx, hvs, hfit, hst]
omit [Md] in
theorem run_append_grows {t u ty e : TypeId} {ti tu te : TI} (hti : tiOf P t = some ti) (hd : ti.d = .slice e) (htu : tiOf P u = some tu) {e' : TypeId} (hdu : tu.d = .slice e') (hte : tiOf P e = some te)
    (base : Option Addr) (sLen sCap n : Nat) (x : Value) (hx : ∀ w, (Builtin.lenOf x).run P w = .ok n w) (vs us : List Value) (hvs : (Builtin.firstCells te.size n x).run P w.drew = .ok vs.toArray w.drew)
    (hus : (Builtin.firstCells te.size sLen (.slice base sLen sCap)).run P w.drew = .ok us.toArray w.drew) (hg : sCap < sLen + n) (hb : (sLen + n) * te.bytes ≤ 140737488355328) (hb0 : 0 < te.bytes) :
    ∃ zs : Array Value, (Builtin.append_ #[t, u] ty #[.slice base sLen sCap, x]).run P w =
      .ok (.slice (some ⟨w.heap.size, 0, none⟩) (sLen + n) (grownCap w (sLen + n) sCap e)) (w.drew.alloc (.cells (us.toArray ++ vs.toArray ++ zs) e)) ∧ zs.size = (grownCap w (sLen + n) sCap e - (sLen + n)) * te.size := by
  obtain ⟨i, z, hri, hi, h1, h2, hz, hzc⟩ := run_typeInfo hte w
  have hfit := growslice_fits hg hb
  have hn : ¬ (sLen + n ≤ sCap) := by omega
  have hle : sLen + n ≤ (sLen + n) * te.bytes := Nat.le_mul_of_pos_right _ hb0
  have h63' : ¬ (9223372036854775807 < ((sLen : Int) + (n : Int))) := by omega
  have h48' : ¬ (281474976710656 < Builtin.nextslicecap (sLen + n) sCap * te.bytes) := by omega
  have hzs : z.cells.size = te.size := by
    have := (zero_oneCell hte).2
    rw [← hzc] at this; simpa using this
  refine ⟨Builtin.zeroCells z.cells (grownCap w (sLen + n) sCap e - (sLen + n)), ?_, by rw [size_zeroCells, hzs]⟩
  have hinfo : ∀ w, (typeInfo e).run P w = .ok i w := fun w => by simp [typeInfo, hi]
  have hzv : ∀ w, (zeroValue e).run P w = .ok z w := fun w => by simp [zeroValue, typeInfo, hi, hz]
  simp [Builtin.append_, run_und_slice hti hd, run_und_slice htu hdu, run_sizeOf hte, hx, hn, h63', h48', hinfo, h2, Question.forced, hvs, hus, hzv, newRow, grownCap]
  congr 2
  apply Array.ext'
  simp
omit [Md] in
theorem newsV_run (hh : Holds fr F ι σ a w) {sz : Nat} {x : V} {cv : Value} {es : List V} (h : newsV σ.H sz x = some es) (hx : VRel ι (Own F ι σ.H) w x cv) :
    ∃ vs : List Value, VRels ι (Own F ι σ.H) w (es.flatMap V.cells) vs ∧ vs.length = es.length * sz ∧ (∀ w, (Builtin.lenOf cv).run P w = .ok es.length w) ∧
      (Builtin.firstCells sz es.length cv).run P w = .ok vs.toArray w ∧ (Builtin.firstCells sz es.length cv).run P w.drew = .ok vs.toArray w.drew := by
  obtain ⟨_, h'⟩ := news_cells hh h hx
  rcases h' with ⟨cap, rfl, rfl⟩ | ⟨ad, cap, rfl, vs, hl, hv, hc⟩
  · exact ⟨[], .nil, by simp, fun w => by simp [Builtin.lenOf], by simp [Builtin.firstCells], by simp [Builtin.firstCells]⟩
  · exact ⟨vs, hv, hl, fun w => by simp [Builtin.lenOf], run_firstCells_some w sz es.length ad es.length cap vs hl hc, run_firstCells_some w.drew sz es.length ad es.length cap vs hl (by simpa using hc)⟩
theorem out_append_new {k : Nat} (hk : ι k = none) (hfk : fr k) (hfr : ∀ n, fr n → k + 1 ≤ n → ι n = none) (R : Rep F ι H w) (e : TypeId) (sz : Nat) (es : List V) (hfit : ∀ v ∈ es, v.fits sz = true) (vs : List Value) (zs : Array Value) (hl : vs.length = es.length * sz)
    (hv : VRels ι (Own F ι H) w (es.flatMap V.cells) vs) (cap : Nat) (h0 : 0 < cap) (hlc : es.length ≤ cap) (hcm : cap ≤ maxLen) (hzs : zs.size = (cap - es.length) * sz) :
    Out fr F ι H k w (upd ι k ⟨w.heap.size, 0, sz, (vs.toArray ++ zs).size, false, false⟩) (.sl k 0 es.length) (.slice (some ⟨w.heap.size, 0, none⟩) es.length cap) ((k, .rows sz es) :: H) (k + 1) (w.drew.alloc (.cells (vs.toArray ++ zs) e)) := by
  have hhp : ∀ i, i < w.heap.size → (w.drew.alloc (.cells (vs.toArray ++ zs) e)).heap[i]? = w.heap[i]? := fun i hi => heap_alloc_old w.drew _ i hi
  have hsz : (w.drew.alloc (.cells (vs.toArray ++ zs) e)).heap.size = w.heap.size + 1 := by simp
  refine ⟨⟨kept_alloc R hk _ _ rfl rfl (Tp.drew w) rfl (by omega) hhp, Nat.le_succ _, fun n hn => upd_other _ _ _ _ (fun e => by subst e; have := hn hfk; omega), ?_⟩, ?_, ?_, ?_⟩
  · intro n hn
    simp only [List.map_cons, List.mem_cons] at hn
    rcases hn with hn | hn
    · subst hn; exact .inr ⟨hfk, by omega⟩
    · exact .inl hn
  · refine R.alloc hk _ _ rfl rfl (Tp.drew w) rfl (by omega) hhp fun ι' O' S => ⟨rfl, rfl, hfit, .inr ⟨rfl, _, e, heap_alloc_new w.drew _, rfl, ?_, ?_⟩⟩
    · simp only [Nat.zero_add, Array.size_append, List.size_toArray, hl]; omega
    · have : (((vs.toArray ++ zs).toList.drop 0).take (es.length * sz)) = vs := by
        simp only [Array.toList_append, List.drop_zero]
        rw [← hl]; exact List.take_left
      rw [this]; exact hv.stays S
  · intro n hf hn
    rw [upd_other _ _ _ _ (by omega)]
    exact hfr n hf hn
  · refine .sl (upd_same _ _ _) rfl rfl (by simp) h0 hlc hcm ?_
    simp only [Nat.zero_add, Array.size_append, List.size_toArray, hl, hzs, ← Nat.add_mul]
    exact Nat.mul_le_mul_right _ (by omega)
theorem op_append (hfk : fr σ.k) {o : Oper} {K : V → Heap → Nat → Prop} (s x : Operand) (t u : TypeId) (ho : o.op = .call ⟨.builtin .append, #[s, x], #[t, u]⟩) {ti tu te : TI} (hti : tiOf P t = some ti) {e e' : TypeId} (hd : ti.d = .slice e) (htu : tiOf P u = some tu) (hdu : tu.d = .slice e')
    (hte : tiOf P e = some te) (hsz : 0 < te.size) (hb0 : 0 < te.bytes) {olds news : List V} {H0 : Heap}
    (hs : evalV σ.t s = .val (.slice none 0 0) ∧ olds = [] ∧ H0 = σ.H ∨ ∃ n i len es, evalV σ.t s = .sl n i len ∧ look n σ.H = some (.rows te.size es) ∧ i + len ≤ es.length ∧ olds = (es.drop i).take len ∧ H0 = del n σ.H)
    (hx : newsV σ.H te.size (evalV σ.t x) = some news) (hb : (olds.length + news.length) * te.bytes ≤ 140737488355328)
    (hk : K (.sl σ.k 0 (olds.length + news.length)) ((σ.k, .rows te.size (olds ++ news)) :: H0) (σ.k + 1)) : OpT fr P o σ K :=
  opT_run fun F ι a w hh => by
    have hle : olds.length + news.length ≤ (olds.length + news.length) * te.bytes := Nat.le_mul_of_pos_right _ hb0
    have hml : olds.length + news.length ≤ maxLen := by simp only [maxLen]; omega
    have hev := hh.eval x
    obtain ⟨hnf, _⟩ := news_cells hh hx hev
    obtain ⟨vs, hvs, hvl, hlen, hfc, hfc'⟩ := newsV_run (P := P) hh hx hev
    have hk0 := hh.fresh σ.k hfk (Nat.le_refl _)
    have hfr : ∀ n, fr n → σ.k + 1 ≤ n → ι n = none := fun n hf hn => hh.fresh n hf (by omega)
    have hexec : ∀ y W, (Builtin.append_ #[t, u] o.type #[a.eval s, a.eval x]).run P w = .ok y W → (execOp a.eval o).run P w = .ok (.value y) W := by
      intro y W h
      unfold execOp; rw [ho]
      simp [resolve, invoke, builtin, h]
    -- nothing there, and nothing comes
    have empty : ∀ (n : Option Nat) (base : Option Addr), a.eval s = .slice base 0 0 → H0 = (match n with | some n => del n σ.H | none => σ.H) → olds = [] → news = [] →
        ∃ ι' v cv H' k' w', (execOp a.eval o).run P w = .ok (.value cv) w' ∧ K v H' k' ∧ Out fr F ι σ.H σ.k w ι' v cv H' k' w' := by
      intro n base hs0 hH0 h1 h2
      subst h1 h2
      have hvs0 : vs = [] := List.eq_nil_of_length_eq_zero (by simpa using hvl)
      subst hvs0
      have R0 : Rep F ι H0 w := by rw [hH0]; cases n with
        | none => exact hh.rep
        | some n => exact hh.rep.del n
      have K0 : Kept ι σ.H w ι H0 w := by rw [hH0]; cases n with
        | none => exact .refl _ _ _
        | some n => exact kept_del hh.rep n
      have hsub : ∀ m, m ∈ H0.map Prod.fst → m ∈ σ.H.map Prod.fst := by
        rw [hH0]; cases n with
        | none => exact fun m h => h
        | some n => exact fun m h => (names_del_sub n σ.H).mem h
      obtain ⟨R1, K1⟩ := R0.ghost hk0 te.size
      refine ⟨_, .sl σ.k 0 0, .slice base 0 0, _, _, w, hexec _ _ ?_, hk, ⟨⟨K0.trans K1, Nat.le_succ _, fun n hn => upd_other _ _ _ _ (fun e => by subst e; have := hn hfk; omega), ?_⟩, R1, ?_, .sl0 (upd_same _ _ _)⟩⟩
      · rw [hs0]
        exact run_append_fits hti hd htu hdu hte base 0 0 0 _ hlen [] hfc (by omega) w (by cases base <;> simp [storeCells])
      · intro m hm
        simp only [List.map_cons, List.mem_cons] at hm
        rcases hm with hm | hm
        · subst hm; exact .inr ⟨hfk, by omega⟩
        · exact .inl (hsub m hm)
      · intro m hf hm
        rw [upd_other _ _ _ _ (by omega)]
        exact hfr m hf hm
    -- a new row
    have fresh : ∀ (n : Option Nat) (base : Option Addr) (cap : Nat) (us : List Value), a.eval s = .slice base olds.length cap → H0 = (match n with | some n => del n σ.H | none => σ.H) → (∀ v ∈ olds, v.fits te.size = true) → us.length = olds.length * te.size →
        VRels ι (Own F ι σ.H) w (olds.flatMap V.cells) us → (Builtin.firstCells te.size olds.length (.slice base olds.length cap)).run P w.drew = .ok us.toArray w.drew → cap < olds.length + news.length →
        ∃ ι' v cv H' k' w', (execOp a.eval o).run P w = .ok (.value cv) w' ∧ K v H' k' ∧ Out fr F ι σ.H σ.k w ι' v cv H' k' w' := by
      intro n base cap us hs0 hH0 hof hul hus hus' hg
      have R0 : Rep F ι H0 w := by rw [hH0]; cases n with
        | none => exact hh.rep
        | some n => exact hh.rep.del n
      have K0 : Kept ι σ.H w ι H0 w := by rw [hH0]; cases n with
        | none => exact .refl _ _ _
        | some n => exact kept_del hh.rep n
      have hsub : ∀ m, m ∈ H0.map Prod.fst → m ∈ σ.H.map Prod.fst := by
        rw [hH0]; cases n with
        | none => exact fun m h => h
        | some n => exact fun m h => (names_del_sub n σ.H).mem h
      obtain ⟨zs, hr, hzs⟩ := run_append_grows (w := w) (ty := o.type) hti hd htu hdu hte base olds.length cap news.length _ hlen vs us hfc' hus' hg hb hb0
      have hO := out_append_new (e := e) hk0 hfk hfr R0 te.size (olds ++ news) (fun v hv => (List.mem_append.1 hv).elim (hof v) (hnf v)) (us ++ vs) zs (by rw [List.length_append, hul, hvl, List.length_append, Nat.add_mul])
        (by rw [List.flatMap_append]; exact (hus.stays K0.stays).append (hvs.stays K0.stays)) (grownCap w (olds.length + news.length) cap e)
        (by have := grownCap_ge w (olds.length + news.length) cap e; omega) (by rw [List.length_append]; exact grownCap_ge _ _ _ _) (grownCap_le_maxLen _ _ _ _ hml) (by rw [List.length_append]; exact hzs)
      rw [List.length_append] at hO
      have hcells : us.toArray ++ vs.toArray ++ zs = (us ++ vs).toArray ++ zs := by simp
      rw [hcells] at hr
      refine ⟨_, _, _, _, _, _, hexec _ _ (by rw [hs0]; exact hr), hk, ⟨⟨K0.trans hO.ext.kept, hO.ext.le, hO.ext.same, ?_⟩, hO.rep, hO.fresh, hO.val⟩⟩
      intro m hm
      exact (hO.ext.dom m hm).imp (hsub m) id
    have hes := hh.eval s
    rcases hs with ⟨hs, hol, hH0⟩ | ⟨n, i, len, es, hs, hn, hil, hol, hH0⟩
    · rw [hs] at hes
      have hes := hes.inv_val
      subst hol
      by_cases h0 : news = []
      · exact empty none none hes hH0 rfl h0
      · have : 0 < news.length := List.length_pos_iff.2 h0
        exact fresh none none 0 [] (by simpa using hes) hH0 (by simp) (by simp) .nil (by simp [Builtin.firstCells]) (by simpa using this)
    · rw [hs] at hes
      have holl : olds.length = len := by rw [hol, List.length_take, List.length_drop]; omega
      generalize hcv : a.eval s = cv at hes
      cases hes with
      | sl0 hl =>
        rename_i l a0
        have hol0 : olds = [] := List.eq_nil_of_length_eq_zero holl
        by_cases h0 : news = []
        · exact empty (some n) a0 hcv hH0 hol0 h0
        · have : 0 < news.length := List.length_pos_iff.2 h0
          have hz : (Builtin.firstCells te.size olds.length (.slice a0 olds.length 0)).run P w.drew = .ok ([] : List Value).toArray w.drew := by
            rw [hol0]; cases a0 <;> simp [Builtin.firstCells, loadCells, loadCellsFrom]
          exact fresh (some n) a0 0 [] (by rw [hol0]; exact hcv) hH0 (by rw [hol0]; simp) (by rw [hol0]; simp) (by rw [hol0]; exact .nil) hz (by omega)
      | sl hl hg hm hoff hc0 hlc hcm hsz' =>
        rename_i off cap l
        have hnews0 : newsV σ.H te.size (evalV σ.t s) = some olds := by
          rw [hs]; simp only [newsV, hn, if_true, if_pos hil, hol]
        obtain ⟨hof, _⟩ := news_cells hh hnews0 (hh.eval s)
        obtain ⟨us, hus, hul, _, hufc, hufc'⟩ := newsV_run (P := P) hh hnews0 (hh.eval s)
        rw [hcv] at hufc hufc'
        have hcv' : a.eval s = .slice (some ⟨l.b, off, none⟩) olds.length cap := by rw [holl]; exact hcv
        by_cases hfit : olds.length + news.length ≤ cap
        · obtain ⟨e1, e2, e3, e4, e5, c, et, hw, hc, hlo, hv⟩ := hh.rep.block hn hl hg
          have hmulc : (olds.length + news.length) * te.size ≤ cap * te.size := Nat.mul_le_mul_right _ hfit
          rw [Nat.add_mul] at hmulc
          have hoffc : off + cap * te.size ≤ c.size := by rw [hc, ← e1]; exact hsz'
          have h1c : ∀ v ∈ vs, v.oneCell' = true := oneCells hvs fun c hc => by
            obtain ⟨v, hv1, hv2⟩ := List.mem_flatMap.1 hc
            exact (fits_iff.1 (hnf v hv1)).2 c hv2
          have hst := run_storeCells_at P l.b (off + olds.length * te.size) et vs 0 c w hw (by rw [hvl]; omega) h1c
          rw [Nat.add_zero] at hst
          have hr := run_append_fits (w := w) (ty := o.type) hti hd htu hdu hte (some ⟨l.b, off, none⟩) olds.length cap news.length _ hlen vs hfc hfit _ (by simp only [Addr.add_lit]; exact hst)
          have hmem := look_mem hn
          have hoth : ∀ q, q < w.heap.size → q ≠ l.b → (w.setRow l.b (c.toList.take (off + olds.length * te.size) ++ vs ++ c.toList.drop (off + olds.length * te.size + vs.length)).toArray).heap[q]? = w.heap[q]? := fun q _ hq => setRow_other w l.b q _ hq
          have hcs := setRow_heap w l.b c (c.toList.take (off + olds.length * te.size) ++ vs ++ c.toList.drop (off + olds.length * te.size + vs.length)).toArray et (0, 0) hw
          have hsplice : c.toList.take (off + olds.length * te.size) ++ vs ++ c.toList.drop (off + olds.length * te.size + vs.length) = splice c.toList (off + olds.length * te.size) vs := by simp [splice]
          have hszc : (c.toList.take (off + olds.length * te.size) ++ vs ++ c.toList.drop (off + olds.length * te.size + vs.length)).toArray.size = c.size := by
            rw [hsplice, List.size_toArray, length_splice _ _ _ (by rw [hvl, Array.length_toList (xs := c)]; omega), Array.length_toList (xs := c)]
          have hcl : ∀ v ∈ es, v.cells.length = te.size := fun v hv => (fits_iff.1 (e3 v hv)).1
          have hw1 : ((splice c.toList (off + olds.length * te.size) vs).drop off).take ((olds ++ news).length * te.size) = (c.toList.drop off).take (olds.length * te.size) ++ vs := by
            have := splice_tail c.toList vs off (olds.length * te.size) (by rw [hvl, Array.length_toList (xs := c)]; omega)
            rw [hvl, ← Nat.add_mul] at this
            rw [List.length_append]; exact this
          have hold : VRels ι (Own F ι σ.H) w (olds.flatMap V.cells) ((c.toList.drop off).take (olds.length * te.size)) := by
            have hv' := (hv.drop (i * te.size)).take (len * te.size)
            rw [flatMap_drop hcl, flatMap_take (fun v hv => hcl v (List.mem_of_mem_drop hv)), ← hol] at hv'
            have hmul2 : (i + len) * te.size ≤ es.length * te.size := Nat.mul_le_mul_right _ hil
            rw [Nat.add_mul] at hmul2
            have hlist : (((c.toList.drop l.o).take (es.length * te.size)).drop (i * te.size)).take (len * te.size) = (c.toList.drop off).take (olds.length * te.size) := by
              apply List.ext_getElem?
              intro q
              rw [holl]
              simp only [List.getElem?_take, List.getElem?_drop]
              by_cases hq : q < len * te.size
              · simp only [hq, if_true, show i * te.size + q < es.length * te.size by omega]
                congr 1; rw [hoff, e1]; omega
              · simp [hq]
            rw [hlist] at hv'; exact hv'
          obtain ⟨R1, K1⟩ := hh.rep.move hmem hl hg hk0 ⟨l.b, off, te.size, l.size, false, false⟩ rfl (.rows te.size (olds ++ news)) (w' := w.setRow l.b (c.toList.take (off + olds.length * te.size) ++ vs ++ c.toList.drop (off + olds.length * te.size + vs.length)).toArray) rfl (Tp.same rfl rfl) rfl (by simp) hoth fun ι' O' S =>
            ⟨rfl, rfl, fun v hv => (List.mem_append.1 hv).elim (hof v) (hnf v), .inr ⟨rfl, _, et, hcs, by rw [hszc, hc], by rw [hszc, List.length_append, Nat.add_mul]; show off + _ ≤ _; omega, by
              have heq : (((c.toList.take (off + olds.length * te.size) ++ vs ++ c.toList.drop (off + olds.length * te.size + vs.length)).drop off).take ((olds ++ news).length * te.size)) = (c.toList.drop off).take (olds.length * te.size) ++ vs := by rw [hsplice, hw1]
              show VRels ι' O' _ _ (((c.toList.take (off + olds.length * te.size) ++ vs ++ c.toList.drop (off + olds.length * te.size + vs.length)).drop off).take ((olds ++ news).length * te.size))
              rw [heq, List.flatMap_append]
              exact VRels.append (hold.stays S) (hvs.stays S)⟩⟩
          refine ⟨upd ι σ.k ⟨l.b, off, te.size, l.size, false, false⟩, .sl σ.k 0 (olds.length + news.length), _, _, _, _, hexec _ _ (by rw [hcv']; exact hr), hk, ?_⟩
          rw [hH0]
          refine ⟨⟨K1, Nat.le_succ _, fun n hn => upd_other _ _ _ _ (fun e => by subst e; have := hn hfk; omega), ?_⟩, R1, ?_, .sl (l := ⟨l.b, off, te.size, l.size, false, false⟩) (upd_same _ _ _) rfl rfl (by simp) hc0 hfit hcm (by show off + cap * te.size ≤ l.size; rw [← e1]; exact hsz')⟩
          · intro m hm
            simp only [List.map_cons, List.mem_cons] at hm
            rcases hm with hm | hm
            · subst hm; exact .inr ⟨hfk, by omega⟩
            · exact .inl ((names_del_sub n σ.H).mem hm)
          · intro m hf hm
            rw [upd_other _ _ _ _ (by omega)]
            exact hfr m hf hm
        · exact fresh (some n) (some ⟨l.b, off, none⟩) cap us hcv' hH0 hof hul hus (by rw [holl] at hufc' ⊢; exact hufc') (by omega)
end
end Go.Sl
namespace Go.Sl
variable [Md]
inductive EK where
 | int | bool | str
def eqSpecF (sp : TypeId → Option (List EK)) : Nat → List (TypeId × Nat × Nat) → Option (List EK)
 | _, [] => some []
 | off, (ft, o, n) :: r =>
  match sp ft, eqSpecF sp (off + n) r with
  | some s, some s' => if o = off ∧ s.length = n then some (s ++ s') else none
  | _, _ => none
def eqSpec (T : Tab) : Nat → TypeId → Option (List EK)
 | 0, _ => none
 | d + 1, t =>
  match T t with
  | some ti =>
   match ti.d with
   | .int _ => some [.int]
   | .bool => some [.bool]
   | .string => some [.str]
   | .struct fs => eqSpecF (eqSpec T d) 0 fs
   | .array n e =>
    match eqSpec T d e, T e with
    | some s, some te => if s.length = te.size then some (List.replicate n s).flatten else none
    | _, _ => none
   | _ => none
  | none => none
def eqVals : List EK → List Value → List Value → Option Bool
 | [], [], [] => some true
 | .int :: r, .int k a :: xs, .int k' b :: ys => if k = k' then (eqVals r xs ys).map ((a == b) && ·) else none
 | .bool :: r, .bool a :: xs, .bool b :: ys => (eqVals r xs ys).map ((a == b) && ·)
 | .str :: r, .string a :: xs, .string b :: ys => (eqVals r xs ys).map ((a.toList == b.toList) && ·)
 | _, _, _ => none
def eqCells : List EK → List V → List V → Option Bool
 | [], [], [] => some true
 | .int :: r, .val (.int k a) :: xs, .val (.int k' b) :: ys => if k = k' then (eqCells r xs ys).map ((a == b) && ·) else none
 | .bool :: r, .val (.bool a) :: xs, .val (.bool b) :: ys => (eqCells r xs ys).map ((a == b) && ·)
 | .str :: r, .val (.string a) :: xs, .val (.string b) :: ys => (eqCells r xs ys).map ((a.toList == b.toList) && ·)
 | _, _, _ => none
section
variable {fr : Nat → Prop} {F : Nat → Prop} {ι ι' : Names} {O : Nat → Prop} {σ σ' : St} {a a' : Act} {w w' : World} {P : Program} {T : Tab}
omit [Md] in
theorem eqVals_of {sp : List EK} : ∀ {cs ds : List V} {vs us : List Value} {b : Bool}, eqCells sp cs ds = some b → VRels ι O w cs vs → VRels ι O w ds us → eqVals sp vs us = some b := by
 induction sp with
 | nil =>
  intro cs ds vs us b h h1 h2
  cases cs <;> cases ds <;> simp only [eqCells] at h <;> first | (cases h; done) | skip
  cases h1; cases h2; simpa [eqVals] using h
 | cons e sp ih =>
  intro cs ds vs us b h h1 h2
  cases cs with
  | nil => cases e <;> simp [eqCells] at h
  | cons c cs =>
   cases ds with
   | nil => cases e <;> simp [eqCells] at h
   | cons d ds =>
    cases h1 with
    | cons h1 h1s =>
    cases h2 with
    | cons h2 h2s =>
    unfold eqCells at h
    split at h
    ·rename_i e1 _ _; cases e1
    ·rename_i e1 e2 e3
     cases e1; cases e2; cases e3
     split at h
     ·rename_i hk
      obtain ⟨b', hb', rfl⟩ := Option.map_eq_some_iff.1 h
      rw [h1.inv_val, h2.inv_val]
      simp [eqVals, hk, ih hb' h1s h2s]
     ·cases h
    ·rename_i e1 e2 e3
     cases e1; cases e2; cases e3
     obtain ⟨b', hb', rfl⟩ := Option.map_eq_some_iff.1 h
     rw [h1.inv_val, h2.inv_val]
     simp [eqVals, ih hb' h1s h2s]
    ·rename_i e1 e2 e3
     cases e1; cases e2; cases e3
     obtain ⟨b', hb', rfl⟩ := Option.map_eq_some_iff.1 h
     rw [h1.inv_val, h2.inv_val]
     simp [eqVals, ih hb' h1s h2s]
    ·cases h
omit [Md] in
theorem eqVals_len {sp : List EK} : ∀ {xs ys : List Value} {b : Bool}, eqVals sp xs ys = some b → xs.length = sp.length ∧ ys.length = sp.length := by
 induction sp with
 | nil => intro xs ys b h; cases xs <;> cases ys <;> simp_all [eqVals]
 | cons e sp ih =>
  intro xs ys b h
  unfold eqVals at h
  split at h
  ·simp at *
  ·rename_i e1
   cases e1
   split at h
   ·obtain ⟨b', hb', _⟩ := Option.map_eq_some_iff.1 h
    have := ih hb'; simp [this.1, this.2]
   ·cases h
  ·rename_i e1
   cases e1
   obtain ⟨b', hb', _⟩ := Option.map_eq_some_iff.1 h
   have := ih hb'; simp [this.1, this.2]
  ·rename_i e1
   cases e1
   obtain ⟨b', hb', _⟩ := Option.map_eq_some_iff.1 h
   have := ih hb'; simp [this.1, this.2]
  ·cases h
omit [Md] in
theorem eqVals_split {s r : List EK} : ∀ {xs ys : List Value} {b : Bool}, eqVals (s ++ r) xs ys = some b →
    ∃ b1 b2, eqVals s (xs.take s.length) (ys.take s.length) = some b1 ∧ eqVals r (xs.drop s.length) (ys.drop s.length) = some b2 ∧ b = (b1 && b2) := by
  induction s with
  | nil => intro xs ys b h; exact ⟨true, b, by simp [eqVals], by simpa using h, by simp⟩
  | cons e s ih =>
    intro xs ys b h
    rw [List.cons_append] at h
    unfold eqVals at h
    split at h
    · simp at *
    · rename_i e1
      cases e1
      split at h
      · obtain ⟨b', hb', rfl⟩ := Option.map_eq_some_iff.1 h
        rename_i hk
        obtain ⟨b1, b2, h1, h2, rfl⟩ := ih hb'
        exact ⟨_, b2, by simp only [List.length_cons, List.take_succ_cons, eqVals, h1, if_pos hk, Option.map_some]; rfl, by simpa using h2, by simp [Bool.and_assoc]⟩
      · cases h
    · rename_i e1
      cases e1
      obtain ⟨b', hb', rfl⟩ := Option.map_eq_some_iff.1 h
      obtain ⟨b1, b2, h1, h2, rfl⟩ := ih hb'
      exact ⟨_, b2, by simp only [List.length_cons, List.take_succ_cons, eqVals, h1, Option.map_some]; rfl, by simpa using h2, by simp [Bool.and_assoc]⟩
    · rename_i e1
      cases e1
      obtain ⟨b', hb', rfl⟩ := Option.map_eq_some_iff.1 h
      obtain ⟨b1, b2, h1, h2, rfl⟩ := ih hb'
      exact ⟨_, b2, by simp only [List.length_cons, List.take_succ_cons, eqVals, h1, Option.map_some]; rfl, by simpa using h2, by simp [Bool.and_assoc]⟩
    · cases h
def wrapA (agg : Bool) (vs : List Value) : Value := if agg then .agg vs.toArray else vs.headD undef
omit [Md] in
theorem run_partW {t : TypeId} {ti : TI} (hti : tiOf P t = some ti) {xs : List Value} {off : Nat} (hin : off + ti.size ≤ xs.length) (h0 : ti.agg = true ∨ ti.size = 1) (w : World) :
    (part t xs.toArray off).run P w = .ok (wrapA ti.agg ((xs.drop off).take ti.size)) w := by
  unfold part wrapA
  by_cases hg : ti.agg = true
  · simp [run_isAgg hti, run_sizeOf hti, hg, List.extract_eq_take_drop]
  · have h1 : ti.size = 1 := h0.resolve_left hg
    have hlt : off < xs.length := by omega
    have hd : (xs.drop off).take ti.size = [xs[off]] := by
      rw [h1, List.drop_eq_getElem_cons hlt]; rfl
    rw [hd]
    simp [run_isAgg hti, hg, hlt]
def EqAt' (P : Program) (T : Tab) (D : Nat) (t : TypeId) (sp : List EK) : Prop :=
 ∀ ti, T t = some ti → (ti.agg = true ∨ sp.length = 1) ∧ ∀ w xs ys b, eqVals sp xs ys = some b → (Op.equalIn D t (wrapA ti.agg xs) (wrapA ti.agg ys)).run P w = .ok b w
omit [Md] in
theorem run_eqFields_spec (hT : TabOk P T) {sp : TypeId → Option (List EK)} {D : Nat} (hsp : ∀ t s, sp t = some s → (∃ ti, T t = some ti) ∧ EqAt' P T D t s) (w : World) {xs ys : List Value} :
    ∀ (gs : List Field) (off : Nat) (s : List EK), eqSpecF sp off (gs.map fun f => (f.type, f.offset, P.cellsOf f.type)) = some s → (∀ g ∈ gs, g.name ≠ "_") → ∀ b, eqVals s (xs.drop off) (ys.drop off) = some b → off ≤ xs.length → off ≤ ys.length →
      (Op.eqFields D xs.toArray ys.toArray gs).run P w = .ok b w
  | [], off, s, h, _, b, hb, _, _ => by
    simp only [List.map_nil, eqSpecF] at h
    cases h
    unfold eqVals at hb
    split at hb <;> simp_all [Op.eqFields]
  | g :: gs, off, s, h, hn, b, hb, hx, hy => by
    simp only [List.map_cons, eqSpecF] at h
    split at h
    · rename_i s1 s2 h1 h2
      split at h
      · rename_i hc
        obtain ⟨ho, hl⟩ := hc
        cases h
        obtain ⟨b1, b2, e1, e2, rfl⟩ := eqVals_split hb
        obtain ⟨⟨ti, ht⟩, hat⟩ := hsp _ _ h1
        obtain ⟨h3, h4⟩ := hat ti ht
        have hti := hT _ _ ht
        have hsz : P.cellsOf g.type = ti.size := by
          obtain ⟨d, i, z, hd, hi, hz, hs, ha, h1, h2, _⟩ := tiOf_spec hti
          simp [Program.cellsOf, hi, h2]
        have hlen := eqVals_len hb
        simp only [List.length_drop, List.length_append] at hlen
        have p1 := run_partW hti (xs := xs) (off := off) (by omega) (h3.imp id fun h => by omega) w
        have p2 := run_partW hti (xs := ys) (off := off) (by omega) (h3.imp id fun h => by omega) w
        have p3 := h4 w _ _ b1 e1
        have hnm := hn g (by simp)
        rw [show s1.length = ti.size by omega] at p3
        simp only [Op.eqFields, ne_eq, hnm, not_false_eq_true, if_true, Sem.run_bind, ho, p1, p2, Result.andThen_ok, p3]
        cases b1
        · simp
        · simp only [Bool.not_true, Bool.false_eq_true, if_false, Bool.true_and]
          refine run_eqFields_spec hT hsp w gs _ s2 h2 (fun g' hg' => hn g' (by simp [hg'])) b2 ?_ (by omega) (by omega)
          rw [← hl, ← List.drop_drop, ← List.drop_drop]; exact e2
      · cases h
    · cases h
omit [Md] in
theorem run_eqItems_spec (hT : TabOk P T) {e : TypeId} {te : TI} (he : T e = some te) {s : List EK} {D : Nat} (hat : EqAt' P T D e s) (hl : s.length = te.size) (w : World) {xs ys : List Value} :
    ∀ (n j : Nat) (b : Bool), eqVals (List.replicate n s).flatten (xs.drop (j * te.size)) (ys.drop (j * te.size)) = some b → j * te.size ≤ xs.length → j * te.size ≤ ys.length →
      (Op.eqItems D e te.size xs.toArray ys.toArray (List.range' j n)).run P w = .ok b w
  | 0, j, b, hb, _, _ => by
    simp only [List.replicate_zero, List.flatten_nil] at hb
    unfold eqVals at hb
    split at hb <;> simp_all [Op.eqItems]
  | n + 1, j, b, hb, hx, hy => by
    rw [List.replicate_succ, List.flatten_cons] at hb
    obtain ⟨b1, b2, e1, e2, rfl⟩ := eqVals_split hb
    obtain ⟨h3, h4⟩ := hat te he
    have hti := hT _ _ he
    have hlen := eqVals_len hb
    simp only [List.length_drop, List.length_append] at hlen
    have p1 := run_partW hti (xs := xs) (off := j * te.size) (by omega) (h3.imp id fun h => by omega) w
    have p2 := run_partW hti (xs := ys) (off := j * te.size) (by omega) (h3.imp id fun h => by omega) w
    have p3 := h4 w _ _ b1 e1
    rw [hl] at p3
    simp only [List.range'_succ, Op.eqItems, Sem.run_bind, p1, p2, Result.andThen_ok, p3]
    have hs : (j + 1) * te.size = j * te.size + te.size := by rw [Nat.add_mul]; simp
    cases b1
    · simp
    · simp only [Bool.not_true, Bool.false_eq_true, if_false, Bool.true_and]
      refine run_eqItems_spec hT he hat hl w n (j + 1) b2 ?_ (by omega) (by omega)
      rw [hs, ← hl, ← List.drop_drop, ← List.drop_drop]; rw [hl]; rw [hl] at e2; exact e2
omit [Md] in
theorem run_equalIn_spec (hT : TabOk P T) : ∀ (d : Nat) (t : TypeId) (sp : List EK), eqSpec T d t = some sp → ∀ D, d ≤ D → (∃ ti, T t = some ti) ∧ EqAt' P T D t sp
  | 0, t, sp, h, _, _ => by simp [eqSpec] at h
  | d + 1, t, sp, h, D, hD => by
    obtain ⟨D, rfl⟩ : ∃ E, D = E + 1 := ⟨D - 1, by omega⟩
    unfold eqSpec at h
    split at h
    · rename_i ti ht
      refine ⟨⟨ti, ht⟩, fun ti' ht' => ?_⟩
      rw [ht] at ht'; cases ht'
      have hti := hT _ _ ht
      obtain ⟨u, i, z, hu, hi, hz, hs, ha, h1, h2, h3, h4, h5⟩ := tiOf_spec hti
      have leaf : ∀ (k : EK), ti.agg = false → sp = [k] → (∀ w (x y : Value) b, eqVals [k] [x] [y] = some b → (Op.equalIn (D + 1) t x y).run P w = .ok b w) →
          (ti.agg = true ∨ sp.length = 1) ∧ ∀ w xs ys b, eqVals sp xs ys = some b → (Op.equalIn (D + 1) t (wrapA ti.agg xs) (wrapA ti.agg ys)).run P w = .ok b w := by
        intro k hg hk hr
        subst hk
        refine ⟨.inr rfl, fun w xs ys b hb => ?_⟩
        have hl := eqVals_len hb
        match xs, ys, hl with
        | [x], [y], _ => simpa [wrapA, hg] using hr w x y b hb
      split at h
      · rename_i kd hd
        cases h
        have hu' : ∃ k', P.underlying t = some (.int k') := by rw [hu]; cases u <;> simp_all [Go.Sl.D.of]
        obtain ⟨k', hu'⟩ := hu'
        refine leaf .int (by simp [TI.agg, hd]) rfl fun w x y b hb => ?_
        unfold eqVals at hb
        split at hb
        · simp at *
        · rename_i e1 e2 e3
          cases e1; cases e2; cases e3
          split at hb
          · rename_i hk; subst hk
            simp only [eqVals, Option.map_some, Bool.and_true, Option.some.injEq] at hb
            subst hb
            exact run_equalIn_int w D t _ k' _ _ hu'
          · cases hb
        · rename_i e1 _ _; cases e1
        · rename_i e1 _ _; cases e1
        · cases hb
      · rename_i hd
        cases h
        have hu' : P.underlying t = some .bool := by rw [hu]; cases u <;> simp_all [Go.Sl.D.of]
        refine leaf .bool (by simp [TI.agg, hd]) rfl fun w x y b hb => ?_
        unfold eqVals at hb
        split at hb
        · simp at *
        · rename_i e1 _ _; cases e1
        · rename_i e1 e2 e3
          cases e1; cases e2; cases e3
          simp only [eqVals, Option.map_some, Bool.and_true, Option.some.injEq] at hb
          subst hb
          exact run_equalIn_bool' w D t _ _ hu'
        · rename_i e1 _ _; cases e1
        · cases hb
      · rename_i hd
        cases h
        have hu' : P.underlying t = some .string := by rw [hu]; cases u <;> simp_all [Go.Sl.D.of]
        refine leaf .str (by simp [TI.agg, hd]) rfl fun w x y b hb => ?_
        unfold eqVals at hb
        split at hb
        · simp at *
        · rename_i e1 _ _; cases e1
        · rename_i e1 _ _; cases e1
        · rename_i e1 e2 e3
          cases e1; cases e2; cases e3
          simp only [eqVals, Option.map_some, Bool.and_true, Option.some.injEq] at hb
          subst hb
          exact run_equalIn_string w D t _ _ hu'
        · cases hb
      · rename_i fs hd
        have hg : ti.agg = true := by simp [TI.agg, hd]
        refine ⟨.inl hg, fun w xs ys b hb => ?_⟩
        obtain ⟨gs, hgs⟩ : ∃ gs, u = .struct gs := by cases u <;> simp_all [Go.Sl.D.of]
        subst hgs
        have hpl := tiOf_plain hti hu
        simp only [plainD, Bool.and_eq_true, Bool.not_eq_true', List.all_eq_true, bne_iff_ne, ne_eq] at hpl
        have hfo : P.fieldsOf t = gs := by simp [Program.fieldsOf, hu]
        simp only [wrapA, hg, if_true]
        rw [run_equalIn_struct w D t _ _ (by rw [hfo]; exact hu) hpl.1, hfo]
        have hfs : fs = gs.toList.map fun f => (f.type, f.offset, P.cellsOf f.type) := by
          rw [hd] at h1; simp only [Go.Sl.D.of, Go.Sl.D.struct.injEq] at h1; exact h1
        rw [hfs] at h
        exact run_eqFields_spec hT (sp := eqSpec T d) (fun t' s' hs' => run_equalIn_spec hT d t' s' hs' D (by omega)) w gs.toList 0 sp h hpl.2 b (by simpa using hb) (by simp) (by simp)
      · rename_i n e hd
        have hg : ti.agg = true := by simp [TI.agg, hd]
        refine ⟨.inl hg, fun w xs ys b hb => ?_⟩
        split at h
        · rename_i s te hs' hte
          split at h
          · rename_i hl
            cases h
            have hu' : P.underlying t = some (.array n e) := by rw [hu]; cases u <;> simp_all [Go.Sl.D.of]
            obtain ⟨_, i', _, _, hi', _, _, _, _, hsz, _⟩ := tiOf_spec (hT _ _ hte)
            simp only [wrapA, hg, if_true]
            rw [run_equalIn_array w D _ _ hu' hi']
            have hc : P.cellsOf e = te.size := by simp [Program.cellsOf, hi', hsz]
            rw [hc, List.range_eq_range']
            exact run_eqItems_spec hT hte (run_equalIn_spec hT d e s hs' D (by omega)).2 hl w n 0 b (by simpa using hb) (by simp) (by simp)
          · cases h
        · cases h
      · cases h
    · cases h
omit [Md] in
theorem eqGuard_spec (hT : TabOk P T) : ∀ (d : Nat) (t : TypeId) (sp : List EK), eqSpec T d t = some sp → ∀ D, d ≤ D → P.eqGuardType D t = false
 | 0, t, sp, h, _, _ => by simp [eqSpec] at h
 | d + 1, t, sp, h, D, hD => by
  obtain ⟨D, rfl⟩ : ∃ E, D = E + 1 := ⟨D - 1, by omega⟩
  unfold eqSpec at h
  split at h
  ·rename_i ti ht
   have hti := hT _ _ ht
   obtain ⟨u, i, z, hu, hi, hz, hs, ha, h1, h2, h3, h4, h5⟩ := tiOf_spec hti
   unfold Program.eqGuardType
   split at h <;> rename_i hd
   ·have hu' : ∃ k', P.underlying t = some (.int k') := by rw [hu]; cases u <;> simp_all [Go.Sl.D.of]
    obtain ⟨k', hu'⟩ := hu'
    simp [hu']
   ·have hu' : P.underlying t = some .bool := by rw [hu]; cases u <;> simp_all [Go.Sl.D.of]
    simp [hu']
   ·have hu' : P.underlying t = some .string := by rw [hu]; cases u <;> simp_all [Go.Sl.D.of]
    simp [hu']
   ·rename_i fs
    obtain ⟨gs, hgs⟩ : ∃ gs, u = .struct gs := by cases u <;> simp_all [Go.Sl.D.of]
    subst hgs
    have hfs : fs = gs.toList.map fun f => (f.type, f.offset, P.cellsOf f.type) := by
     rw [hd] at h1; simp only [Go.Sl.D.of, Go.Sl.D.struct.injEq] at h1; exact h1
    rw [hfs] at h
    have key : ∀ (l : List Field) (off : Nat) (s : List EK), eqSpecF (eqSpec T d) off (l.map fun f => (f.type, f.offset, P.cellsOf f.type)) = some s → ∀ g ∈ l, P.eqGuardType D g.type = false := by
     intro l
     induction l with
     | nil => intro off s _ g hg; simp at hg
     | cons x l ih =>
      intro off s hs g hg
      simp only [List.map_cons, eqSpecF] at hs
      split at hs
      ·rename_i s1 s2 e1 e2
       rcases List.mem_cons.1 hg with rfl | hg
       ·exact eqGuard_spec hT d _ s1 e1 D (by omega)
       ·exact ih _ _ e2 g hg
      ·cases hs
    simp only [hu]
    rw [Array.any_eq_false']
    intro g hg
    simp [key gs.toList 0 sp h g (by simpa using hg)]
   ·rename_i n e
    split at h
    ·rename_i s te hs' hte
     have hu' : P.underlying t = some (.array n e) := by rw [hu]; cases u <;> simp_all [Go.Sl.D.of]
     simp only [hu']
     exact eqGuard_spec hT d e s hs' D (by omega)
    ·cases h
   ·cases h
  ·cases h
theorem op_eqA (hT : TabOk P T) {o : Oper} {K : V → Heap → Nat → Prop} (op : BinOp) (t u : TypeId) (x y : Operand) (ho : o.op = .binOp op t x y u) {ti : TI} (ht : T t = some ti) (hg : ti.agg = true) {sp : List EK} (hsp : eqSpec T 16 t = some sp) {cs ds : List V} (hx : evalV σ.t x = .agg cs) (hy : evalV σ.t y = .agg ds) {b : Bool} (hb : eqCells sp cs ds = some b)
    (h : op = .eql ∧ K (.val (.bool b)) σ.H σ.k ∨ op = .neq ∧ K (.val (.bool !b)) σ.H σ.k) : OpT fr P o σ K := by
  have hdep : 16 ≤ P.depth := by unfold Program.depth Made.depth; omega
  have hm := eqGuard_spec hT 16 t sp hsp P.depth hdep
  have hq := (run_equalIn_spec hT 16 t sp hsp 10000 (by omega)).2 ti ht
  rcases h with ⟨rfl, hk⟩ | ⟨rfl, hk⟩ <;>
  · refine opT_pure hk fun F ι a w hh => ?_
    have he := hh.eval x
    have hi := hh.eval y
    rw [hx] at he; rw [hy] at hi
    refine ⟨_, ?_, .val _ rfl⟩
    generalize hva : a.eval x = va at he
    generalize hvb : a.eval y = vb at hi
    cases he with
    | agg h1 =>
    cases hi with
    | agg h2 =>
    rename_i vs us
    have hr := hq.2 w _ _ b (eqVals_of hb h1 h2)
    simp only [wrapA, hg, if_true] at hr
    unfold execOp; rw [ho]
    first
      | simp only [hva, hvb, Sem.run_bind, run_eqGuard_agg w _ t x y _ _ hm, Result.andThen_ok, run_eql_struct, hr, Sem.run_pure]; done
      | (simp only [hva, hvb, Sem.run_bind, run_eqGuard_agg w _ t x y _ _ hm, Result.andThen_ok, run_eql_struct, hr, Sem.run_pure]; rfl)
      | simp only [hva, hvb, Sem.run_bind, run_eqGuard_agg w _ t x y _ _ hm, Result.andThen_ok, run_neq_struct, hr, Sem.run_pure]; done
      | (simp only [hva, hvb, Sem.run_bind, run_eqGuard_agg w _ t x y _ _ hm, Result.andThen_ok, run_neq_struct, hr, Sem.run_pure]; rfl)
end
end Go.Sl
namespace Go.Sl
variable [Md]
def V.isAddr : V → Bool
 | .ptr .. | .rp .. => true
 | _ => false
section
variable {fr : Nat → Prop} {F : Nat → Prop} {ι ι' : Names} {O : Nat → Prop} {σ σ' : St} {a a' : Act} {w w' : World} {P : Program} {T : Tab}
omit [Md] in
theorem VRel.addr {v : V} {x : Value} (h : VRel ι O w v x) (hv : v.isAddr = true) : ∃ ad, x = .pointer (some ad) := by
 cases h <;> simp_all [V.isAddr]
theorem op_nilCheck {o : Oper} {K : V → Heap → Nat → Prop} (x : Operand) (ho : o.op = .nilCheck x) (hx : (evalV σ.t x).isAddr = true) (hk : K (evalV σ.t x) σ.H σ.k) : OpT fr P o σ K :=
 opT_pure hk fun F ι a w hh => by
  have he := hh.eval x
  obtain ⟨ad, e⟩ := he.addr hx
  refine ⟨a.eval x, ?_, he⟩
  unfold execOp; rw [ho]
  simp [e]
theorem op_ptrNil {o : Oper} {K : V → Heap → Nat → Prop} (op : BinOp) (t u : TypeId) (x y : Operand) (ho : o.op = .binOp op t x y u) {ti : TI} (hti : tiOf P t = some ti) {e : TypeId} (hd : ti.d = .pointer e) (hx : (evalV σ.t x).isAddr = true) (hy : evalV σ.t y = .val (.pointer none))
    (h : op = .eql ∧ K (.val (.bool false)) σ.H σ.k ∨ op = .neq ∧ K (.val (.bool true)) σ.H σ.k) : OpT fr P o σ K := by
  obtain ⟨u', i, z, hu, _, _, _, _, h1, _⟩ := tiOf_spec hti
  have hu' : ∃ e', P.underlying t = some (.pointer e') := by rw [hu]; cases u' <;> simp_all [Go.Sl.D.of]
  obtain ⟨e', hu'⟩ := hu'
  have hp : P.underlying t = some (.pointer (P.pointee t)) := by simp [Program.pointee, hu']
  rcases h with ⟨rfl, hk⟩ | ⟨rfl, hk⟩ <;>
  · refine opT_pure hk fun F ι a w hh => ?_
    have he := hh.eval x
    have hi := hh.eval y
    rw [hy] at hi
    have hi := hi.inv_val
    obtain ⟨ad, e⟩ := he.addr hx
    refine ⟨_, ?_, .val _ rfl⟩
    unfold execOp; rw [ho]
    have g : ∀ op : BinOp, (eqGuard op t x y (.pointer (some ad)) (.pointer none)).run P w = .ok () w := fun op => by cases op <;> simp [eqGuard]
    first
      | (simp only [e, hi, Sem.run_bind, g, Result.andThen_ok, Go.run_eql_pointer_nil w t (some ad) hp, Sem.run_pure]; rfl)
      | (simp only [e, hi, Sem.run_bind, g, Result.andThen_ok, Go.run_neq_pointer_nil w t (some ad) hp, Sem.run_pure]; rfl)
omit [Md] in
theorem madeCells_zero {t : TypeId} {te : TI} (hte : tiOf P t = some te) {z : Value} (hz : z.cells.toList = te.zero) (hs : z.cells.size = te.size) (m : Nat) :
    VRels ι O w ((List.replicate m te.zeroV).flatMap V.cells) (madeCells z.cells (m * te.size)).toList := by
  have hlen : ((List.replicate m te.zeroV).flatMap V.cells).length = m * te.size := by
    rw [length_flatMap_cells (sz := te.size)]
    · simp
    · intro v hv
      rw [List.eq_of_mem_replicate hv]
      exact (fits_iff.1 (zeroV_fits hte)).1
  refine VRels.of_get (by rw [hlen, Array.length_toList, size_madeCells]) fun i v x hv hx => ?_
  have hi : i < m * te.size := by rw [← hlen]; exact (List.getElem?_eq_some_iff.1 hv).1
  have hpos : 0 < te.size := by
    rcases Nat.eq_zero_or_pos te.size with h0 | h0
    · rw [h0] at hi; omega
    · exact h0
  have hmod : i % te.size < te.size := Nat.mod_lt _ hpos
  have hx' : x = z.cells[i % te.size]! := by
    rw [Array.getElem?_toList] at hx
    unfold madeCells at hx
    rw [Array.getElem?_map, Array.getElem?_range, hs] at hx
    simp only [hi, if_true, Option.map_some, Option.some.injEq] at hx
    exact hx.symm
  have hzi : te.zero[i % te.size]? = some (z.cells[i % te.size]!) := by
    rw [← hz, Array.getElem?_toList, Array.getElem?_eq_getElem (by omega), getElem!_pos z.cells (i % te.size) (by omega)]
  have hvi : v = .val (z.cells[i % te.size]!) := by
    have key : ∀ (m i : Nat), i < m * te.size → ((List.replicate m te.zeroV).flatMap V.cells)[i]? = some (.val (z.cells[i % te.size]!)) ∨ ¬ te.zero[i % te.size]? = some (z.cells[i % te.size]!) := by
      intro m
      induction m with
      | zero => intro i hi; omega
      | succ m ih =>
        intro i hi
        rw [List.replicate_succ, List.flatMap_cons]
        have hc : te.zeroV.cells.length = te.size := (fits_iff.1 (zeroV_fits hte)).1
        by_cases h : i < te.size
        · rw [List.getElem?_append_left (by omega), zeroV_cells hte, List.getElem?_map, Nat.mod_eq_of_lt h]
          by_cases hq : te.zero[i]? = some (z.cells[i]!)
          · exact .inl (by rw [hq]; rfl)
          · exact .inr hq
        · rw [List.getElem?_append_right (by omega), hc]
          have h1 := ih (i - te.size) (by rw [Nat.succ_mul] at hi; omega)
          have h2 : (i - te.size) % te.size = i % te.size := by
            conv => rhs; rw [show i = (i - te.size) + te.size by omega, Nat.add_mod_right]
          rw [h2] at h1
          exact h1
    rcases key m i hi with h | h
    · rw [h] at hv; exact (Option.some.inj hv).symm
    · exact absurd hzi h
  rw [hvi, hx']
  exact .val _ ((zero_oneCell hte).1 _ (List.mem_of_getElem? hzi))
theorem op_makeSlice (hfr : fr σ.k) {o : Oper} {K : V → Heap → Nat → Prop} (t : TypeId) (x y : Operand) (ho : o.op = .makeSlice t x y) {ti te : TI} (hti : tiOf P t = some ti) {e : TypeId} (hd : ti.d = .slice e) (hte : tiOf P e = some te) {kl kc : IntKind} {l c : Int}
    (hx : evalV σ.t x = .val (.int kl l)) (hy : evalV σ.t y = .val (.int kc c)) (h0 : 0 ≤ l) (hlc : l = c) (hbytes : (te.bytes : Int) * c ≤ 281474976710656) (h63 : c ≤ 9223372036854775807)
    (hk : K (.sl σ.k 0 c.toNat) ((σ.k, .rows te.size (List.replicate c.toNat te.zeroV)) :: σ.H) (σ.k + 1)) : OpT fr P o σ K :=
  opT_run fun F ι a w hh => by
    obtain ⟨u', i', z', hu, _, _, _, _, h1, _⟩ := tiOf_spec hti
    have hu' : P.underlying t = some (.slice e) := by rw [hu]; cases u' <;> simp_all [Go.Sl.D.of]
    obtain ⟨_, i, z, _, hi, hz, hzs, _, _, hsz, hby, hzl, _⟩ := tiOf_spec hte
    have he1 := hh.eval x
    have he2 := hh.eval y
    rw [hx] at he1; rw [hy] at he2
    have hzs' : z.cells.size = te.size := by rw [hzs, hsz]
    have hfit : ∀ v ∈ List.replicate c.toNat te.zeroV, v.fits te.size = true := fun v hv => by rw [List.eq_of_mem_replicate hv]; exact zeroV_fits hte
    have hcells := madeCells_zero (ι := ι) (O := Own F ι σ.H) (w := w) hte hzl.symm hzs' c.toNat
    refine ⟨_, _, .slice (some ⟨w.heap.size, 0, none⟩) c.toNat c.toNat, _, _, _, ?_, hk, out_newRow hfr hh e te.size (List.replicate c.toNat te.zeroV) hfit (madeCells z.cells (c.toNat * te.size)) (by rw [size_madeCells, List.length_replicate]; exact Nat.le_refl _) ?_ w rfl rfl (Tp.refl _) rfl ?_⟩
    · unfold execOp; rw [ho]
      have hr := run_make (P := P) w t e i z hu' hi hz kl kc l c h0 (by omega) (by rw [← hby]; exact hbytes) h63
      rw [← hsz] at hr
      subst hlc
      have e1 := he1.inv_val
      have e2 := he2.inv_val
      simp only [e1, e2, Sem.run_bind, hr, Result.andThen_ok, Sem.run_pure]
    · rw [List.length_replicate, List.take_of_length_le (by rw [Array.length_toList, size_madeCells]; exact Nat.le_refl _)]
      exact hcells
    · intro ι' hι
      rcases Nat.eq_zero_or_pos c.toNat with hc | hc
      · rw [hc]; exact .sl0 hι
      · refine .sl hι rfl rfl (by simp) hc (Nat.le_refl _) (by unfold maxLen; omega) ?_
        simp only [size_madeCells]; omega
end
end Go.Sl
