/- The abstract values, the owned heap, and how they stand in a world: lemmas of transport. -/
import Derived.Tactics
import Derived.Laws.AppendOwn
import Derived.Laws.Rows
import Derived.Laws.Tables
import Derived.Laws.Cells
set_option linter.unusedVariables false
set_option linter.unusedSimpArgs false
namespace Go.Sl

inductive V where
  | any
  | val (v : Value)
  | agg (cs : List V)
  | tup (vs : List V)
  | ptr (n i j : Nat)
  | sl (n i len : Nat)
  | sub (n i j len : Nat)
  | ro (sz : Nat) (es : List V)
  | rp (cs : List V) (j : Nat)
  | map (n : Nat)
  | fn (f : Fn) (fs cs : List V)
  deriving Inhabited

def V.cells : V → List V
  | .agg cs => cs
  | v => [v]

def V.isAny : V → Bool
  | .any => true
  | _ => false

/-- fits one cell -/
def V.one : V → Bool
  | .any | .agg _ | .tup _ => false
  | _ => true

/-- an element of sz cells, each of them known -/
def V.fits (sz : Nat) (v : V) : Bool := v.cells.length == sz && v.cells.all V.one

/-- where a name stands: block, first cell, cells an element, cells of the block; ghost: nowhere (an empty slice that is nil) -/
structure Loc where
  b : Nat
  o : Nat
  sz : Nat
  size : Nat
  ghost : Bool
  map : Bool
  deriving Inhabited

abbrev Names := Nat → Option Loc

mutual
inductive VRel (ι : Names) (O : Nat → Prop) (w : World) : V → Value → Prop
  | any (v : Value) : VRel ι O w .any v
  | val (v : Value) (h : v.oneCell' = true) : VRel ι O w (.val v) v
  | agg {cs : List V} {vs : List Value} (h : VRels ι O w cs vs) : VRel ι O w (.agg cs) (.agg vs.toArray)
  | tup {cs : List V} {vs : List Value} (h : VRels ι O w cs vs) : VRel ι O w (.tup cs) (.tuple vs.toArray)
  | ptr {n i j off : Nat} {l : Loc} (h : ι n = some l) (hg : l.ghost = false) (hm : l.map = false) (ho : off = l.o + i * l.sz + j) : VRel ι O w (.ptr n i j) (.pointer (some ⟨l.b, off, none⟩))
  | sl {n i len off cap : Nat} {l : Loc} (h : ι n = some l) (hg : l.ghost = false) (hm : l.map = false) (ho : off = l.o + i * l.sz) (h0 : 0 < cap) (hl : len ≤ cap) (hc : cap ≤ maxLen)
      (hs : off + cap * l.sz ≤ l.size) : VRel ι O w (.sl n i len) (.slice (some ⟨l.b, off, none⟩) len cap)
  | sl0 {n i : Nat} {l : Loc} {a : Option Addr} (h : ι n = some l) : VRel ι O w (.sl n i 0) (.slice a 0 0)
  | sub {n i j len off cap : Nat} {l : Loc} (h : ι n = some l) (hg : l.ghost = false) (hm : l.map = false) (ho : off = l.o + i * l.sz + j) (hl : len ≤ cap) (hc : cap ≤ maxLen)
      (hs : off + cap ≤ l.size) : VRel ι O w (.sub n i j len) (.slice (some ⟨l.b, off, none⟩) len cap)
  | ro0 {sz cap : Nat} {a : Option Addr} : VRel ι O w (.ro sz []) (.slice a 0 cap)
  | ro {sz b off len cap : Nat} {es : List V} {c : Array Value} {e : TypeId} {fr : Nat × Nat} {vs : List Value} (hb : b < w.heap.size) (hO : ¬ O b) (hw : w.heap[b]? = some (.cells c e fr))
      (hsz : ∀ v ∈ es, v.fits sz = true) (hlen : len = es.length) (hlc : len ≤ cap) (hin : off + es.length * sz ≤ c.size) (hvs : vs = (c.toList.drop off).take (es.length * sz)) (h : VRels ι O w (es.flatMap V.cells) vs) :
      VRel ι O w (.ro sz es) (.slice (some ⟨b, off, none⟩) len cap)
  | rp {b off off' j : Nat} {cs : List V} {c : Array Value} {e : TypeId} {fr : Nat × Nat} {vs : List Value} (hb : b < w.heap.size) (hO : ¬ O b) (hw : w.heap[b]? = some (.cells c e fr))
      (hsz : cs.all V.one = true) (hin : off + cs.length ≤ c.size) (hvs : vs = (c.toList.drop off).take cs.length) (h : VRels ι O w cs vs) (ho : off' = off + j) : VRel ι O w (.rp cs j) (.pointer (some ⟨b, off', none⟩))
  | map {n : Nat} {l : Loc} (h : ι n = some l) (hg : l.ghost = false) (hm : l.map = true) : VRel ι O w (.map n) (.map (some l.b))
  | fn {f : Fn} {fs cs : List V} {fs' cs' : List Value} (h1 : VRels ι O w fs fs') (h2 : VRels ι O w cs cs') : VRel ι O w (.fn f fs cs) (.func f fs'.toArray cs'.toArray)
inductive VRels (ι : Names) (O : Nat → Prop) (w : World) : List V → List Value → Prop
  | nil : VRels ι O w [] []
  | cons {v : V} {x : Value} {vs : List V} {xs : List Value} (h : VRel ι O w v x) (hs : VRels ι O w vs xs) : VRels ι O w (v :: vs) (x :: xs)
end

section
variable {ι ι' : Names} {O O' : Nat → Prop} {w w' : World}

theorem VRels.length {vs : List V} {xs : List Value} (h : VRels ι O w vs xs) : vs.length = xs.length := by
  induction vs generalizing xs with
  | nil => cases h; rfl
  | cons v vs ih => cases h with | cons h hs => simp [ih hs]

theorem VRels.get {vs : List V} {xs : List Value} (h : VRels ι O w vs xs) : ∀ (i : Nat) (v : V), vs[i]? = some v → ∃ x, xs[i]? = some x ∧ VRel ι O w v x := by
  induction vs generalizing xs with
  | nil => intro i v hv; simp at hv
  | cons u vs ih =>
    cases h with
    | cons h hs =>
      rename_i x xs
      intro i v hv
      cases i with
      | zero => simp at hv; subst hv; exact ⟨x, rfl, h⟩
      | succ i => simpa using ih hs i v (by simpa using hv)

theorem VRels.of_get {vs : List V} {xs : List Value} (hl : vs.length = xs.length) (h : ∀ (i : Nat) (v : V) (x : Value), vs[i]? = some v → xs[i]? = some x → VRel ι O w v x) : VRels ι O w vs xs := by
  induction vs generalizing xs with
  | nil => cases xs with | nil => exact .nil | cons => simp at hl
  | cons v vs ih =>
    cases xs with
    | nil => simp at hl
    | cons x xs =>
      refine .cons (h 0 v x rfl rfl) (ih (by simpa using hl) fun i v x hv hx => h (i + 1) v x (by simpa using hv) (by simpa using hx))

theorem VRels.append {vs us : List V} {xs ys : List Value} (h : VRels ι O w vs xs) (h' : VRels ι O w us ys) : VRels ι O w (vs ++ us) (xs ++ ys) := by
  induction vs generalizing xs with
  | nil => cases h; exact h'
  | cons v vs ih => cases h with | cons h hs => exact .cons h (ih hs)

theorem VRels.take {vs : List V} {xs : List Value} (h : VRels ι O w vs xs) (n : Nat) : VRels ι O w (vs.take n) (xs.take n) := by
  induction vs generalizing xs n with
  | nil => cases h; simpa using VRels.nil
  | cons v vs ih =>
    cases h with
    | cons h hs =>
      cases n with
      | zero => exact .nil
      | succ n => exact .cons h (ih hs n)

theorem VRels.drop {vs : List V} {xs : List Value} (h : VRels ι O w vs xs) (n : Nat) : VRels ι O w (vs.drop n) (xs.drop n) := by
  induction vs generalizing xs n with
  | nil => cases h; simpa using VRels.nil
  | cons v vs ih =>
    cases h with
    | cons h hs =>
      cases n with
      | zero => exact .cons h hs
      | succ n => exact ih hs n

theorem VRels.split {vs us : List V} {xs : List Value} (h : VRels ι O w (vs ++ us) xs) : ∃ ys zs, xs = ys ++ zs ∧ VRels ι O w vs ys ∧ VRels ι O w us zs := by
  refine ⟨xs.take vs.length, xs.drop vs.length, (List.take_append_drop _ _).symm, ?_, ?_⟩
  · have := h.take vs.length; simpa using this
  · have := h.drop vs.length; simpa using this

theorem VRels.snoc {vs : List V} {v : V} {xs : List Value} {x : Value} (h : VRels ι O w vs xs) (hv : VRel ι O w v x) : VRels ι O w (vs ++ [v]) (xs ++ [x]) := h.append (.cons hv .nil)

theorem VRel.oneCell {v : V} {x : Value} (h : VRel ι O w v x) (hv : v.one = true) : x.oneCell' = true := by
  cases h <;> simp_all [V.one, Value.oneCell']

theorem cells_of_oneCell {x : Value} (h : x.oneCell' = true) : x.cells = #[x] := by cases x <;> simp_all [Value.oneCell', Value.cells]

theorem VRel.cells {v : V} {x : Value} (h : VRel ι O w v x) (hv : v.isAny = false) : VRels ι O w v.cells x.cells.toList := by
  cases h with
  | any => simp [V.isAny] at hv
  | val _ h => simp only [V.cells, cells_of_oneCell h]; exact .cons (.val _ h) .nil
  | agg h => simpa [V.cells, Value.cells] using h
  | tup h => exact .cons (.tup h) .nil
  | ptr h hg hm ho => exact .cons (.ptr h hg hm ho) .nil
  | sl h hg hm ho h0 hl hc hs => exact .cons (.sl h hg hm ho h0 hl hc hs) .nil
  | sl0 h => exact .cons (.sl0 h) .nil
  | sub h hg hm ho hl hc hs => exact .cons (.sub h hg hm ho hl hc hs) .nil
  | ro0 => exact .cons .ro0 .nil
  | ro hb hO hw hsz hlen hlc hin hvs h => exact .cons (.ro hb hO hw hsz hlen hlc hin hvs h) .nil
  | rp hb hO hw hsz hin hvs h ho => exact .cons (.rp hb hO hw hsz hin hvs h ho) .nil
  | map h hg hm => exact .cons (.map h hg hm) .nil
  | fn h1 h2 => exact .cons (.fn h1 h2) .nil

/-- what is immutable stays as it was -/
structure Stays (ι : Names) (O : Nat → Prop) (w : World) (ι' : Names) (O' : Nat → Prop) (w' : World) : Prop where
  le : ∀ n l, ι n = some l → ι' n = some l
  size : w.heap.size ≤ w'.heap.size
  heap : ∀ b, b < w.heap.size → ¬ O b → ¬ O' b ∧ w'.heap[b]? = w.heap[b]?

mutual
theorem VRel.stays (S : Stays ι O w ι' O' w') : {v : V} → {x : Value} → VRel ι O w v x → VRel ι' O' w' v x
  | _, _, .any v => .any v
  | _, _, .val v h => .val v h
  | _, _, .agg h => .agg (VRels.stays S h)
  | _, _, .tup h => .tup (VRels.stays S h)
  | _, _, .ptr h hg hm ho => .ptr (S.le _ _ h) hg hm ho
  | _, _, .sl h hg hm ho h0 hl hc hs => .sl (S.le _ _ h) hg hm ho h0 hl hc hs
  | _, _, .sl0 h => .sl0 (S.le _ _ h)
  | _, _, .sub h hg hm ho hl hc hs => .sub (S.le _ _ h) hg hm ho hl hc hs
  | _, _, .ro0 => .ro0
  | _, _, .ro hb hO hw hsz hlen hlc hin hvs h => .ro (Nat.lt_of_lt_of_le hb S.size) (S.heap _ hb hO).1 ((S.heap _ hb hO).2.trans hw) hsz hlen hlc hin hvs (VRels.stays S h)
  | _, _, .rp hb hO hw hsz hin hvs h ho => .rp (Nat.lt_of_lt_of_le hb S.size) (S.heap _ hb hO).1 ((S.heap _ hb hO).2.trans hw) hsz hin hvs (VRels.stays S h) ho
  | _, _, .map h hg hm => .map (S.le _ _ h) hg hm
  | _, _, .fn h1 h2 => .fn (VRels.stays S h1) (VRels.stays S h2)
theorem VRels.stays (S : Stays ι O w ι' O' w') : {vs : List V} → {xs : List Value} → VRels ι O w vs xs → VRels ι' O' w' vs xs
  | _, _, .nil => .nil
  | _, _, .cons h hs => .cons (VRel.stays S h) (VRels.stays S hs)
end

end

/-! ## the owned heap -/

inductive B where
  | rows (sz : Nat) (es : List V)
  | map (es : List (Value × V))

abbrev Heap := List (Nat × B)

def OwnH (ι : Names) (H : Heap) (b : Nat) : Prop := ∃ n B l, (n, B) ∈ H ∧ ι n = some l ∧ l.ghost = false ∧ l.b = b

/-- what may not be looked at as immutable -/
def Own (F : Nat → Prop) (ι : Names) (H : Heap) (b : Nat) : Prop := F b ∨ OwnH ι H b

def BRel (ι : Names) (O : Nat → Prop) (w : World) (l : Loc) : B → Prop
  | .rows sz es => l.sz = sz ∧ l.map = false ∧ (∀ v ∈ es, v.fits sz = true) ∧
      ((l.ghost = true ∧ es = []) ∨
       (l.ghost = false ∧ ∃ c e, w.heap[l.b]? = some (.cells c e (0, 0)) ∧ c.size = l.size ∧ l.o + es.length * sz ≤ c.size ∧
          VRels ι O w (es.flatMap V.cells) ((c.toList.drop l.o).take (es.length * sz))))
  | .map es => l.ghost = false ∧ l.map = true ∧ ∃ mes clock, w.heap[l.b]? = some (.map mes clock) ∧ mes.toList.map (·.key) = es.map (·.1) ∧
      VRels ι O w (es.map (·.2)) (mes.toList.map (·.val)) ∧ (∀ e ∈ mes.toList, e.born < clock) ∧ (mes.toList.map (·.born)).Nodup

structure Rep (F : Nat → Prop) (ι : Names) (H : Heap) (w : World) : Prop where
  frame : ∀ b, F b → b < w.heap.size
  names : (H.map Prod.fst).Nodup
  own : ∀ n B, (n, B) ∈ H → ∃ l, ι n = some l ∧ BRel ι (Own F ι H) w l B ∧ (l.ghost = false → l.b < w.heap.size ∧ ¬ F l.b)
  apart : ∀ n B m C l l', (n, B) ∈ H → (m, C) ∈ H → n ≠ m → ι n = some l → ι m = some l' → l.ghost = false → l'.ghost = false → l.b ≠ l'.b

structure Kept (ι : Names) (H : Heap) (w : World) (ι' : Names) (H' : Heap) (w' : World) : Prop where
  le : ∀ n l, ι n = some l → ι' n = some l
  os : w'.os = w.os
  tape : w'.tape = w.tape
  output : w'.output = w.output
  size : w.heap.size ≤ w'.heap.size
  stay : ∀ b, b < w.heap.size → ¬ OwnH ι H b → w'.heap[b]? = w.heap[b]?
  old : ∀ b, b < w.heap.size → OwnH ι' H' b → OwnH ι H b

theorem Kept.refl (ι : Names) (H : Heap) (w : World) : Kept ι H w ι H w :=
  ⟨fun _ _ h => h, rfl, rfl, rfl, Nat.le_refl _, fun _ _ _ => rfl, fun _ _ h => h⟩

theorem Kept.trans {ι ι' ι'' : Names} {H H' H'' : Heap} {w w' w'' : World} (h : Kept ι H w ι' H' w') (h' : Kept ι' H' w' ι'' H'' w'') : Kept ι H w ι'' H'' w'' :=
  ⟨fun n l e => h'.le n l (h.le n l e), h'.os.trans h.os, h'.tape.trans h.tape, h'.output.trans h.output, Nat.le_trans h.size h'.size,
   fun b hb hn => (h'.stay b (Nat.lt_of_lt_of_le hb h.size) (fun ho => hn (h.old b hb ho))).trans (h.stay b hb hn),
   fun b hb ho => h.old b hb (h'.old b (Nat.lt_of_lt_of_le hb h.size) ho)⟩

theorem Kept.stays {F : Nat → Prop} {ι ι' : Names} {H H' : Heap} {w w' : World} (h : Kept ι H w ι' H' w') : Stays ι (Own F ι H) w ι' (Own F ι' H') w' :=
  ⟨h.le, h.size, fun b hb hn => ⟨fun ho => hn (ho.elim .inl fun ho => .inr (h.old b hb ho)), h.stay b hb fun ho => hn (.inr ho)⟩⟩

end Go.Sl
