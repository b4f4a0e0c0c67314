/- Lists of pairs: the document's relations, plainly and as values. -/
import Derived.Test.YtjdaofmhklihiaaW4
import Derived.Test.YtjdaofmhklihiaaSl19
set_option linter.unusedVariables false
set_option linter.unusedSimpArgs false
namespace Go.Proofs.Ytjdaofmhklihiaa
open Go Go.Sl

abbrev Pr := Int × Int

def prC (p : Pr) : V := .agg [.val (.int .i64 p.1), .val (.int .i64 p.2)]
def prs (l : List Pr) : List V := l.map prC

@[go_sem] theorem prs_len (l : List Pr) : (prs l).length = l.length := List.length_map ..
@[go_sem] theorem prs_at (l : List Pr) (i : Nat) : (prs l)[i]? = l[i]?.map prC := List.getElem?_map ..
@[go_sem] theorem prs_get (l : List Pr) (i : Nat) (h : i < (prs l).length) : (prs l)[i] = prC (l[i]'(by simpa [prs] using h)) := by simp [prs]
theorem prs_append (l m : List Pr) : prs (l ++ m) = prs l ++ prs m := List.map_append ..
@[go_sem] theorem prs_take (l : List Pr) (n : Nat) : (prs l).take n = prs (l.take n) := (List.map_take ..).symm
@[go_sem] theorem prs_drop (l : List Pr) (n : Nat) : (prs l).drop n = prs (l.drop n) := (List.map_drop ..).symm
theorem nl_prC (p : Pr) : NLs (prC p).cells := .cons (.val _) (.cons (.val _) .nil)
theorem nl_prC' (p : Pr) : NL (prC p) := .agg (nl_prC p)
theorem nl_prs (l : List Pr) : NL (.ro 2 (prs l)) := .ro fun v hv => by
  obtain ⟨a, _, rfl⟩ := List.mem_map.1 hv
  exact nl_prC a
theorem fits_prC (p : Pr) : (prC p).fits 2 = true := rfl

theorem take_at {α : Type} {l : List α} {i : Nat} {x : α} (h : l[i]? = some x) : l.take (i + 1) = l.take i ++ [x] := by
  rw [List.take_add_one, h]; rfl
theorem lt_at {α : Type} {l : List α} {i : Nat} (h : i < l.length) : ∃ x, l[i]? = some x ∧ l[i] = x := ⟨_, List.getElem?_eq_getElem h, rfl⟩

def rIn (p : Pr) : Bool := decide (0 ≤ p.1) && decide (p.1 ≤ 15) && decide (0 ≤ p.2) && decide (p.2 ≤ 15)
def rWith (l : List Pr) (p : Pr) : List Pr := if rIn p && !l.contains p then l ++ [p] else l
def rOr (l m : List Pr) : List Pr := m.foldl rWith l
def rAnd (l m : List Pr) : List Pr := l.filter fun p => m.contains p
def rLess (l m : List Pr) : List Pr := l.filter fun p => !m.contains p
def rTurned (l : List Pr) : List Pr := l.map fun p => (p.2, p.1)
def rThen1 (m : List Pr) (o : List Pr) (p : Pr) : List Pr := m.foldl (fun o q => if p.2 == q.1 then rWith o (p.1, q.2) else o) o
def rThen (l m : List Pr) : List Pr := l.foldl (rThen1 m) []
def rClosed (l : List Pr) : Nat → List Pr
  | 0 => l
  | n + 1 => rOr (rClosed l n) (rThen (rClosed l n) l)
def rAround (l : List Pr) : Bool := (rClosed l 16).any fun p => p.1 == p.2
def rSame (l m : List Pr) : Bool := (rLess l m).isEmpty && (rLess m l).isEmpty

/-- pairs of things, each once -/
def Fin (l : List Pr) : Prop := l.Nodup ∧ ∀ p ∈ l, rIn p = true

theorem Fin.nil : Fin [] := ⟨.nil, by simp⟩
theorem rIn_iff {p : Pr} : rIn p = true ↔ 0 ≤ p.1 ∧ p.1 ≤ 15 ∧ 0 ≤ p.2 ∧ p.2 ≤ 15 := by
  simp only [rIn, Bool.and_eq_true, decide_eq_true_eq]
  constructor
  · rintro ⟨⟨⟨h1, h2⟩, h3⟩, h4⟩; exact ⟨h1, h2, h3, h4⟩
  · rintro ⟨h1, h2, h3, h4⟩; exact ⟨⟨⟨h1, h2⟩, h3⟩, h4⟩

theorem nodup_bound : ∀ (n : Nat) (l : List Nat), l.Nodup → (∀ x ∈ l, x < n) → l.length ≤ n
  | 0, l, _, h => by
    cases l with
    | nil => simp
    | cons x l => exact absurd (h x (by simp)) (by omega)
  | n + 1, l, hd, h => by
    have h1 := nodup_bound n (l.filter fun x => x != n) (hd.filter _) fun x hx => by
      obtain ⟨h2, h3⟩ := List.mem_filter.1 hx
      have := h x h2
      simp at h3; omega
    have h2 : l.length ≤ (l.filter fun x => x != n).length + 1 := by
      clear h h1
      induction l with
      | nil => simp
      | cons x l ih =>
        obtain ⟨h1, h2⟩ := List.nodup_cons.1 hd
        by_cases e : x = n
        · subst e
          have : l.filter (fun y => y != x) = l := List.filter_eq_self.2 fun y hy => by
            have : y ≠ x := fun e => h1 (e ▸ hy)
            simpa using this
          simp [this]
        · have := ih h2
          simp [e]; omega
    omega

theorem Fin.len {l : List Pr} (h : Fin l) : l.length ≤ 256 := by
  have := nodup_bound 256 (l.map fun p => (p.1 * 16 + p.2).toNat) ?_ ?_
  · simpa using this
  · rw [List.Nodup, List.pairwise_map]
    refine h.1.imp_of_mem fun {a b} ha hb hab => fun e => hab ?_
    have h1 := rIn_iff.1 (h.2 a ha)
    have h2 := rIn_iff.1 (h.2 b hb)
    exact Prod.ext (by omega) (by omega)
  · intro x hx
    obtain ⟨p, hp, rfl⟩ := List.mem_map.1 hx
    have h1 := rIn_iff.1 (h.2 p hp)
    omega

theorem rWith_mem {l : List Pr} {p q : Pr} : q ∈ rWith l p ↔ q ∈ l ∨ (q = p ∧ rIn p = true) := by
  unfold rWith
  split
  · rename_i h
    simp only [Bool.and_eq_true] at h
    simp [h.1]
  · rename_i h
    constructor
    · exact .inl
    · rintro (h1 | ⟨rfl, h2⟩)
      · exact h1
      · simpa [h2] using h

theorem Fin.with {l : List Pr} (h : Fin l) (p : Pr) : Fin (rWith l p) := by
  unfold rWith
  split
  · rename_i hc
    simp only [Bool.and_eq_true, Bool.not_eq_true', List.contains_eq_mem, decide_eq_false_iff_not] at hc
    refine ⟨?_, ?_⟩
    · rw [List.nodup_append]
      refine ⟨h.1, by simp, ?_⟩
      intro a ha b hb e
      subst e
      simp at hb; subst hb
      exact hc.2 ha
    · intro q hq
      rcases List.mem_append.1 hq with hq | hq
      · exact h.2 q hq
      · simp at hq; subst hq; exact hc.1
  · exact h

theorem Fin.foldl {α : Type} {f : List Pr → α → List Pr} (hf : ∀ l x, Fin l → Fin (f l x)) : ∀ (m : List α) (l : List Pr), Fin l → Fin (m.foldl f l)
  | [], l, h => h
  | x :: m, l, h => Fin.foldl hf m _ (hf l x h)

theorem Fin.or {l : List Pr} (h : Fin l) (m : List Pr) : Fin (rOr l m) := Fin.foldl (fun l x h => h.with x) m l h
theorem Fin.then1 (m : List Pr) {o : List Pr} (h : Fin o) (p : Pr) : Fin (rThen1 m o p) := Fin.foldl (fun l x h => by
  split
  · exact h.with _
  · exact h) m o h
theorem Fin.then (l m : List Pr) : Fin (rThen l m) := Fin.foldl (fun o p h => Fin.then1 m h p) l [] .nil
theorem Fin.closed {l : List Pr} (h : Fin l) : ∀ n, Fin (rClosed l n)
  | 0 => h
  | n + 1 => (Fin.closed h n).or _
theorem Fin.filter {l : List Pr} (h : Fin l) (f : Pr → Bool) : Fin (l.filter f) := ⟨h.1.filter _, fun p hp => h.2 p (List.mem_filter.1 hp).1⟩

theorem eqCells_pr (a b c d : Int) : eqCells [.int, .int] [.val (.int .i64 a), .val (.int .i64 b)] [.val (.int .i64 c), .val (.int .i64 d)] = some (((a, b) : Pr) == (c, d)) := by
  simp [eqCells]; rfl

end Go.Proofs.Ytjdaofmhklihiaa
