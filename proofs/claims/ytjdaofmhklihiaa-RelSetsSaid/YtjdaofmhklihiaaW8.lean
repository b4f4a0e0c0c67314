/- Orders, members, crosses and chains of sets and lists, plainly. -/
import Derived.Test.YtjdaofmhklihiaaW7
set_option linter.unusedVariables false
set_option linter.unusedSimpArgs false
namespace Go.Proofs.Ytjdaofmhklihiaa
open Go Go.Sl

theorem Pf.seen_res {P : Program} {f : FuncId} {args : List V} {r r' : V} (h : SeenAs r r') (p : Pf P f args r) : Pf P f args r' :=
  ⟨p.enters, fun ι O w cargs hO hv => (p.calls ι O w cargs hO hv).mono fun e w' ⟨cv, he, hr, h1⟩ => ⟨cv, he, h _ _ _ _ hr, h1⟩⟩

/-- an order's answer, its list never nil -/
def ordW (o : Option (List Nat)) : V := .tup [.ro 1 (nums (o.getD [])), .val (.bool o.isSome)]
theorem seen_ord (o : Option (List Nat)) : SeenAs (ordV o) (ordW o) := by
  cases o with
  | none =>
    intro ι O w x h
    cases h with
    | tup h =>
      cases h with
      | cons h1 hs => cases h1; exact .tup (.cons .ro0 hs)
  | some l => exact SeenAs.refl _
theorem nl_ordW (o : Option (List Nat)) : NL (ordW o) := .tup (.cons (.ro (nl_nums _)) (.cons (.val _) .nil))

@[go_sem] theorem nums_at (l : List Nat) (i : Nat) : (nums l)[i]? = l[i]?.map fun (n : Nat) => V.val (.int .i64 (n : Int)) := List.getElem?_map ..
@[go_sem] theorem nums_take' (l : List Nat) (n : Nat) : (nums l).take n = nums (l.take n) := (List.map_take ..).symm
@[go_sem] theorem nums_drop (l : List Nat) (n : Nat) : (nums l).drop n = nums (l.drop n) := (List.map_drop ..).symm

def mem (s : Nat → Bool) (n : Nat) : List Nat := (List.range n).filter s
theorem mem_zero (s : Nat → Bool) : mem s 0 = [] := rfl
theorem mem_yes {s : Nat → Bool} {n : Nat} (h : s n = true) : mem s (n + 1) = mem s n ++ [n] := by simp [mem, List.range_succ, h]
theorem mem_no {s : Nat → Bool} {n : Nat} (h : s n = false) : mem s (n + 1) = mem s n := by simp [mem, List.range_succ, h]
theorem mem_len (s : Nat → Bool) (n : Nat) : (mem s n).length ≤ n := by have := List.length_filter_le s (List.range n); rw [List.length_range] at this; exact this
theorem mem_iff {s : Nat → Bool} {n a : Nat} : a ∈ mem s n ↔ a < n ∧ s a = true := by simp [mem]
theorem mem_at {s : Nat → Bool} {n i a : Nat} (h : (mem s n)[i]? = some a) : a < n ∧ s a = true := mem_iff.1 (List.mem_of_getElem? h)
theorem mem_nil {s : Nat → Bool} : mem s 16 = [] ↔ mask s = 0 := by
  rw [mask_eq_zero, mem, List.filter_eq_nil_iff]
  simp [List.mem_range]

def fr (x : List Pr) (l : List Nat) (a : Nat) : Bool := l.all fun b => !x.contains ((b : Int), (a : Int))
theorem fr_snoc {x : List Pr} {l : List Nat} {a b : Nat} : fr x (l ++ [b]) a = (fr x l a && !x.contains ((b : Int), (a : Int))) := by simp [fr]
theorem fr_all {x : List Pr} {s : Nat → Bool} {a : Nat} (h : s a = true) : fr x (mem s 16) a = free (relL x) s a := by
  unfold fr free
  rw [h, Bool.true_and, Bool.eq_iff_iff, List.all_eq_true, beq_iff_eq]
  constructor
  · intro h1
    have : mask (fun b => relL x b a && s b) = 0 := mask_eq_zero.2 fun b hb => by
      cases hs : s b
      · simp
      · have := h1 b (mem_iff.2 ⟨hb, hs⟩)
        simpa [relL] using this
    rw [this]; rfl
  · intro h1 b hb
    obtain ⟨hb, hs⟩ := mem_iff.1 hb
    have := mask_eq_zero.1 (by omega : mask (fun b => relL x b a && s b) = 0) b hb
    simpa [hs, relL] using this

def nxt (f : Nat → Bool) (l : List Nat) : Int := match l.find? f with | none => -1 | some a => (a : Int)
theorem nxt_yes {f : Nat → Bool} {l : List Nat} {a : Nat} (h : f a = true) (hn : nxt f l < 0) : nxt f (l ++ [a]) = (a : Int) := by
  unfold nxt at hn ⊢
  rw [List.find?_append]
  cases hf : l.find? f with
  | none => simp [h]
  | some b => rw [hf] at hn; simp at hn; omega
theorem nxt_old {f : Nat → Bool} {l : List Nat} {a : Nat} (h : f a = false ∨ ¬ nxt f l < 0) : nxt f (l ++ [a]) = nxt f l := by
  unfold nxt at h ⊢
  rw [List.find?_append]
  cases hf : l.find? f with
  | none =>
    rw [hf] at h
    rcases h with h | h
    · simp [h]
    · simp at h
  | some b => rfl
theorem nxt_mem {p : Nat → Nat → Bool} {s : Nat → Bool} : nxt (free p s) (mem s 16) = match pick1 p s with | none => -1 | some a => (a : Int) := by
  unfold nxt pick1 mem
  rw [List.find?_filter]
  have : (fun a => decide (s a = true ∧ free p s a = true)) = free p s := by
    funext a
    have hs : free p s a = true → s a = true := fun h => by unfold free at h; simp at h; exact h.1
    cases hf : free p s a
    · simp
    · simp [hs hf]
  rw [this]
theorem nxt_range (f : Nat → Bool) (s : Nat → Bool) (n : Nat) : nxt f ((mem s 16).take n) < 16 := by
  unfold nxt
  cases hf : ((mem s 16).take n).find? f with
  | none => simp
  | some a =>
    have := List.mem_of_find?_eq_some hf
    have := (mem_iff.1 (List.mem_of_mem_take this)).1
    simp; omega

theorem mem_rem (s : Nat → Bool) (i : Nat) : (mem s 16).filter (fun x => x != i) = mem (fun x => s x && !(x == i)) 16 := by
  unfold mem
  rw [List.filter_filter]
  congr 1
  funext x
  rw [Bool.and_comm]; rfl
theorem mem_less {s : Nat → Bool} {i : Nat} (hi : i < 16) (h : s i = true) : (mem (fun x => s x && !(x == i)) 16).length + 1 ≤ (mem s 16).length := by
  have := (filter_le (q := fun x => s x && !(x == i)) (q' := s) (List.range 16) (fun x _ h => by simp at h; exact h.1)).2 ⟨i, List.mem_range.2 hi, h, by simp⟩
  exact this

/-! ## crosses -/

def crossL (l m : List Nat) : List Pr := l.flatMap fun a : Nat => m.map fun b : Nat => (((a : Nat) : Int), (b : Int))
def crossP (l m : List Nat) (i j : Nat) : List Pr := crossL (l.take i) m ++ ((m.take j).map fun b : Nat => (((l.getD i 0 : Nat) : Int), (b : Int)))
theorem crossP_zero (l m : List Nat) (i : Nat) : crossP l m i 0 = crossL (l.take i) m := by simp [crossP]
theorem crossP_step {l m : List Nat} {i j a b : Nat} (ha : l[i]? = some a) (hb : m[j]? = some b) : crossP l m i (j + 1) = crossP l m i j ++ [((a : Int), (b : Int))] := by
  simp [crossP, take_at hb, List.getD, ha]
theorem crossP_end {l m : List Nat} {i a : Nat} (ha : l[i]? = some a) : crossP l m i m.length = crossL (l.take (i + 1)) m := by
  simp [crossP, crossL, take_at ha, List.getD, ha]
theorem crossL_len (l m : List Nat) : (crossL l m).length = l.length * m.length := by
  induction l with
  | nil => simp [crossL]
  | cons a l ih =>
    have e : crossL (a :: l) m = (m.map fun b : Nat => (((a : Nat) : Int), (b : Int))) ++ crossL l m := rfl
    rw [e, List.length_append, ih, List.length_map, List.length_cons, Nat.succ_mul, Nat.add_comm]
theorem crossP_len {l m : List Nat} (hl : l.length ≤ 16) (hm : m.length ≤ 16) (i j : Nat) : (crossP l m i j).length ≤ 272 := by
  have h1 : (l.take i).length ≤ 16 := by rw [List.length_take]; omega
  have h2 : (l.take i).length * m.length ≤ 16 * 16 := Nat.mul_le_mul h1 hm
  have h3 : (m.take j).length ≤ 16 := by rw [List.length_take]; omega
  simp only [crossP, List.length_append, List.length_map, crossL_len]
  omega
theorem Agree.cross (s t : Nat → Bool) : Agree (fun a b => s a && t b) (crossL (mem s 16) (mem t 16)) := by
  have key : ∀ q : Pr, q ∈ crossL (mem s 16) (mem t 16) ↔ ∃ a b : Nat, a < 16 ∧ b < 16 ∧ s a = true ∧ t b = true ∧ q = ((a : Int), (b : Int)) := by
    intro q
    simp only [crossL, List.mem_flatMap, List.mem_map, mem_iff]
    constructor
    · rintro ⟨a, ⟨h1, h2⟩, b, ⟨h3, h4⟩, rfl⟩; exact ⟨a, b, h1, h3, h2, h4, rfl⟩
    · rintro ⟨a, b, h1, h2, h3, h4, rfl⟩; exact ⟨a, ⟨h1, h3⟩, b, ⟨h2, h4⟩, rfl⟩
  refine ⟨fun q hq => ?_, fun a ha b hb => ?_⟩
  · obtain ⟨a, b, h1, h2, _, _, rfl⟩ := (key q).1 hq
    exact rIn_iff.2 (by dsimp only; omega)
  · rw [Bool.eq_iff_iff, relL_of, key, Bool.and_eq_true]
    constructor
    · rintro ⟨h1, h2⟩; exact ⟨a, b, ha, hb, h1, h2, rfl⟩
    · rintro ⟨a', b', h1, h2, h3, h4, e⟩
      have e1 : a = a' := by have := congrArg Prod.fst e; dsimp only at this; omega
      have e2 : b = b' := by have := congrArg Prod.snd e; dsimp only at this; omega
      subst e1; subst e2
      exact ⟨h3, h4⟩

/-! ## chains -/

def ints (l : List Int) : List V := l.map fun n => .val (.int .i64 n)
@[go_sem] theorem ints_len (l : List Int) : (ints l).length = l.length := List.length_map ..
@[go_sem] theorem ints_at (l : List Int) (i : Nat) : (ints l)[i]? = l[i]?.map fun n => V.val (.int .i64 n) := List.getElem?_map ..
@[go_sem] theorem ints_get (l : List Int) (i : Nat) (h : i < (ints l).length) : (ints l)[i] = .val (.int .i64 (l[i]'(by simpa [ints] using h))) := by simp [ints]
@[go_sem] theorem ints_take (l : List Int) (n : Nat) : (ints l).take n = ints (l.take n) := (List.map_take ..).symm
@[go_sem] theorem ints_drop (l : List Int) (n : Nat) : (ints l).drop n = ints (l.drop n) := (List.map_drop ..).symm
theorem ints_append (l m : List Int) : ints (l ++ m) = ints l ++ ints m := List.map_append ..
theorem nl_ints (l : List Int) : NL (.ro 1 (ints l)) := .ro fun v hv => by
  obtain ⟨a, _, rfl⟩ := List.mem_map.1 hv
  exact .cons (.val _) .nil

/-- x stands ahead of y, and among the first i -/
def chP (l : List Int) : Nat → Int → Int → Bool
  | 0, _, _ => false
  | i + 1, x, y => chP l i x y || (l[i]? == some x && (l.drop (i + 1)).contains y)
def chI (l : List Int) (i c : Nat) (x y : Int) : Bool := chP l i x y || (l[i]? == some x && ((l.drop (i + 1)).take c).contains y)
theorem chI_zero (l : List Int) (i : Nat) (x y : Int) : chI l i 0 x y = chP l i x y := by simp [chI]
theorem chI_step {l : List Int} {i c : Nat} {a b : Int} (ha : l[i]? = some a) (hb : (l.drop (i + 1))[c]? = some b) (x y : Int) : (chI l i c x y || (decide (x = a) && decide (y = b))) = chI l i (c + 1) x y := by
  unfold chI
  rw [take_at hb, ha, Bool.eq_iff_iff]
  simp only [Bool.or_eq_true, Bool.and_eq_true, beq_iff_eq, Option.some.injEq, List.contains_iff_mem, List.mem_append, List.mem_singleton, decide_eq_true_eq]
  constructor
  · rintro ((h | ⟨h1, h2⟩) | ⟨h1, h2⟩)
    · exact .inl h
    · exact .inr ⟨h1, .inl h2⟩
    · exact .inr ⟨h1.symm, .inr h2⟩
  · rintro (h | ⟨h1, h2 | h2⟩)
    · exact .inl (.inl h)
    · exact .inl (.inr ⟨h1, h2⟩)
    · exact .inr ⟨h1.symm, h2⟩
theorem chI_end {l : List Int} (i : Nat) (x y : Int) : chI l i (l.drop (i + 1)).length x y = chP l (i + 1) x y := by simp only [chI, chP, List.take_length]

theorem chI_end' {l : List Int} (i : Nat) (x y : Int) : chI l i (l.length - (i + 1)) x y = chP l (i + 1) x y := by rw [← chI_end, List.length_drop]

theorem chP_cons (a : Int) (l : List Int) (x y : Int) : ∀ i, chP (a :: l) (i + 1) x y = ((decide (x = a) && l.contains y) || chP l i x y)
  | 0 => by
    simp only [chP, List.getElem?_cons_zero, Nat.zero_add, List.drop_succ_cons, List.drop_zero, Bool.false_or, Bool.or_false]
    congr 1
    rw [Bool.eq_iff_iff, beq_iff_eq, Option.some.injEq, decide_eq_true_eq]
    exact eq_comm
  | i + 1 => by
    have ih := chP_cons a l x y i
    have e1 : chP (a :: l) (i + 1 + 1) x y = (chP (a :: l) (i + 1) x y || ((a :: l)[i + 1]? == some x && ((a :: l).drop (i + 1 + 1)).contains y)) := rfl
    have e2 : chP l (i + 1) x y = (chP l i x y || (l[i]? == some x && (l.drop (i + 1)).contains y)) := rfl
    rw [e1, ih, e2, List.getElem?_cons_succ, List.drop_succ_cons, Bool.or_assoc]

def chA (l : List Int) (x y : Int) : Bool := chP l l.length x y
theorem chA_nil (x y : Int) : chA [] x y = false := rfl
theorem chA_cons (a : Int) (l : List Int) (x y : Int) : chA (a :: l) x y = ((decide (x = a) && l.contains y) || chA l x y) := chP_cons a l x y l.length
theorem chA_snoc (b : Int) (x y : Int) : ∀ l : List Int, chA (l ++ [b]) x y = (chA l x y || (l.contains x && decide (y = b)))
  | [] => by
    have h1 : chA ([] ++ [b]) x y = ((decide (x = b) && false) || false) := chA_cons b [] x y
    have h2 : (chA [] x y || (([] : List Int).contains x && decide (y = b))) = (false || (false && decide (y = b))) := rfl
    rw [h1, h2, Bool.and_false, Bool.false_and]
  | a :: l => by
    rw [List.cons_append, chA_cons, chA_cons, chA_snoc b x y l, Bool.eq_iff_iff]
    simp only [Bool.or_eq_true, Bool.and_eq_true, decide_eq_true_eq, List.contains_iff_mem, List.mem_append, List.mem_cons, List.mem_singleton, List.not_mem_nil, or_false]
    constructor
    · rintro (⟨h1, h2 | h2⟩ | h | ⟨h1, h2⟩)
      · exact .inl (.inl ⟨h1, h2⟩)
      · exact .inr ⟨.inl h1, h2⟩
      · exact .inl (.inr h)
      · exact .inr ⟨.inr h1, h2⟩
    · rintro ((⟨h1, h2⟩ | h) | ⟨h1 | h1, h2⟩)
      · exact .inl ⟨h1, .inl h2⟩
      · exact .inr (.inl h)
      · exact .inl ⟨h1, .inr h2⟩
      · exact .inr (.inr ⟨h1, h2⟩)

def chZ1 (t : List Int) (z : List Pr) (b : Int) : List Pr := t.foldl (fun z a => rWith z (a, b)) z
/-- things and the pairs of their chain -/
def chS (l : List Int) : List Int := l.map md
def chZ (l : List Int) : List Pr := (l.foldl (fun (s : List Int × List Pr) n => (s.1 ++ [md n], chZ1 s.1 s.2 (md n))) ([], [])).2
theorem chZ_fst (l : List Int) : (l.foldl (fun (s : List Int × List Pr) n => (s.1 ++ [md n], chZ1 s.1 s.2 (md n))) ([], [])).1 = chS l := by
  have : ∀ (l : List Int) (s : List Int × List Pr), (l.foldl (fun (s : List Int × List Pr) n => (s.1 ++ [md n], chZ1 s.1 s.2 (md n))) s).1 = s.1 ++ chS l := by
    intro l
    induction l with
    | nil => intro s; simp [chS]
    | cons n l ih => intro s; rw [List.foldl_cons, ih]; simp [chS]
  simpa using this l ([], [])
theorem chZ_snoc (l : List Int) (n : Int) : chZ (l ++ [n]) = chZ1 (chS l) (chZ l) (md n) := by
  unfold chZ
  rw [List.foldl_append, List.foldl_cons, List.foldl_nil]
  dsimp only
  rw [chZ_fst]
theorem chS_snoc (l : List Int) (n : Int) : chS (l ++ [n]) = chS l ++ [md n] := by simp [chS]
theorem chZ1_fin {z : List Pr} (h : Fin z) (t : List Int) (b : Int) : Fin (chZ1 t z b) := Fin.foldl (fun _ _ h => h.with _) t z h
theorem chS_mem {l : List Int} {x : Int} (h : x ∈ chS l) : 0 ≤ x ∧ x ≤ 15 := by
  obtain ⟨n, _, rfl⟩ := List.mem_map.1 h
  exact md_range n
theorem chZ1_mem {q : Pr} {b : Int} (hb : 0 ≤ b ∧ b ≤ 15) : ∀ {t : List Int} {z : List Pr}, (∀ x ∈ t, 0 ≤ x ∧ x ≤ 15) → (q ∈ chZ1 t z b ↔ q ∈ z ∨ (q.1 ∈ t ∧ q.2 = b))
  | [], z, _ => by simp [chZ1]
  | a :: t, z, h => by
    have e : chZ1 (a :: t) z b = chZ1 t (rWith z (a, b)) b := rfl
    rw [e, chZ1_mem hb fun x hx => h x (by simp [hx]), rWith_mem]
    have ha := h a (by simp)
    have hr : rIn (a, b) = true := rIn_iff.2 (by dsimp only; omega)
    simp only [hr, and_true, List.mem_cons]
    constructor
    · rintro ((h | rfl) | ⟨h1, h2⟩)
      · exact .inl h
      · exact .inr ⟨.inl rfl, rfl⟩
      · exact .inr ⟨.inr h1, h2⟩
    · rintro (h | ⟨h1 | h1, h2⟩)
      · exact .inl (.inl h)
      · exact .inl (.inr (Prod.ext h1 h2))
      · exact .inr ⟨h1, h2⟩

theorem chZ_all : ∀ (n : Nat) (l : List Int), l.length = n → Fin (chZ l) ∧ ∀ q : Pr, q ∈ chZ l ↔ chA (chS l) q.1 q.2 = true
  | 0, l, h => by
    have : l = [] := List.length_eq_zero_iff.1 h
    subst this
    exact ⟨.nil, fun q => by simp [chZ, chS, chA_nil]⟩
  | n + 1, l, h => by
    obtain ⟨m, b, rfl⟩ : ∃ m b, l = m ++ [b] := ⟨l.dropLast, l.getLast (by intro e; simp [e] at h), (List.dropLast_concat_getLast _).symm⟩
    obtain ⟨h1, h2⟩ := chZ_all n m (by simpa using h)
    refine ⟨by rw [chZ_snoc]; exact chZ1_fin h1 _ _, fun q => ?_⟩
    rw [chZ_snoc, chS_snoc, chZ1_mem (md_range b) (fun x hx => chS_mem hx), h2, chA_snoc]
    simp
theorem Agree.chain (l : List Int) : Agree (fun a b => chA (chS l) (a : Int) (b : Int)) (chZ l) := by
  obtain ⟨h1, h2⟩ := chZ_all _ l rfl
  refine ⟨h1.2, fun a _ b _ => ?_⟩
  rw [Bool.eq_iff_iff, relL_of, h2]

end Go.Proofs.Ytjdaofmhklihiaa
