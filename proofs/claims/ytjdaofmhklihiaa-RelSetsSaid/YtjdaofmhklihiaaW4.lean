/- Relations, plainly: how closing, turning, and orders go together; two relations compared. -/
import Derived.Test.YtjdaofmhklihiaaW3
set_option linter.unusedVariables false
set_option linter.unusedSimpArgs false
namespace Go.Proofs.Ytjdaofmhklihiaa
open Go Go.Sl

/-- the same, below 16 -/
def relB (p q : Nat → Nat → Bool) : Bool := (List.range 16).all fun a => mask (p a) == mask (q a)

theorem relB_true {p q : Nat → Nat → Bool} (h : ∀ a, a < 16 → ∀ b, b < 16 → p a b = q a b) : relB p q = true := by
  unfold relB
  rw [List.all_eq_true]
  intro a ha
  rw [mask_ext (h a (List.mem_range.1 ha))]
  simp

theorem eqCells_ints (f g : Nat → Nat) : ∀ (n s : Nat), eqCells (List.replicate n .int) ((List.range' s n).map fun a => .val (.int .u16 (f a))) ((List.range' s n).map fun a => .val (.int .u16 (g a))) = some ((List.range' s n).all fun a => f a == g a)
  | 0, s => rfl
  | n + 1, s => by
    simp only [List.replicate_succ, List.range'_succ, List.map_cons, eqCells, if_true, eqCells_ints f g n (s + 1), Option.map_some, List.all_cons]
    congr 2
    exact decide_eq_decide.2 (by omega)

@[go_sem] theorem eqCells_relC (p q : Nat → Nat → Bool) : eqCells [.int, .int, .int, .int, .int, .int, .int, .int, .int, .int, .int, .int, .int, .int, .int, .int] (relC p) (relC q) = some (relB p q) := by
  have := eqCells_ints (fun a => mask (p a)) (fun a => mask (q a)) 16 0
  unfold relC relB
  rw [List.range_eq_range']
  exact this

theorem relB_self (p : Nat → Nat → Bool) : relB p p = true := relB_true fun _ _ _ _ => rfl

theorem wN_cl {p : Nat → Nat → Bool} : ∀ (n : Nat), n ≤ 16 → ∀ a b, wN (cl p) n a b = true → cl p a b = true
  | 0, _, a, b, h => h
  | n + 1, hn, a, b, h => by
    simp only [wN, Bool.or_eq_true, Bool.and_eq_true] at h
    rcases h with h | ⟨h1, h2⟩
    · exact wN_cl n (by omega) a b h
    · exact cl_trans (by omega) (wN_cl n (by omega) a n h1) (wN_cl n (by omega) n b h2)

theorem cl_cl (p : Nat → Nat → Bool) : cl (cl p) = cl p := by
  funext a b
  rw [Bool.eq_iff_iff]
  exact ⟨wN_cl 16 (by omega) a b, cl_base⟩

theorem wN_turned (p : Nat → Nat → Bool) : ∀ (n a b : Nat), wN (fun a b => p b a) n a b = wN p n b a
  | 0, a, b => rfl
  | n + 1, a, b => by
    simp only [wN, wN_turned p n]
    rw [Bool.and_comm (wN p n n a)]

theorem cl_turned (p : Nat → Nat → Bool) : cl (fun a b => p b a) = fun a b => cl p b a := by
  funext a b; exact wN_turned p 16 a b

theorem th_turned (p q : Nat → Nat → Bool) : (fun a b => th p q b a) = th (fun a b => q b a) fun a b => p b a := by
  funext a b
  unfold th
  congr 1
  funext k
  rw [Bool.and_comm]

theorem order_self {p : Nat → Nat → Bool} {s : Nat → Bool} {out L : List Nat} (h : order p s out = some L) : ∀ a, a < 16 → s a = true → p a a = false := by
  by_cases h0 : mask s = 0
  · intro a ha hs; rw [mask_eq_zero.1 h0 a ha] at hs; cases hs
  · cases hp : pick1 p s with
    | none => rw [order_none h0 hp] at h; cases h
    | some x =>
      obtain ⟨hx, hf, hsx⟩ := pick1_in hp
      rw [order_some h0 hp] at h
      have hlt := mask_rem hx hsx
      have ih := order_self h
      intro a ha hs
      by_cases e : a = x
      · subst e
        unfold free at hf
        rw [Bool.and_eq_true, beq_iff_eq] at hf
        have := mask_eq_zero.1 (by omega : mask (fun b => p b a && s b) = 0) a ha
        simpa [hs] using this
      · exact ih a ha (by simp [hs, e])
termination_by mask s

theorem order_acyclic {p : Nat → Nat → Bool} {L : List Nat} (hord : order p (fun _ => true) [] = some L) : loopy p = false := by
  obtain ⟨M, e, h1, h2, h3, h4⟩ := order_good hord
  simp only [List.nil_append] at e
  subst e
  have step : ∀ a b, a < 16 → b < 16 → p a b = true → L.idxOf a < L.idxOf b := by
    intro a b ha hb hp
    have hma := h3 a ha rfl
    have hmb := h3 b hb rfl
    have la := List.idxOf_lt_length_iff.2 hma
    have lb := List.idxOf_lt_length_iff.2 hmb
    have ga : L[L.idxOf a] = a := List.getElem_idxOf la
    have gb : L[L.idxOf b] = b := List.getElem_idxOf lb
    rcases Nat.lt_trichotomy (L.idxOf a) (L.idxOf b) with h | h | h
    · exact h
    · have : a = b := by rw [← ga, ← gb]; congr 1
      subst this
      rw [order_self hord a ha rfl] at hp; cases hp
    · have := List.pairwise_iff_getElem.1 h4 _ _ lb la h
      rw [ga, gb, hp] at this; cases this
  have key : ∀ n, n ≤ 16 → ∀ a b, a < 16 → b < 16 → wN p n a b = true → L.idxOf a < L.idxOf b := by
    intro n
    induction n with
    | zero => intro _ a b ha hb h; exact step a b ha hb h
    | succ n ih =>
      intro hn a b ha hb h
      simp only [wN, Bool.or_eq_true, Bool.and_eq_true] at h
      rcases h with h | ⟨h1, h2⟩
      · exact ih (by omega) a b ha hb h
      · exact Nat.lt_trans (ih (by omega) a n ha (by omega) h1) (ih (by omega) n b (by omega) hb h2)
  cases hl : loopy p
  · rfl
  · obtain ⟨a, ha, hc⟩ := some16_iff.1 hl
    exact absurd (key 16 (by omega) a a ha ha hc) (by omega)

def ordL : Option (List Nat) → V
  | none => .val (.slice none 0 0)
  | some l => .ro 1 (nums l)
theorem ordV_eq (o : Option (List Nat)) : ordV o = .tup [ordL o, .val (.bool o.isSome)] := by cases o <;> rfl

theorem order_all (p : Nat → Nat → Bool) : (order p (fun _ => true) []).isSome = !loopy p := by
  cases h : order p (fun _ => true) [] with
  | none =>
    have := order_stuck h
    simp only [Bool.and_true, Bool.and_self] at this
    simp [this]
  | some L => simp [order_acyclic h]

theorem mask_all : (65535 : Nat) = mask fun _ => true := by decide

end Go.Proofs.Ytjdaofmhklihiaa
