/- A region whose order is open: whatever order it takes, it comes to what the order of its text comes to. -/
import Derived.Test.YtokdphmnlcmbbaaSl14
import Derived.Orders
set_option linter.unusedVariables false
set_option linter.unusedSimpArgs false
namespace Go.Sl

/-! ## last writers -/

def last (p : Nat → Bool) : Nat → Nat
  | 0 => 0
  | n + 1 => if p n then n + 1 else last p n

theorem last_le (p : Nat → Bool) : ∀ n, last p n ≤ n
  | 0 => Nat.le_refl _
  | n + 1 => by simp only [last]; split; exact Nat.le_refl _; exact Nat.le_succ_of_le (last_le p n)

theorem last_none (p : Nat → Bool) : ∀ n k, last p n ≤ k → k < n → p k = false
  | 0, k, _, h => by omega
  | n + 1, k, h, hk => by
    simp only [last] at h
    split at h
    · omega
    · rename_i hp
      by_cases e : k = n
      · subst e; simpa using hp
      · exact last_none p n k h (by omega)

theorem last_congr {p q : Nat → Bool} : ∀ n, (∀ k, k < n → p k = q k) → last p n = last q n
  | 0, _ => rfl
  | n + 1, h => by simp only [last, h n (by omega), last_congr n fun k hk => h k (by omega)]

theorem last_skip {p : Nat → Bool} {a : Nat} : ∀ n, a ≤ n → (∀ k, a ≤ k → k < n → p k = false) → last p n = last p a
  | 0, h, _ => by have : a = 0 := by omega
                  subst this; rfl
  | n + 1, h, hp => by
    by_cases e : a = n + 1
    · subst e; rfl
    · simp only [last, hp n (by omega) (by omega), Bool.false_eq_true, if_false]
      exact last_skip n (by omega) fun k h1 h2 => hp k h1 (by omega)

theorem last_at {p : Nat → Bool} {i n : Nat} (hi : i < n) (hp : p i = true) (h : ∀ k, i < k → k < n → p k = false) : last p n = i + 1 := by
  rw [last_skip (a := i + 1) n (by omega) fun k h1 h2 => h k (by omega) h2]
  simp only [last, hp, if_true]

theorem last_zero {p : Nat → Bool} : ∀ n, (∀ k, k < n → p k = false) → last p n = 0
  | 0, _ => rfl
  | n + 1, h => by simp only [last, h n (by omega), Bool.false_eq_true, if_false]; exact last_zero n fun k hk => h k (by omega)

/-! ## what is asked of the region's edges -/

def direct (ops : List Oper) (j : Nat) : List Nat :=
  match ops[j]? with
  | some o => (o.after.toList.filter (Region.binds .any)).map (·.on)
  | none => []

def dstOf (ops : List Oper) (j : Nat) : Option Nat := (ops[j]?).bind (·.dst)

def readsOf (ops : List Oper) (j : Nat) : List Nat :=
  match ops[j]? with
  | some o => opTmps o.op ++ (match o.guard with | some (g, _) => (dstOf ops g).toList | none => [])
  | none => []

def tmpConf (ops : List Oper) (i j : Nat) : Bool :=
  (match dstOf ops i with | some d => (readsOf ops j).contains d || dstOf ops j == some d | none => false) ||
  (match dstOf ops j with | some d => (readsOf ops i).contains d | none => false)

def row (tbl : List (List Nat)) (j : Nat) : List Nat := tbl.getD j []

def drawOk (ops : List Oper) (tbl : List (List Nat)) (m : Nat) : Bool :=
  decide (m ≤ ops.length) &&
  (List.range ops.length).all (fun j =>
    (direct ops j).all (fun e => decide (e < j)) &&
    (row tbl j).all (fun i => decide (i < j) && ((direct ops j).contains i || (direct ops j).any fun k => (row tbl k).contains i)) &&
    (decide (j < m) || (List.range j).all fun i => (row tbl j).contains i)) &&
  (List.range m).all (fun j => (List.range j).all fun i => !tmpConf ops i j || (row tbl j).contains i)

def disj (a b : List Nat) : Prop := ∀ x ∈ a, ∀ y ∈ b, x ≠ y

def disj3 (x y : List Nat × List Nat) : Prop := disj x.1 y.2 ∧ disj x.2 y.1 ∧ disj x.2 y.2

def confOne (tbl : List (List Nat)) (i : Nat) (x : List Nat × List Nat) : Nat → List (List Nat × List Nat) → Prop
  | _, [] => True
  | j, y :: r => (if (row tbl j).contains i then True else disj3 x y) ∧ confOne tbl i x (j + 1) r

def confP (tbl : List (List Nat)) : Nat → List (List Nat × List Nat) → Prop
  | _, [] => True
  | i, x :: r => confOne tbl i x (i + 1) r ∧ confP tbl (i + 1) r

/-- every two of the first m are ordered, or change no memory, or stand in the list -/
def pairsOk (ops : List Oper) (tbl : List (List Nat)) (prs : List (Nat × Nat)) (m : Nat) : Bool :=
  (List.range m).all fun j => (List.range j).all fun i => (row tbl j).contains i || prs.contains (i, j) ||
    (((ops[i]?).map fun o => kindOf o.op) == some 0 && ((ops[j]?).map fun o => kindOf o.op) == some 0)

def confQ : List (Nat × Nat) → List (List Nat × List Nat) → Prop
  | [], _ => True
  | (i, j) :: r, lg => disj3 (lg.getD i ([], [])) (lg.getD j ([], [])) ∧ confQ r lg

theorem confQ_spec : ∀ {prs : List (Nat × Nat)} {lg : List (List Nat × List Nat)}, confQ prs lg → ∀ i j, (i, j) ∈ prs → disj3 (lg.getD i ([], [])) (lg.getD j ([], []))
  | [], _, _, i, j, hm => by simp at hm
  | (i', j') :: r, lg, h, i, j, hm => by
    simp only [confQ] at h
    rcases List.mem_cons.1 hm with e | hm
    · cases e; exact h.1
    · exact confQ_spec h.2 i j hm

theorem disj3_quiet {x y : List Nat × List Nat} (hx : x.2 = []) (hy : y.2 = []) : disj3 x y := by
  unfold disj3 disj
  rw [hx, hy]
  simp

theorem confOne_spec {tbl : List (List Nat)} {i : Nat} {x : List Nat × List Nat} : ∀ (l : List (List Nat × List Nat)) (s : Nat), confOne tbl i x s l → ∀ q y, l[q]? = some y → i ∈ row tbl (s + q) ∨ disj3 x y
  | [], s, h, q, y, hq => by simp at hq
  | z :: l, s, h, q, y, hq => by
    simp only [confOne] at h
    cases q with
    | zero =>
      simp at hq; subst hq
      have h1 := h.1
      split at h1
      · rename_i hc; exact .inl (by simpa using hc)
      · exact .inr h1
    | succ q =>
      have := confOne_spec l (s + 1) h.2 q y (by simpa using hq)
      rw [show s + 1 + q = s + (q + 1) by omega] at this
      exact this

theorem confP_spec {tbl : List (List Nat)} : ∀ (l : List (List Nat × List Nat)) (s : Nat), confP tbl s l → ∀ i j x y, i < j → l[i]? = some x → l[j]? = some y → s + i ∈ row tbl (s + j) ∨ disj3 x y
  | [], s, h, i, j, x, y, hij, hi, hj => by simp at hi
  | z :: l, s, h, i, j, x, y, hij, hi, hj => by
    simp only [confP] at h
    cases j with
    | zero => omega
    | succ j =>
      cases i with
      | zero =>
        simp at hi; subst hi
        have := confOne_spec l (s + 1) h.1 j y (by simpa using hj)
        rw [show s + 1 + j = s + (j + 1) by omega] at this
        exact this
      | succ i =>
        have := confP_spec l (s + 1) h.2 i j x y (by omega) (by simpa using hi) (by simpa using hj)
        rw [show s + 1 + i = s + (i + 1) by omega, show s + 1 + j = s + (j + 1) by omega] at this
        exact this

def lgOf (ops : List Oper) (κ0 : Nat) (R : Nat → Rec) (k : Nat) : List Nat × List Nat :=
  match ops[k]? with
  | some o => logOf o (κ0 + k) (R k)
  | none => ([], [])

structure Ctx (P : Program) (ops : List Oper) (N κ0 m : Nat) (R : Nat → Rec) (tbl : List (List Nat)) : Prop where
  good : ∀ j, j < m → ∀ o, ops[j]? = some o → Good P ops N (κ0 + j) o (R j) (R (j + 1))
  mle : m ≤ ops.length
  edges : ∀ j, j < ops.length → ∀ e ∈ direct ops j, e < j
  tblOk : ∀ j, j < ops.length → ∀ i ∈ row tbl j, i < j ∧ (i ∈ direct ops j ∨ ∃ k ∈ direct ops j, i ∈ row tbl k)
  tail : ∀ j, m ≤ j → j < ops.length → ∀ i, i < j → i ∈ row tbl j
  tmp : ∀ i j, i < j → j < m → tmpConf ops i j = true → i ∈ row tbl j
  mem : ∀ i j, i < j → j < m → i ∈ row tbl j ∨ disj3 (lgOf ops κ0 R i) (lgOf ops κ0 R j)
  dl : ∀ o ∈ ops, dstLt o.dst N
  h0 : ((R 0).H.map Prod.fst).Nodup
  h1 : ∀ n ∈ (R 0).H.map Prod.fst, n < κ0

section
variable {P : Program} {ops : List Oper} {N κ0 m : Nat} {R : Nat → Rec} {tbl : List (List Nat)}

theorem Ctx.op (C : Ctx P ops N κ0 m R tbl) {j : Nat} (h : j < m) : ∃ o, ops[j]? = some o := ⟨_, List.getElem?_eq_getElem (Nat.lt_of_lt_of_le h C.mle)⟩

/-- names of the heap in the order of the text -/
theorem Ctx.names (C : Ctx P ops N κ0 m R tbl) : ∀ j, j ≤ m → ((R j).H.map Prod.fst).Nodup ∧ ∀ n ∈ (R j).H.map Prod.fst, n < κ0 + j
  | 0, _ => ⟨C.h0, C.h1⟩
  | j + 1, h => by
    obtain ⟨i1, i2⟩ := C.names j (by omega)
    obtain ⟨o, ho⟩ := C.op (show j < m by omega)
    have G := C.good j (by omega) o ho
    cases hr : (R j).ran with
    | false =>
      rw [(G.no hr).2]
      exact ⟨i1, fun n hn => by have := i2 n hn; omega⟩
    | true =>
      obtain ⟨_, hs, hH⟩ := G.yes hr
      rw [hH]
      unfold nextH
      unfold stepOk at hs
      split
      · exact ⟨i1, fun n hn => by have := i2 n hn; omega⟩
      · rename_i hk
        rw [hk] at hs
        simp only at hs
        cases hhs : (R j).hs with
        | nil => simp only; exact ⟨i1, fun n hn => by have := i2 n hn; omega⟩
        | cons e r =>
          obtain ⟨n0, b0⟩ := e
          rw [hhs] at hs
          simp only at hs
          simp only [List.map_cons, List.nodup_cons, List.mem_cons]
          refine ⟨⟨fun hc => by have := i2 _ hc; omega, i1⟩, fun n hn => ?_⟩
          rcases hn with rfl | hn
          · omega
          · have := i2 n hn; omega
      · rename_i hk1 hk2
        have hs' : ((R j).hs.map Prod.fst).Nodup ∧ ∀ n ∈ (R j).hs.map Prod.fst, n = κ0 + j ∨ n ∈ (pickH (opNames (R j).t o.op) (R j).H).map Prod.fst := by
          split at hs
          · rename_i e; exact absurd e hk1
          · rename_i e; exact absurd e hk2
          · exact hs
        obtain ⟨s1, s2⟩ := hs'
        have hpk : ∀ n ∈ (pickH (opNames (R j).t o.op) (R j).H).map Prod.fst, n ∈ opNames (R j).t o.op ∧ n ∈ (R j).H.map Prod.fst := by
          intro n hn
          obtain ⟨p, hp, rfl⟩ := List.mem_map.1 hn
          have := List.mem_filter.1 hp
          exact ⟨by simpa using this.2, List.mem_map.2 ⟨p, this.1, rfl⟩⟩
        have hrs : ∀ n ∈ (restH (opNames (R j).t o.op) (R j).H).map Prod.fst, n ∉ opNames (R j).t o.op ∧ n ∈ (R j).H.map Prod.fst := by
          intro n hn
          obtain ⟨p, hp, rfl⟩ := List.mem_map.1 hn
          have := List.mem_filter.1 hp
          exact ⟨by simpa using this.2, List.mem_map.2 ⟨p, this.1, rfl⟩⟩
        simp only [List.map_append]
        rw [List.nodup_append]
        refine ⟨⟨s1, names_rest _ _ i1, ?_⟩, ?_⟩
        · rintro x hx y hy rfl
          rcases s2 x hx with h | h
          · have := i2 x (hrs x hy).2; omega
          · exact (hrs x hy).1 (hpk x h).1
        · intro n hn
          rcases List.mem_append.1 hn with hn | hn
          · rcases s2 n hn with h | h
            · omega
            · have := i2 n (hpk n h).2; omega
          · have := i2 n (hrs n hn).2; omega

/-- what an operation doesn't write stays -/
theorem Ctx.stepT (C : Ctx P ops N κ0 m R tbl) {k x : Nat} (hk : k < m) (h : dstOf ops k ≠ some x) : get (R (k + 1)).t x = get (R k).t x := by
  obtain ⟨o, ho⟩ := C.op hk
  have G := C.good k hk o ho
  rw [G.t']
  unfold dstOf at h
  rw [ho] at h
  simp only [Option.bind_some] at h
  cases hd : o.dst with
  | none => rfl
  | some d =>
    rw [hd] at h
    simp only [setT, get]
    rw [if_neg (fun e => h (by rw [e]))]

theorem Ctx.stepH (C : Ctx P ops N κ0 m R tbl) {k β : Nat} (hk : k < m) (h : β ∉ (lgOf ops κ0 R k).2) : look β (R (k + 1)).H = look β (R k).H := by
  obtain ⟨o, ho⟩ := C.op hk
  have G := C.good k hk o ho
  unfold lgOf at h
  rw [ho] at h
  simp only [logOf] at h
  cases hr : (R k).ran with
  | false => rw [(G.no hr).2]
  | true =>
    rw [hr] at h
    simp only [if_true] at h
    obtain ⟨_, hs, hH⟩ := G.yes hr
    rw [hH]
    unfold nextH
    unfold stepOk at hs
    unfold writes at h
    split
    · rfl
    · rename_i hk1
      rw [hk1] at hs h
      simp only [List.mem_singleton] at hs h
      cases hhs : (R k).hs with
      | nil => rfl
      | cons e r =>
        obtain ⟨n0, b0⟩ := e
        rw [hhs] at hs
        simp only at hs ⊢
        simp only [look]
        rw [if_neg (fun e => h (e.trans hs.1))]
    · rename_i hk1 hk2
      have hs' : ((R k).hs.map Prod.fst).Nodup ∧ ∀ n ∈ (R k).hs.map Prod.fst, n = κ0 + k ∨ n ∈ (pickH (opNames (R k).t o.op) (R k).H).map Prod.fst := by
        split at hs
        · rename_i e; exact absurd e hk1
        · rename_i e; exact absurd e hk2
        · exact hs
      have h' : β ≠ κ0 + k ∧ β ∉ opNames (R k).t o.op := by
        split at h
        · rename_i e; exact absurd e hk1
        · rename_i e; exact absurd e hk2
        · simpa using h
      rw [look_append, look_rest, if_neg h'.2]
      have : look β (R k).hs = none := look_none.2 fun hm => by
        rcases hs'.2 β hm with e | e
        · exact h'.1 e
        · obtain ⟨p, hp, rfl⟩ := List.mem_map.1 e
          exact h'.2 (by simpa using (List.mem_filter.1 hp).2)
      rw [this]; rfl

theorem Ctx.runT (C : Ctx P ops N κ0 m R tbl) {x q : Nat} : ∀ i, q ≤ i → i ≤ m → (∀ k, q ≤ k → k < i → dstOf ops k ≠ some x) → get (R i).t x = get (R q).t x
  | 0, h, _, _ => by have : q = 0 := by omega
                     subst this; rfl
  | i + 1, h, hi, hd => by
    by_cases e : q = i + 1
    · subst e; rfl
    · rw [C.stepT (by omega) (hd i (by omega) (by omega))]
      exact C.runT i (by omega) (by omega) fun k h1 h2 => hd k h1 (by omega)

theorem Ctx.runH (C : Ctx P ops N κ0 m R tbl) {x q : Nat} : ∀ i, q ≤ i → i ≤ m → (∀ k, q ≤ k → k < i → x ∉ (lgOf ops κ0 R k).2) → look x (R i).H = look x (R q).H
  | 0, h, _, _ => by have : q = 0 := by omega
                     subst this; rfl
  | i + 1, h, hi, hd => by
    by_cases e : q = i + 1
    · subst e; rfl
    · rw [C.stepH (by omega) (hd i (by omega) (by omega))]
      exact C.runH i (by omega) (by omega) fun k h1 h2 => hd k h1 (by omega)

/-- what is listed is closed backwards -/
def Down (ops : List Oper) (L : Nat → Bool) : Prop := ∀ j, L j = true → ∀ e ∈ direct ops j, L e = true

theorem Ctx.before (C : Ctx P ops N κ0 m R tbl) {L : Nat → Bool} (hL : Down ops L) : ∀ j, j < ops.length → (∀ e ∈ direct ops j, L e = true) → ∀ i ∈ row tbl j, L i = true := by
  intro j
  induction j using Nat.strongRecOn with
  | _ j ih =>
    intro hj hd i hi
    rcases (C.tblOk j hj i hi).2 with h | ⟨k, hk, h⟩
    · exact hd i h
    · have hlt := C.edges j hj k hk
      exact ih k hlt (by omega) (hL k (hd k hk)) i h

def pT (ops : List Oper) (L : Nat → Bool) (x k : Nat) : Bool := L k && dstOf ops k == some x
def pH (ops : List Oper) (κ0 : Nat) (R : Nat → Rec) (L : Nat → Bool) (β k : Nat) : Bool := L k && decide (β ∈ (lgOf ops κ0 R k).2)

theorem Ctx.agreeT (C : Ctx P ops N κ0 m R tbl) {L : Nat → Bool} {i x : Nat} (hi : i < m) (hLi : L i = false) (h : ∀ k, k < m → k ≠ i → dstOf ops k = some x → (k < i → L k = true) ∧ (i < k → L k = false)) :
    get (R (last (pT ops L x) m)).t x = get (R i).t x := by
  have e1 : last (pT ops L x) m = last (pT ops L x) i := last_skip m (by omega) fun k h1 h2 => by
    unfold pT
    by_cases e : k = i
    · subst e; simp [hLi]
    · by_cases hd : dstOf ops k = some x
      · simp [(h k h2 e hd).2 (by omega)]
      · simp [hd]
  have e2 : last (pT ops L x) i = last (fun k => dstOf ops k == some x) i := last_congr i fun k hk => by
    unfold pT
    by_cases hd : dstOf ops k = some x
    · simp [(h k (by omega) (by omega) hd).1 hk]
    · simp [hd]
  rw [e1, e2]
  exact (C.runT i (last_le _ _) (by omega) fun k h1 h2 => by
    have := last_none _ i k h1 h2
    simpa using this).symm

theorem Ctx.agreeH (C : Ctx P ops N κ0 m R tbl) {L : Nat → Bool} {i β : Nat} (hi : i < m) (hLi : L i = false) (h : ∀ k, k < m → k ≠ i → β ∈ (lgOf ops κ0 R k).2 → (k < i → L k = true) ∧ (i < k → L k = false)) :
    look β (R (last (pH ops κ0 R L β) m)).H = look β (R i).H := by
  have e1 : last (pH ops κ0 R L β) m = last (pH ops κ0 R L β) i := last_skip m (by omega) fun k h1 h2 => by
    unfold pH
    by_cases e : k = i
    · subst e; simp [hLi]
    · by_cases hd : β ∈ (lgOf ops κ0 R k).2
      · simp [(h k h2 e hd).2 (by omega)]
      · simp [hd]
  have e2 : last (pH ops κ0 R L β) i = last (fun k => decide (β ∈ (lgOf ops κ0 R k).2)) i := last_congr i fun k hk => by
    unfold pH
    by_cases hd : β ∈ (lgOf ops κ0 R k).2
    · simp [(h k (by omega) (by omega) hd).1 hk, hd]
    · simp [hd]
  rw [e1, e2]
  exact (C.runH i (last_le _ _) (by omega) fun k h1 h2 => by
    have := last_none _ i k h1 h2
    simpa using this).symm

/-! ## the invariant -/

structure Inv (ops : List Oper) (N κ0 m : Nat) (R : Nat → Rec) (F : Nat → Prop) (ι0 : Names) (H0 : Heap) (w0 : World) (L : Nat → Bool) (ι : Names) (HD : Heap) (a : Act) (w : World) : Prop where
  down : Down ops L
  only : ∀ j, L j = true → j < m
  defers : a.defers = []
  size : a.tmps.size = N
  tm : ∀ x, VRel ι (Own F ι HD) w (get (R (last (pT ops L x) m)).t x) (a.tmps.getD x undef)
  rep : Rep F ι HD w
  lk : ∀ β, look β HD = look β (R (last (pH ops κ0 R L β) m)).H
  fq : ∀ i, i < m → L i = false → ι (κ0 + i) = none
  fr : ∀ n, κ0 + m ≤ n → ι n = none
  kept : Kept ι0 H0 w0 ι HD w
  same : ∀ n, n < κ0 → ι n = ι0 n
  dom : ∀ n ∈ HD.map Prod.fst, n ∈ H0.map Prod.fst ∨ κ0 ≤ n

def addL (L : Nat → Bool) (i : Nat) : Nat → Bool := fun k => if k = i then true else L k

theorem tmpConf_read {i k x : Nat} (hr : x ∈ readsOf ops i) (hd : dstOf ops k = some x) : tmpConf ops k i = true ∧ tmpConf ops i k = true := by
  unfold tmpConf
  rw [hd]
  constructor
  · simp [hr]
  · simp [hr]

theorem tmpConf_dst {i k x : Nat} (hi : dstOf ops i = some x) (hd : dstOf ops k = some x) : tmpConf ops k i = true ∧ tmpConf ops i k = true := by
  unfold tmpConf
  rw [hd, hi]
  simp

variable {F : Nat → Prop} {ι0 ι : Names} {H0 HD : Heap} {w0 w : World} {L : Nat → Bool} {a : Act} {Q : Exit → Act → World → Prop}

theorem Inv.step (C : Ctx P ops N κ0 m R tbl) (I : Inv ops N κ0 m R F ι0 H0 w0 L ι HD a w) {i : Nat} (hi : i < m) (hLi : L i = false) (hd : ∀ e ∈ direct ops i, L e = true) {o : Oper} (ho : ops[i]? = some o)
    (next : Act → World → Prop) (hn : ∀ ι' HD' a' w', Inv ops N κ0 m R F ι0 H0 w0 (addL L i) ι' HD' a' w' → next a' w') :
    if Region.wanted o (yielded ops.toArray a.tmps) then o.wp P a w next Q else next (a.put o.dst undef) w := by
  have G := C.good i hi o ho
  have hin : i < ops.length := Nat.lt_of_lt_of_le hi C.mle
  have bef : ∀ k ∈ row tbl i, L k = true := C.before I.down i hin hd
  have aft : ∀ k, k < m → i ∈ row tbl k → L k = false := fun k hk h => by
    cases hL : L k with
    | false => rfl
    | true =>
      have := C.before I.down k (Nat.lt_of_lt_of_le hk C.mle) (I.down k hL) i h
      rw [hLi] at this; cases this
  have aT : ∀ x, (∀ k, k < m → k ≠ i → dstOf ops k = some x → tmpConf ops k i = true ∧ tmpConf ops i k = true) → get (R (last (pT ops L x) m)).t x = get (R i).t x := fun x h =>
    C.agreeT hi hLi fun k hk hne hdk => ⟨fun hlt => bef k (C.tmp k i hlt hi (h k hk hne hdk).1), fun hlt => aft k hk (C.tmp i k hlt hk (h k hk hne hdk).2)⟩
  have aTr : ∀ x ∈ readsOf ops i, get (R (last (pT ops L x) m)).t x = get (R i).t x := fun x hx => aT x fun k _ _ hdk => tmpConf_read hx hdk
  have aH : ∀ β, β ∈ (lgOf ops κ0 R i).1 ∨ β ∈ (lgOf ops κ0 R i).2 → ∀ k, k < m → k ≠ i → β ∈ (lgOf ops κ0 R k).2 → (k < i → L k = true) ∧ (i < k → L k = false) := by
    intro β hβ k hk hne hw
    constructor
    · intro hlt
      rcases C.mem k i hlt hi with h | ⟨_, h2, h3⟩
      · exact bef k h
      · rcases hβ with hβ | hβ
        · exact absurd rfl (h2 β hw β hβ)
        · exact absurd rfl (h3 β hw β hβ)
    · intro hlt
      rcases C.mem i k hlt hk with h | ⟨h1, _, h3⟩
      · exact aft k hk h
      · rcases hβ with hβ | hβ
        · exact absurd rfl (h1 β hβ β hw)
        · exact absurd rfl (h3 β hβ β hw)
  have hdst : dstLt o.dst N := C.dl o (List.mem_of_getElem? ho)
  have hdo : dstOf ops i = o.dst := by unfold dstOf; rw [ho]; rfl
  have hro : readsOf ops i = opTmps o.op ++ (match o.guard with | some (g, _) => (dstOf ops g).toList | none => []) := by unfold readsOf; rw [ho]
  -- does it run?
  have hw : Region.wanted o (yielded ops.toArray a.tmps) = (R i).ran := by
    have hg := G.guard
    unfold gw at hg
    unfold Region.wanted
    cases hgd : o.guard with
    | none => rw [hgd] at hg; simpa using hg
    | some p =>
      obtain ⟨j, want⟩ := p
      rw [hgd] at hg
      simp only at hg ⊢
      cases hj : (ops[j]?).bind (·.dst) with
      | none => rw [hj] at hg; cases hg
      | some d =>
        rw [hj] at hg
        simp only at hg
        have hrd : d ∈ readsOf ops i := by rw [hro, hgd]; simp [dstOf, hj]
        have hdN : d < a.tmps.size := by
          obtain ⟨oj, hoj, hdj⟩ := Option.bind_eq_some_iff.1 hj
          have := C.dl oj (List.mem_of_getElem? hoj)
          rw [hdj] at this; rw [I.size]; exact this
        have htm := I.tm d
        rw [aTr d hrd] at htm
        have he : a.tmps.getD d undef = a.tmps[d] := by simp [Array.getD, hdN]
        rw [he] at htm
        have hyd : yielded ops.toArray a.tmps j = match a.tmps[d] with | .bool b => some b | _ => none := by
          unfold yielded
          have : ((ops.toArray[j]?).bind (·.dst)) = some d := by simpa using hj
          rw [this]
          simp only [Option.bind_some, Array.getElem?_eq_getElem hdN]
          generalize a.tmps[d] = z
          cases z <;> rfl
        split at hg
        · rename_i b hb
          rw [hb] at htm
          rw [hyd, htm.inv_bool]
          simp only [Option.some.injEq] at hg
          rw [← hg]
          cases b <;> cases want <;> rfl
        · rename_i hb
          rw [hb] at htm
          generalize a.tmps[d] = x at htm hyd
          cases htm with
          | tup h =>
            cases h
            rw [hyd]
            simp only [Option.some.injEq] at hg
            rw [← hg]; rfl
        · cases hg
  rw [hw]
  have lgi : lgOf ops κ0 R i = logOf o (κ0 + i) (R i) := by unfold lgOf; rw [ho]
  have pTother : ∀ x, o.dst ≠ some x → last (pT ops (addL L i) x) m = last (pT ops L x) m := fun x hx => last_congr m fun k hk => by
    unfold pT addL
    by_cases e : k = i
    · subst e; rw [hdo]; simp [hx, hLi]
    · simp [e]
  have pTdst : ∀ x, o.dst = some x → last (pT ops (addL L i) x) m = i + 1 := fun x hx => by
    refine last_at hi ?_ ?_
    · unfold pT addL; rw [hdo]; simp [hx]
    · intro k h1 h2
      unfold pT addL
      by_cases hdk : dstOf ops k = some x
      · have := aft k h2 (C.tmp i k h1 h2 (tmpConf_dst (hdo.trans hx) hdk).2)
        simp [show k ≠ i by omega, this]
      · simp [hdk]
  have hdown : Down ops (addL L i) := fun j hj e he => by
    unfold addL at hj ⊢
    split
    · rfl
    · by_cases hji : j = i
      · subst hji; exact hd e he
      · rw [if_neg hji] at hj; exact I.down j hj e he
  have honly : ∀ j, addL L i j = true → j < m := fun j hj => by
    unfold addL at hj
    split at hj
    · omega
    · exact I.only j hj
  have hputsize : ∀ v, (a.put o.dst v).tmps.size = N := fun v => by
    cases hd' : o.dst with
    | none => simpa [Act.put] using I.size
    | some d => simpa [Act.put] using I.size
  have hputdef : ∀ v, (a.put o.dst v).defers = [] := fun v => by
    cases hd' : o.dst <;> simpa [Act.put] using I.defers
  have hputget : ∀ v x, (a.put o.dst v).tmps.getD x undef = if o.dst = some x then v else a.tmps.getD x undef := fun v x => by
    cases hd' : o.dst with
    | none => simp [Act.put]
    | some d =>
      rw [hd'] at hdst
      simp only [Act.put]
      rw [getD_setIfInBounds _ _ _ _ (by rw [I.size]; exact hdst)]
      by_cases e : x = d
      · subst e; simp
      · rw [if_neg e, if_neg (by simp; exact fun h => e h.symm)]
  have htnew : ∀ x, o.dst = some x → get (R (i + 1)).t x = (R i).v := fun x hx => by
    rw [G.t', hx]; simp [setT, get]
  cases hr : (R i).ran with
  | false =>
    simp only [Bool.false_eq_true, if_false]
    obtain ⟨hv, hH⟩ := G.no hr
    have hlg : lgOf ops κ0 R i = ([], []) := by rw [lgi]; simp [logOf, hr]
    refine hn ι HD _ w ⟨hdown, honly, hputdef _, hputsize _, fun x => ?_, I.rep, fun β => ?_, fun j hj hL => ?_, I.fr, I.kept, I.same, I.dom⟩
    · rw [hputget]
      by_cases hx : o.dst = some x
      · rw [if_pos hx, pTdst x hx, htnew x hx, hv]; exact .tup .nil
      · rw [if_neg hx, pTother x hx]; exact I.tm x
    · rw [I.lk β]
      congr 2
      exact congrArg R (last_congr m fun k hk => by
        unfold pH addL
        by_cases e : k = i
        · subst e; rw [hlg]; simp
        · simp [e])
    · unfold addL at hL
      split at hL
      · cases hL
      · exact I.fq j hj hL
  | true =>
    simp only [if_true]
    obtain ⟨hop, hst, hH⟩ := G.yes hr
    have hlg : lgOf ops κ0 R i = (opNames (R i).t o.op, writes (kindOf o.op) (κ0 + i) (opNames (R i).t o.op)) := by rw [lgi]; simp [logOf, hr]
    generalize hns : opNames (R i).t o.op = ns at *
    have hcn := C.names i (by omega)
    have hlook : ∀ β ∈ ns, look β HD = look β (R i).H := fun β hβ => by
      rw [I.lk β]
      exact C.agreeH hi hLi (aH β (.inl (by rw [hlg]; exact hβ)))
    have hperm : (pickH ns HD).Perm (pickH ns (R i).H) := perm_of_look (names_pick _ _ I.rep.names) (names_pick _ _ hcn.1) fun n => by
      rw [look_pick, look_pick]
      by_cases h : n ∈ ns
      · rw [if_pos h, if_pos h, hlook n h]
      · rw [if_neg h, if_neg h]
    have hpr : HD.Perm (pickH ns (R i).H ++ restH ns HD) := (pick_rest ns HD).trans (List.Perm.append hperm (.refl _))
    have R2 := I.rep.perm hpr
    have hownD : Own F ι HD = Own (Fr F ι (restH ns HD)) ι (pickH ns (R i).H) := by
      rw [← own_split_eq]; exact funext fun b => propext ⟨fun h => h.imp id (OwnH.perm hpr b).1, fun h => h.imp id (OwnH.perm hpr b).2⟩
    have hκ : ι (κ0 + i) = none := I.fq i hi hLi
    have hh : Holds (· = κ0 + i) (Fr F ι (restH ns HD)) ι ⟨N, rtT (R i).t o.op, pickH ns (R i).H, κ0 + i⟩ a w := by
      refine ⟨I.defers, I.size, fun x => ?_, R2.lend, fun n hn _ => by subst hn; exact hκ⟩
      simp only [get_rtT]
      rw [← hownD]
      by_cases hx : x ∈ opTmps o.op
      · rw [if_pos hx, ← aTr x (by rw [hro]; exact List.mem_append.2 (.inl hx))]
        exact I.tm x
      · rw [if_neg hx]; exact .any _
    refine hop N (Fr F ι (restH ns HD)) ι a w hh next Q ?_
    rintro ι' v cv H' k' w' ⟨rfl, rfl⟩ hO
    have hO1 := Out.frame R2 (fun n hn _ => by subst hn; exact hκ) hO
    have hO2 := Out.perm_in hpr hO1
    have hS := hO2.ext.kept.stays (F := F)
    have hnotκ : look (κ0 + i) HD = none := look_none.2 (I.rep.fresh_names hκ)
    have hnotκ' : look (κ0 + i) (R i).H = none := look_none.2 fun h => by have := hcn.2 _ h; omega
    have hlk : ∀ β, look β ((R i).hs ++ restH ns HD) = if β ∈ writes (kindOf o.op) (κ0 + i) ns then look β (R (i + 1)).H else look β HD := by
      intro β
      have pick0 : (look β (pickH ns (R i).H)).or (if β ∈ ns then none else look β HD) = look β HD := by
        rw [look_pick]
        by_cases h : β ∈ ns
        · rw [if_pos h, if_pos h, hlook β h]; cases look β (R i).H <;> rfl
        · rw [if_neg h, if_neg h]; rfl
      rw [look_append, look_rest, hH]
      have h012 : kindOf o.op = 0 ∨ kindOf o.op = 1 ∨ ∃ q, kindOf o.op = q + 2 := by
        cases h : kindOf o.op with
        | zero => exact .inl rfl
        | succ k => cases k with
          | zero => exact .inr (.inl rfl)
          | succ k => exact .inr (.inr ⟨k, rfl⟩)
      rcases h012 with hk | hk | ⟨q, hk⟩
      · rw [hk] at hst ⊢
        simp only [stepOk] at hst
        simp only [writes, nextH, List.not_mem_nil, if_false]
        rw [hst]; exact pick0
      · rw [hk] at hst ⊢
        simp only [stepOk] at hst
        simp only [writes, nextH, List.mem_singleton]
        cases hhs : (R i).hs with
        | nil => rw [hhs] at hst; exact hst.elim
        | cons e r =>
          obtain ⟨n0, b0⟩ := e
          rw [hhs] at hst
          simp only at hst
          obtain ⟨rfl, rfl⟩ := hst
          simp only [look]
          by_cases e : β = κ0 + i
          · simp [e]
          · simp only [e, if_false]; exact pick0
      · rw [hk] at hst ⊢
        simp only [stepOk] at hst
        simp only [writes, nextH, List.mem_cons]
        by_cases e : β = κ0 + i ∨ β ∈ ns
        · rw [if_pos e, look_append, look_rest]
          by_cases h : β ∈ ns
          · rw [if_pos h, if_pos h]
          · rw [if_neg h, if_neg h]
            have : β = κ0 + i := e.resolve_right h
            rw [this, hnotκ, hnotκ']
        · rw [if_neg e]
          have h2 : β ∉ ns := fun h => e (.inr h)
          have : look β (R i).hs = none := look_none.2 fun hm => by
            rcases hst.2 β hm with h | h
            · exact e (.inl h)
            · obtain ⟨p, hp, rfl⟩ := List.mem_map.1 h
              exact h2 (by simpa using (List.mem_filter.1 hp).2)
          rw [this, if_neg h2]; rfl
    have hsame : ∀ n, n ≠ κ0 + i → ι' n = ι n := fun n hne => hO2.ext.same n fun e => absurd e hne
    refine hn ι' ((R i).hs ++ restH ns HD) _ w' ⟨hdown, honly, hputdef _, hputsize _, fun x => ?_, hO2.rep, fun β => ?_, fun j hj hL => ?_, fun n hn' => ?_, I.kept.trans hO2.ext.kept, fun n hn' => ?_, fun n hn' => ?_⟩
    · rw [hputget]
      by_cases hx : o.dst = some x
      · rw [if_pos hx, pTdst x hx, htnew x hx]; exact hO2.val
      · rw [if_neg hx, pTother x hx]; exact (I.tm x).stays hS
    · rw [hlk β]
      by_cases hβ : β ∈ writes (kindOf o.op) (κ0 + i) ns
      · rw [if_pos hβ]
        have : last (pH ops κ0 R (addL L i) β) m = i + 1 := by
          refine last_at hi ?_ ?_
          · unfold pH addL; rw [hlg]; simp [hβ]
          · intro k h1 h2
            unfold pH addL
            by_cases hk : β ∈ (lgOf ops κ0 R k).2
            · have := (aH β (.inr (by rw [hlg]; exact hβ)) k h2 (by omega) hk).2 h1
              simp [show k ≠ i by omega, this]
            · simp [hk]
        rw [this]
      · rw [if_neg hβ, I.lk β]
        congr 2
        exact congrArg R (last_congr m fun k hk => by
          unfold pH addL
          by_cases e : k = i
          · subst e; rw [hlg]; simp [hβ]
          · simp [e])
    · unfold addL at hL
      split at hL
      · cases hL
      · rename_i hne
        rw [hsame _ (by omega)]; exact I.fq j hj hL
    · rw [hsame n (by omega)]; exact I.fr n hn'
    · rw [hsame n (by omega)]; exact I.same n hn'
    · rcases hO2.ext.dom n hn' with h | h
      · exact I.dom n h
      · exact .inr (by have := h.1; omega)

end
end Go.Sl
