/- How the owned heap changes: a new block, a block written, a block that moves, a block given up; a part of the heap lent to a call. -/
import Derived.Test.YtokdphmnlcmbbaaSl1
set_option linter.unusedVariables false
set_option linter.unusedSimpArgs false
namespace Go.Sl

def look (n : Nat) : Heap → Option B
  | [] => none
  | (m, b) :: r => if n = m then some b else look n r

def put (n : Nat) (b : B) : Heap → Heap
  | [] => []
  | (m, c) :: r => if n = m then (m, b) :: r else (m, c) :: put n b r

def del (n : Nat) : Heap → Heap
  | [] => []
  | (m, c) :: r => if n = m then r else (m, c) :: del n r

def upd (ι : Names) (k : Nat) (l : Loc) : Names := fun n => if n = k then some l else ι n

theorem upd_same (ι : Names) (k : Nat) (l : Loc) : upd ι k l k = some l := by simp [upd]
theorem upd_other (ι : Names) (k n : Nat) (l : Loc) (h : n ≠ k) : upd ι k l n = ι n := by simp [upd, h]
theorem upd_le {ι : Names} {k : Nat} (l : Loc) (h : ι k = none) (n : Nat) (l' : Loc) (hn : ι n = some l') : upd ι k l n = some l' := by
  unfold upd; split
  · subst_vars; rw [h] at hn; cases hn
  · exact hn

theorem look_mem {n : Nat} {b : B} : ∀ {H : Heap}, look n H = some b → (n, b) ∈ H
  | [], h => by simp [look] at h
  | (m, c) :: r, h => by
    simp only [look] at h
    split at h
    · subst_vars; simp at h; subst h; exact .head _
    · exact .tail _ (look_mem h)

theorem look_of_mem {n : Nat} {b : B} : ∀ {H : Heap}, (H.map Prod.fst).Nodup → (n, b) ∈ H → look n H = some b
  | (m, c) :: r, hd, h => by
    simp only [List.map_cons, List.nodup_cons] at hd
    simp only [look]
    cases h with
    | head => simp
    | tail _ h =>
      rw [if_neg, look_of_mem hd.2 h]
      intro e; subst e; exact hd.1 (List.mem_map.2 ⟨(n, b), h, rfl⟩)

theorem names_put (n : Nat) (b : B) : ∀ H : Heap, (put n b H).map Prod.fst = H.map Prod.fst
  | [] => rfl
  | (m, c) :: r => by simp only [put]; split <;> simp [names_put n b r]

theorem mem_put {n m : Nat} {b c : B} : ∀ {H : Heap}, (H.map Prod.fst).Nodup → (m, c) ∈ put n b H → (m = n ∧ c = b) ∨ (m ≠ n ∧ (m, c) ∈ H)
  | (p, d) :: r, hd, h => by
    simp only [List.map_cons, List.nodup_cons] at hd
    simp only [put] at h
    split at h
    · subst_vars
      cases h with
      | head => exact .inl ⟨rfl, rfl⟩
      | tail _ h => exact .inr ⟨fun e => hd.1 (e ▸ List.mem_map.2 ⟨(m, c), h, rfl⟩), .tail _ h⟩
    · rename_i hne
      cases h with
      | head => exact .inr ⟨fun e => hne e.symm, .head _⟩
      | tail _ h => exact (mem_put hd.2 h).imp id fun h => ⟨h.1, .tail _ h.2⟩

theorem mem_put_self {n : Nat} {b c : B} : ∀ {H : Heap}, (n, c) ∈ H → (n, b) ∈ put n b H
  | (p, d) :: r, h => by
    simp only [put]
    split
    · subst_vars; exact .head _
    · rename_i hne
      cases h with
      | head => exact absurd rfl hne
      | tail _ h => exact .tail _ (mem_put_self h)

theorem mem_del {n m : Nat} {c : B} : ∀ {H : Heap}, (H.map Prod.fst).Nodup → (m, c) ∈ del n H → m ≠ n ∧ (m, c) ∈ H
  | (p, d) :: r, hd, h => by
    simp only [List.map_cons, List.nodup_cons] at hd
    simp only [del] at h
    split at h
    · subst_vars; exact ⟨fun e => hd.1 (e ▸ List.mem_map.2 ⟨(m, c), h, rfl⟩), .tail _ h⟩
    · rename_i hne
      cases h with
      | head => exact ⟨fun e => hne e.symm, .head _⟩
      | tail _ h => exact ⟨(mem_del hd.2 h).1, .tail _ (mem_del hd.2 h).2⟩

theorem names_del_sub (n : Nat) : ∀ H : Heap, ((del n H).map Prod.fst).Sublist (H.map Prod.fst)
  | [] => .refl _
  | (m, c) :: r => by
    simp only [del]; split
    · exact .cons _ (.refl _)
    · exact .cons_cons _ (names_del_sub n r)

section
variable {F : Nat → Prop} {ι ι' : Names} {H H' : Heap} {w w' : World} {O O' : Nat → Prop}

theorem BRel.stays {l : Loc} {b : B} (S : Stays ι O w ι' O' w') (hh : l.ghost = false → w'.heap[l.b]? = w.heap[l.b]?) (h : BRel ι O w l b) : BRel ι' O' w' l b := by
  cases b with
  | rows sz es =>
    obtain ⟨h1, h2, h3, h4⟩ := h
    refine ⟨h1, h2, h3, ?_⟩
    rcases h4 with h4 | ⟨hg, c, e, hw, hc, ho, hv⟩
    · exact .inl h4
    · exact .inr ⟨hg, c, e, (hh hg).trans hw, hc, ho, VRels.stays S hv⟩
  | map es =>
    obtain ⟨h1, h2, mes, clock, hw, hk, hv, hb, hn⟩ := h
    exact ⟨h1, h2, mes, clock, (hh h1).trans hw, hk, VRels.stays S hv, hb, hn⟩

/-- one name changes -/
theorem Rep.change (R : Rep F ι H w) (K : Kept ι H w ι' H' w') (hn : (H'.map Prod.fst).Nodup) (x : Nat)
    (h1 : ∀ m C, (m, C) ∈ H' → m ≠ x → (m, C) ∈ H)
    (h2 : ∀ m C l, (m, C) ∈ H' → m ≠ x → ι m = some l → l.ghost = false → w'.heap[l.b]? = w.heap[l.b]?)
    (h3 : ∀ C, (x, C) ∈ H' → ∃ l, ι' x = some l ∧ BRel ι' (Own F ι' H') w' l C ∧
      (l.ghost = false → l.b < w'.heap.size ∧ ¬ F l.b ∧ ∀ m C lm, (m, C) ∈ H' → m ≠ x → ι m = some lm → lm.ghost = false → lm.b ≠ l.b)) :
    Rep F ι' H' w' := by
  refine ⟨fun b hb => Nat.lt_of_lt_of_le (R.frame b hb) K.size, hn, ?_, ?_⟩
  · intro n C hC
    by_cases hx : n = x
    · subst hx
      obtain ⟨l, hl, hB, hg⟩ := h3 C hC
      exact ⟨l, hl, hB, fun hgh => ⟨(hg hgh).1, (hg hgh).2.1⟩⟩
    · obtain ⟨l, hl, hB, hg⟩ := R.own n C (h1 n C hC hx)
      refine ⟨l, K.le _ _ hl, BRel.stays K.stays (h2 n C l hC hx hl) hB, fun hgh => ⟨Nat.lt_of_lt_of_le (hg hgh).1 K.size, (hg hgh).2⟩⟩
  · intro n C m D l l' hC hD hne hl hl' hg hg'
    by_cases hx : n = x
    · subst hx
      obtain ⟨l0, hl0, _, h⟩ := h3 C hC
      rw [hl] at hl0; cases hl0
      obtain ⟨lm, hlm, _, _⟩ := R.own m D (h1 m D hD (Ne.symm hne))
      have := K.le _ _ hlm
      rw [hl'] at this; cases this
      exact Ne.symm ((h hg).2.2 m D _ hD (Ne.symm hne) hlm hg')
    · by_cases hy : m = x
      · subst hy
        obtain ⟨l0, hl0, _, h⟩ := h3 D hD
        rw [hl'] at hl0; cases hl0
        obtain ⟨lm, hlm, _, _⟩ := R.own n C (h1 n C hC hne)
        have := K.le _ _ hlm
        rw [hl] at this; cases this
        exact (h hg').2.2 n C _ hC hne hlm hg
      · obtain ⟨la, hla, _, _⟩ := R.own n C (h1 n C hC hx)
        obtain ⟨lb, hlb, _, _⟩ := R.own m D (h1 m D hD hy)
        have e1 := K.le _ _ hla
        have e2 := K.le _ _ hlb
        rw [hl] at e1; cases e1
        rw [hl'] at e2; cases e2
        exact R.apart n C m D _ _ (h1 n C hC hx) (h1 m D hD hy) hne hla hlb hg hg'

theorem Rep.known (R : Rep F ι H w) {n : Nat} {b : B} (h : look n H = some b) : ∃ l, ι n = some l ∧ BRel ι (Own F ι H) w l b ∧ (l.ghost = false → l.b < w.heap.size ∧ ¬ F l.b) :=
  R.own n b (look_mem h)

theorem Rep.fresh_not (R : Rep F ι H w) {k : Nat} (hk : ι k = none) (b : B) : (k, b) ∉ H := fun h => by
  obtain ⟨l, hl, _⟩ := R.own k b h
  rw [hk] at hl; cases hl

theorem Rep.fresh_names (R : Rep F ι H w) {k : Nat} (hk : ι k = none) : k ∉ H.map Prod.fst := fun h => by
  obtain ⟨⟨n, b⟩, hm, he⟩ := List.mem_map.1 h
  simp only at he; subst he
  exact R.fresh_not hk b hm

/-! a new block -/
theorem kept_alloc (_R : Rep F ι H w) {k : Nat} (hk : ι k = none) (l : Loc) (b : B) (hl : l.b = w.heap.size) (ho : w'.os = w.os) (ht : w'.tape = w.tape) (hu : w'.output = w.output)
    (hs : w.heap.size ≤ w'.heap.size) (hh : ∀ i, i < w.heap.size → w'.heap[i]? = w.heap[i]?) : Kept ι H w (upd ι k l) ((k, b) :: H) w' := by
  refine ⟨fun n l' h => upd_le l hk n l' h, ho, ht, hu, hs, fun i hi _ => hh i hi, ?_⟩
  rintro i hi ⟨n, B', l', hm, hι, hg, rfl⟩
  by_cases hn : n = k
  · subst hn; rw [upd_same] at hι; cases hι; omega
  · rw [upd_other _ _ _ _ hn] at hι
    cases hm with
    | head => exact absurd rfl hn
    | tail _ hm => exact ⟨n, B', l', hm, hι, hg, rfl⟩

theorem Rep.alloc (R : Rep F ι H w) {k : Nat} (hk : ι k = none) (l : Loc) (b : B) (hl : l.b = w.heap.size) (ho : w'.os = w.os) (ht : w'.tape = w.tape) (hu : w'.output = w.output)
    (hs : w.heap.size < w'.heap.size) (hh : ∀ i, i < w.heap.size → w'.heap[i]? = w.heap[i]?)
    (hb : ∀ ι' O', Stays ι (Own F ι H) w ι' O' w' → BRel ι' O' w' l b) : Rep F (upd ι k l) ((k, b) :: H) w' := by
  have K := kept_alloc R hk l b hl ho ht hu (Nat.le_of_lt hs) hh
  refine R.change K ?_ k ?_ ?_ ?_
  · simp only [List.map_cons, List.nodup_cons]; exact ⟨R.fresh_names hk, R.names⟩
  · intro m C h hne; cases h with
    | head => exact absurd rfl hne
    | tail _ h => exact h
  · intro m C l' h hne hι hg
    cases h with
    | head => exact absurd rfl hne
    | tail _ h =>
      obtain ⟨l0, hl0, _, h0⟩ := R.own m C h
      rw [hι] at hl0; cases hl0
      exact hh _ (h0 hg).1
  · intro C hC
    have hCb : C = b := by
      cases hC with
      | head => rfl
      | tail _ h => exact absurd h (R.fresh_not hk C)
    subst hCb
    refine ⟨l, upd_same _ _ _, hb _ _ K.stays, fun _ => ⟨by omega, fun hF => by have := R.frame _ hF; omega, ?_⟩⟩
    intro m C lm h hne hι hg
    cases h with
    | head => exact absurd rfl hne
    | tail _ h =>
      obtain ⟨l0, hl0, _, h0⟩ := R.own m C h
      rw [hι] at hl0; cases hl0
      have := (h0 hg).1; omega

/-! a block written -/
theorem kept_put {n : Nat} {b b' : B} (hm : (n, b) ∈ H) {l : Loc} (hl : ι n = some l) (hg : l.ghost = false) (hd : (H.map Prod.fst).Nodup)
    (ho : w'.os = w.os) (ht : w'.tape = w.tape) (hu : w'.output = w.output) (hs : w.heap.size ≤ w'.heap.size) (hh : ∀ i, i < w.heap.size → i ≠ l.b → w'.heap[i]? = w.heap[i]?) : Kept ι H w ι (put n b' H) w' := by
  refine ⟨fun _ _ h => h, ho, ht, hu, hs, fun i hi hno => hh i hi fun e => hno ⟨n, b, l, hm, hl, hg, e.symm⟩, ?_⟩
  rintro i hi ⟨m, B', l', hm', hι, hg', rfl⟩
  rcases mem_put hd hm' with ⟨rfl, rfl⟩ | ⟨_, h⟩
  · rw [hl] at hι; cases hι; exact ⟨m, b, l, hm, hl, hg, rfl⟩
  · exact ⟨m, B', l', h, hι, hg', rfl⟩

theorem Rep.put (R : Rep F ι H w) {n : Nat} {b b' : B} (hm : (n, b) ∈ H) {l : Loc} (hl : ι n = some l) (hg : l.ghost = false)
    (ho : w'.os = w.os) (ht : w'.tape = w.tape) (hu : w'.output = w.output) (hs : w.heap.size ≤ w'.heap.size) (hh : ∀ i, i < w.heap.size → i ≠ l.b → w'.heap[i]? = w.heap[i]?)
    (hb : ∀ O', Stays ι (Own F ι H) w ι O' w' → BRel ι O' w' l b') : Rep F ι (put n b' H) w' := by
  have K := kept_put (b' := b') hm hl hg R.names ho ht hu hs hh
  refine R.change K (by rw [names_put]; exact R.names) n ?_ ?_ ?_
  · intro m C h hne; exact ((mem_put R.names h).resolve_left fun e => hne e.1).2
  · intro m C lm h hne hι hgm
    have h' := ((mem_put R.names h).resolve_left fun e => hne e.1).2
    obtain ⟨l0, hl0, _, h0⟩ := R.own m C h'
    rw [hι] at hl0; cases hl0
    exact hh _ (h0 hgm).1 (R.apart m C n b _ _ h' hm hne hι hl hgm hg)
  · intro C hC
    have hCb : C = b' := ((mem_put R.names hC).resolve_right fun e => e.1 rfl).2
    subst hCb
    obtain ⟨l0, hl0, _, h0⟩ := R.own n b hm
    rw [hl] at hl0; cases hl0
    refine ⟨l, hl, hb _ K.stays, fun _ => ⟨Nat.lt_of_lt_of_le (h0 hg).1 hs, (h0 hg).2, ?_⟩⟩
    intro m C lm h hne hι hgm
    have h' := ((mem_put R.names h).resolve_left fun e => hne e.1).2
    exact R.apart m C n b _ _ h' hm hne hι hl hgm hg

/-! a block given up -/
theorem kept_del (R : Rep F ι H w) (n : Nat) : Kept ι H w ι (del n H) w :=
  ⟨fun _ _ h => h, rfl, rfl, rfl, Nat.le_refl _, fun _ _ _ => rfl, by
    rintro i hi ⟨m, B', l', hm', hι, hg', rfl⟩
    exact ⟨m, B', l', (mem_del R.names hm').2, hι, hg', rfl⟩⟩

theorem Rep.del (R : Rep F ι H w) (n : Nat) : Rep F ι (del n H) w := by
  refine R.change (kept_del R n) ((names_del_sub n H).nodup R.names) n ?_ ?_ ?_
  · intro m C h _; exact (mem_del R.names h).2
  · intro _ _ _ _ _ _ _; rfl
  · intro C hC; exact absurd rfl (mem_del R.names hC).1

/-! a new name for nothing: an empty slice that is nil -/
theorem Rep.ghost (R : Rep F ι H w) {k : Nat} (hk : ι k = none) (sz : Nat) :
    Rep F (upd ι k ⟨0, 0, sz, 0, true, false⟩) ((k, .rows sz []) :: H) w ∧ Kept ι H w (upd ι k ⟨0, 0, sz, 0, true, false⟩) ((k, .rows sz []) :: H) w := by
  have K : Kept ι H w (upd ι k ⟨0, 0, sz, 0, true, false⟩) ((k, .rows sz []) :: H) w := by
    refine ⟨fun n l' h => upd_le _ hk n l' h, rfl, rfl, rfl, Nat.le_refl _, fun i hi _ => rfl, ?_⟩
    rintro i hi ⟨n, B', l', hm, hι, hg, rfl⟩
    by_cases hn : n = k
    · subst hn; rw [upd_same] at hι; cases hι; simp at hg
    · rw [upd_other _ _ _ _ hn] at hι
      cases hm with
      | head => exact absurd rfl hn
      | tail _ hm => exact ⟨n, B', l', hm, hι, hg, rfl⟩
  refine ⟨R.change K ?_ k ?_ ?_ ?_, K⟩
  · simp only [List.map_cons, List.nodup_cons]; exact ⟨R.fresh_names hk, R.names⟩
  · intro m C h hne; cases h with
    | head => exact absurd rfl hne
    | tail _ h => exact h
  · intro _ _ _ _ _ _ _; rfl
  · intro C hC
    have hCb : C = .rows sz [] := by
      cases hC with
      | head => rfl
      | tail _ h => exact absurd h (R.fresh_not hk C)
    subst hCb
    exact ⟨_, upd_same _ _ _, ⟨rfl, rfl, by simp, .inl ⟨rfl, rfl⟩⟩, by simp⟩

/-! a block that moves in its place: a new name for it -/
theorem Rep.move (R : Rep F ι H w) {n : Nat} {b : B} (hm : (n, b) ∈ H) {l : Loc} (hl : ι n = some l) (hg : l.ghost = false) {k : Nat} (hk : ι k = none) (l' : Loc) (hl' : l'.b = l.b) (b' : B)
    (ho : w'.os = w.os) (ht : w'.tape = w.tape) (hu : w'.output = w.output) (hs : w.heap.size ≤ w'.heap.size) (hh : ∀ i, i < w.heap.size → i ≠ l.b → w'.heap[i]? = w.heap[i]?)
    (hb : ∀ ι' O', Stays ι (Own F ι H) w ι' O' w' → BRel ι' O' w' l' b') :
    Rep F (upd ι k l') ((k, b') :: Sl.del n H) w' ∧ Kept ι H w (upd ι k l') ((k, b') :: Sl.del n H) w' := by
  have hnk : n ≠ k := fun e => by subst e; rw [hk] at hl; cases hl
  have K : Kept ι H w (upd ι k l') ((k, b') :: Sl.del n H) w' := by
    refine ⟨fun n l' h => upd_le _ hk n l' h, ho, ht, hu, hs, fun i hi hno => hh i hi fun e => hno ⟨n, b, l, hm, hl, hg, e.symm⟩, ?_⟩
    rintro i hi ⟨m, B', lm, hm', hι, hg', rfl⟩
    by_cases hmk : m = k
    · subst hmk; rw [upd_same] at hι; cases hι
      exact ⟨n, b, l, hm, hl, hg, hl'.symm⟩
    · rw [upd_other _ _ _ _ hmk] at hι
      cases hm' with
      | head => exact absurd rfl hmk
      | tail _ hm' => exact ⟨m, B', lm, (mem_del R.names hm').2, hι, hg', rfl⟩
  refine ⟨R.change K ?_ k ?_ ?_ ?_, K⟩
  · simp only [List.map_cons, List.nodup_cons]
    exact ⟨fun h => R.fresh_names hk ((names_del_sub n H).mem h), (names_del_sub n H).nodup R.names⟩
  · intro m C h hne; cases h with
    | head => exact absurd rfl hne
    | tail _ h => exact (mem_del R.names h).2
  · intro m C lm h hne hι hgm
    cases h with
    | head => exact absurd rfl hne
    | tail _ h =>
      have h' := mem_del R.names h
      obtain ⟨l0, hl0, _, h0⟩ := R.own m C h'.2
      rw [hι] at hl0; cases hl0
      exact hh _ (h0 hgm).1 (R.apart m C n b _ _ h'.2 hm h'.1 hι hl hgm hg)
  · intro C hC
    have hCb : C = b' := by
      cases hC with
      | head => rfl
      | tail _ h => exact absurd (mem_del R.names h).2 (R.fresh_not hk C)
    subst hCb
    obtain ⟨l0, hl0, _, h0⟩ := R.own n b hm
    rw [hl] at hl0; cases hl0
    refine ⟨l', upd_same _ _ _, hb _ _ K.stays, fun _ => ⟨hl' ▸ Nat.lt_of_lt_of_le (h0 hg).1 hs, hl' ▸ (h0 hg).2, ?_⟩⟩
    intro m C lm h hne hι hgm
    cases h with
    | head => exact absurd rfl hne
    | tail _ h =>
      have h' := mem_del R.names h
      rw [hl']
      exact R.apart m C n b _ _ h'.2 hm h'.1 hι hl hgm hg

/-! the heap in another order; a part of it lent -/
theorem OwnH.perm (p : H.Perm H') (b : Nat) : OwnH ι H b ↔ OwnH ι H' b :=
  ⟨fun ⟨n, B, l, h, r⟩ => ⟨n, B, l, p.mem_iff.1 h, r⟩, fun ⟨n, B, l, h, r⟩ => ⟨n, B, l, p.mem_iff.2 h, r⟩⟩

theorem Kept.perm (p : H.Perm H') : Kept ι H w ι H' w :=
  ⟨fun _ _ h => h, rfl, rfl, rfl, Nat.le_refl _, fun _ _ _ => rfl, fun b _ h => (OwnH.perm p b).2 h⟩

theorem Rep.perm (R : Rep F ι H w) (p : H.Perm H') : Rep F ι H' w := by
  refine ⟨R.frame, (p.map _).nodup_iff.1 R.names, ?_, ?_⟩
  · intro n C hC
    obtain ⟨l, hl, hB, h⟩ := R.own n C (p.mem_iff.2 hC)
    exact ⟨l, hl, BRel.stays (Kept.perm p).stays (fun _ => rfl) hB, h⟩
  · intro n C m D l l' hC hD
    exact R.apart n C m D l l' (p.mem_iff.2 hC) (p.mem_iff.2 hD)

/-- what the rest of the heap owns, as a frame -/
def Fr (F : Nat → Prop) (ι : Names) (G : Heap) : Nat → Prop := fun b => F b ∨ OwnH ι G b

theorem own_split (H G : Heap) (b : Nat) : Own F ι (H ++ G) b ↔ Own (Fr F ι G) ι H b := by
  unfold Own Fr OwnH
  constructor
  · rintro (h | ⟨n, B, l, h, r⟩)
    · exact .inl (.inl h)
    · rcases List.mem_append.1 h with h | h
      · exact .inr ⟨n, B, l, h, r⟩
      · exact .inl (.inr ⟨n, B, l, h, r⟩)
  · rintro ((h | ⟨n, B, l, h, r⟩) | ⟨n, B, l, h, r⟩)
    · exact .inl h
    · exact .inr ⟨n, B, l, List.mem_append.2 (.inr h), r⟩
    · exact .inr ⟨n, B, l, List.mem_append.2 (.inl h), r⟩

theorem own_split_eq (F : Nat → Prop) (ι : Names) (H G : Heap) : Own F ι (H ++ G) = Own (Fr F ι G) ι H := funext fun b => propext (own_split H G b)

theorem Rep.lend {G : Heap} (R : Rep F ι (H ++ G) w) : Rep (Fr F ι G) ι H w := by
  have hn := R.names
  simp only [List.map_append] at hn
  rw [List.nodup_append] at hn
  refine ⟨?_, hn.1, ?_, ?_⟩
  · rintro b (h | ⟨n, B, l, h, hl, hg, rfl⟩)
    · exact R.frame b h
    · obtain ⟨l', hl', _, h'⟩ := R.own n B (List.mem_append.2 (.inr h))
      rw [hl] at hl'; cases hl'
      exact (h' hg).1
  · intro n C hC
    obtain ⟨l, hl, hB, h⟩ := R.own n C (List.mem_append.2 (.inl hC))
    rw [own_split_eq] at hB
    refine ⟨l, hl, hB, fun hg => ⟨(h hg).1, ?_⟩⟩
    rintro (hF | ⟨m, D, l', hD, hl', hg', he⟩)
    · exact (h hg).2 hF
    · have hne : n ≠ m := fun e => hn.2.2 n (List.mem_map.2 ⟨(n, C), hC, rfl⟩) m (List.mem_map.2 ⟨(m, D), hD, rfl⟩) e
      exact R.apart n C m D l l' (List.mem_append.2 (.inl hC)) (List.mem_append.2 (.inr hD)) hne hl hl' hg hg' he.symm
  · intro n C m D l l' hC hD
    exact R.apart n C m D l l' (List.mem_append.2 (.inl hC)) (List.mem_append.2 (.inl hD))

theorem Kept.frame {G : Heap} (R : Rep F ι (H ++ G) w) (K : Kept ι H w ι' H' w') : Kept ι (H ++ G) w ι' (H' ++ G) w' := by
  refine ⟨K.le, K.os, K.tape, K.output, K.size, fun b hb hn => K.stay b hb fun ⟨n, B, l, h, r⟩ => hn ⟨n, B, l, List.mem_append.2 (.inl h), r⟩, ?_⟩
  rintro b hb ⟨n, B, l, h, hl, hg, rfl⟩
  rcases List.mem_append.1 h with h | h
  · obtain ⟨m, D, l', h', r⟩ := K.old _ hb ⟨n, B, l, h, hl, hg, rfl⟩
    exact ⟨m, D, l', List.mem_append.2 (.inl h'), r⟩
  · obtain ⟨l', hl', _⟩ := R.own n B (List.mem_append.2 (.inr h))
    have := K.le _ _ hl'
    rw [hl] at this; cases this
    exact ⟨n, B, l, List.mem_append.2 (.inr h), hl', hg, rfl⟩

/-- the frame's blocks, by the names as they are behind a call -/
theorem Fr.later {G : Heap} (R : Rep F ι (H ++ G) w) (hle : ∀ n l, ι n = some l → ι' n = some l) (b : Nat) : Fr F ι' G b ↔ Fr F ι G b := by
  constructor
  · rintro (h | ⟨n, B, l, h, hl, hg, rfl⟩)
    · exact .inl h
    · obtain ⟨l', hl', _⟩ := R.own n B (List.mem_append.2 (.inr h))
      have := hle _ _ hl'
      rw [hl] at this; cases this
      exact .inr ⟨n, B, l, h, hl', hg, rfl⟩
  · rintro (h | ⟨n, B, l, h, hl, hg, rfl⟩)
    · exact .inl h
    · exact .inr ⟨n, B, l, h, hle _ _ hl, hg, rfl⟩

theorem Rep.give {G : Heap} (R : Rep F ι (H ++ G) w) (K : Kept ι H w ι' H' w') (R' : Rep (Fr F ι G) ι' H' w') (hd : ∀ n, n ∈ H'.map Prod.fst → n ∉ G.map Prod.fst) : Rep F ι' (H' ++ G) w' := by
  have hFr : Fr F ι' G = Fr F ι G := funext fun b => propext (Fr.later R K.le b)
  have hn := R.names
  simp only [List.map_append] at hn
  rw [List.nodup_append] at hn
  have hS : Stays ι (Own F ι (H ++ G)) w ι' (Own F ι' (H' ++ G)) w' := (Kept.frame R K).stays
  refine ⟨fun b hb => R'.frame b (.inl hb), ?_, ?_, ?_⟩
  · simp only [List.map_append]; rw [List.nodup_append]
    exact ⟨R'.names, hn.2.1, fun a ha b hb e => hd a ha (e ▸ hb)⟩
  · intro n C hC
    rcases List.mem_append.1 hC with hC | hC
    · obtain ⟨l, hl, hB, h⟩ := R'.own n C hC
      refine ⟨l, hl, ?_, fun hg => ⟨(h hg).1, fun hF => (h hg).2 (.inl hF)⟩⟩
      rw [own_split_eq, hFr]; exact hB
    · obtain ⟨l, hl, hB, h⟩ := R.own n C (List.mem_append.2 (.inr hC))
      refine ⟨l, K.le _ _ hl, BRel.stays hS (fun hg => ?_) hB, fun hg => ⟨Nat.lt_of_lt_of_le (h hg).1 K.size, (h hg).2⟩⟩
      refine K.stay _ (h hg).1 ?_
      rintro ⟨m, D, l', hD, hl', hg', he⟩
      have hne : m ≠ n := fun e => hn.2.2 m (List.mem_map.2 ⟨(m, D), hD, rfl⟩) n (List.mem_map.2 ⟨(n, C), hC, rfl⟩) e
      exact R.apart m D n C l' l (List.mem_append.2 (.inl hD)) (List.mem_append.2 (.inr hC)) hne hl' hl hg' hg he
  · intro n C m D l l' hC hD hne hl hl' hg hg'
    have inG : ∀ n C l, (n, C) ∈ G → ι' n = some l → ι n = some l := fun n C l h hl => by
      obtain ⟨l0, hl0, _⟩ := R.own n C (List.mem_append.2 (.inr h))
      have := K.le _ _ hl0
      rw [hl] at this; cases this; exact hl0
    have cross : ∀ n C m D l l', (n, C) ∈ H' → (m, D) ∈ G → ι' n = some l → ι' m = some l' → l.ghost = false → l'.ghost = false → l.b ≠ l'.b := by
      intro n C m D l l' h1 h2 hl hl' hg hg' he
      obtain ⟨l0, hl0, _, h0⟩ := R'.own n C h1
      rw [hl] at hl0; cases hl0
      exact (h0 hg).2 (.inr ⟨m, D, l', h2, inG m D l' h2 hl', hg', he.symm⟩)
    rcases List.mem_append.1 hC with hC | hC <;> rcases List.mem_append.1 hD with hD | hD
    · exact R'.apart n C m D l l' hC hD hne hl hl' hg hg'
    · exact cross n C m D l l' hC hD hl hl' hg hg'
    · exact fun e => cross m D n C l' l hD hC hl' hl hg' hg e.symm
    · exact R.apart n C m D l l' (List.mem_append.2 (.inr hC)) (List.mem_append.2 (.inr hD)) hne (inG n C l hC hl) (inG m D l' hD hl') hg hg'

end
end Go.Sl
