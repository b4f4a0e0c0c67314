/- What is no longer owned is immutable from then on: slices and pointers seen by what they hold, through all their parts. -/
import Derived.Test.YtokdphmnlcmbbaaSl18
import Derived.Test.YtokdphmnlcmbbaaSl17
set_option linter.unusedVariables false
set_option linter.unusedSimpArgs false
namespace Go.Sl

/-- an element, cell by cell -/
def elemF (g : V → V) : V → V
  | .agg cs => .agg (cs.map g)
  | v => g v

/-- as it is seen when only the names of S stay owned; d: how deep -/
def frz (S : List Nat) (H : Heap) : Nat → V → V
  | 0, v => v
  | d + 1, v =>
    match v with
    | .sl n q len =>
      if n ∈ S then v else
      match look n H with
      | some (.rows sz es) => if q + len ≤ es.length then .ro sz (((es.drop q).take len).map (elemF (frz S H d))) else v
      | _ => v
    | .ptr n i j =>
      if n ∈ S then v else
      match look n H with
      | some (.rows _ es) => if i < es.length then .rp ((es.getD i .any).cells.map (frz S H d)) j else v
      | _ => v
    | .agg cs => .agg (cs.map (frz S H d))
    | .tup vs => .tup (vs.map (frz S H d))
    | v => v

def frzB (S : List Nat) (H : Heap) (d : Nat) : B → B
  | .rows sz es => .rows sz (es.map (elemF (frz S H d)))
  | .map es => .map (es.map fun e => (e.1, frz S H d e.2))

theorem frz_agg {S : List Nat} {H : Heap} {d : Nat} {v : V} (h : ∀ cs, v ≠ .agg cs) : ∀ cs, frz S H d v ≠ .agg cs := by
  intro cs
  cases d with
  | zero => exact h cs
  | succ d =>
    unfold frz
    split
    · split
      · exact h cs
      · split
        · split
          · simp
          · exact h cs
        · exact h cs
    · split
      · exact h cs
      · split
        · split
          · simp
          · exact h cs
        · exact h cs
    · rename_i cs' ; exact absurd rfl (h cs')
    · simp
    · exact h cs

theorem cells_one {v : V} (h : ∀ cs, v ≠ .agg cs) : v.cells = [v] := by
  cases v <;> first | rfl | exact absurd rfl (h _)

theorem elemF_cells {S : List Nat} {H : Heap} {d : Nat} (v : V) : (elemF (frz S H d) v).cells = v.cells.map (frz S H d) := by
  by_cases h : ∃ cs, v = .agg cs
  · obtain ⟨cs, rfl⟩ := h; rfl
  · have h' : ∀ cs, v ≠ .agg cs := fun cs e => h ⟨cs, e⟩
    have e : elemF (frz S H d) v = frz S H d v := by
      cases v <;> first | rfl | exact absurd rfl (h' _)
    rw [e, cells_one (frz_agg h'), cells_one h']; rfl

theorem frz_one {S : List Nat} {H : Heap} {d : Nat} {v : V} (h : v.one = true) : (frz S H d v).one = true := by
  cases d with
  | zero => exact h
  | succ d =>
    unfold frz
    split
    · split
      · exact h
      · split
        · split
          · rfl
          · exact h
        · exact h
    · split
      · exact h
      · split
        · split
          · rfl
          · exact h
        · exact h
    · cases h
    · cases h
    · exact h

theorem elemF_fits {S : List Nat} {H : Heap} {d sz : Nat} {v : V} (h : v.fits sz = true) : (elemF (frz S H d) v).fits sz = true := by
  rw [fits_iff] at h ⊢
  rw [elemF_cells]
  refine ⟨by simpa using h.1, fun c hc => ?_⟩
  obtain ⟨c', hc', rfl⟩ := List.mem_map.1 hc
  exact frz_one (h.2 c' hc')

theorem elemF_flat {S : List Nat} {H : Heap} {d : Nat} (es : List V) : (es.map (elemF (frz S H d))).flatMap V.cells = (es.flatMap V.cells).map (frz S H d) := by
  induction es with
  | nil => rfl
  | cons e es ih => simp only [List.map_cons, List.flatMap_cons, List.map_append, ih, elemF_cells]

section
variable {F : Nat → Prop} {ι ι' : Names} {O O' : Nat → Prop} {H H' : Heap} {w w' : World} {S : List Nat}

theorem VRels.mapF {g : V → V} (h : ∀ v x, VRel ι O w v x → VRel ι O' w (g v) x) : ∀ {vs : List V} {xs : List Value}, VRels ι O w vs xs → VRels ι O' w (vs.map g) xs
  | _, _, .nil => .nil
  | _, _, .cons h1 hs => .cons (h _ _ h1) (VRels.mapF h hs)

theorem callF_mono {P : Program} {f : FuncId} {args : List V} {H : Heap} {k : Nat} {K K' : V → Heap → Nat → Prop} (h : @callF P f args H k ⟨K⟩) (hk : ∀ v H k, K v H k → K' v H k) : @callF P f args H k ⟨K'⟩ := Fn.mono h hk

theorem opV_mono {T : Tab} {P : Program} {t : List (Nat × V)} {H : Heap} {k : Nat} {op : Op} {K K' : V → Heap → Nat → Prop} (h : opV T P t H k op K) (hk : ∀ v H k, K v H k → K' v H k) : opV T P t H k op K' := by
  cases hc : isCall op with
  | false =>
    obtain ⟨v, H', k', h1, h2⟩ := opV_pt hc K h
    exact h2 K' (hk _ _ _ h1)
  | true =>
    unfold isCall at hc
    split at hc
    · rename_i f args ts
      unfold opV at h ⊢
      dsimp only at h ⊢
      split at h
      · rename_i g fs cs hf
        first | exact callF_mono h hk | (simp only [hf]; exact callF_mono h hk)
      · exact h.elim
    · cases hc

theorem guardV_mono {ops : List Oper} {t : List (Nat × V)} {g : Option (Nat × Bool)} {p q p' q' : Prop} (h : guardV ops t g p q) (hp : p → p') (hq : q → q') : guardV ops t g p' q' := by
  cases g with
  | none => exact hp h
  | some g =>
    obtain ⟨j, want⟩ := g
    unfold guardV at h ⊢
    dsimp only at h ⊢
    cases hd : (ops[j]?).bind (·.dst) with
    | none => rw [hd] at h; exact h.elim
    | some d =>
      rw [hd] at h
      dsimp only at h ⊢
      cases hg : get t d with
      | val v =>
        rw [hg] at h
        cases v with
        | bool b =>
          dsimp only at h ⊢
          by_cases e : b = want
          · rw [if_pos e] at h ⊢; exact hp h
          · rw [if_neg e] at h ⊢; exact hq h
        | _ => exact h.elim
      | tup vs =>
        rw [hg] at h
        cases vs with
        | nil => exact hq h
        | cons => exact h.elim
      | _ => rw [hg] at h; exact h.elim

theorem vcL_mono {T : Tab} {P : Program} {ops : List Oper} {N : Nat} {K K' : St → Prop} : ∀ {l : List Oper} {t : List (Nat × V)} {H : Heap} {k : Nat}, vcL T P ops N l K t H k → (∀ σ, K σ → K' σ) → vcL T P ops N l K' t H k
  | [], _, _, _, h, hk => hk _ h
  | _ :: _, _, _, _, h, hk => ⟨h.1, guardV_mono h.2 (fun h => opV_mono h fun _ _ _ h => vcL_mono h hk) fun h => vcL_mono h hk⟩

theorem opVD_mono {T : Tab} {P : Program} {t : List (Nat × V)} {H : Heap} {k : Nat} {op : Op} {K K' : V → Heap → Nat → Prop} (h : opVD T P t H k op K) (hk : ∀ v H k, K v H k → K' v H k) : opVD T P t H k op K' := by
  unfold opVD at h ⊢
  split
  · rename_i f args ts
    dsimp only at h
    split at h
    · rename_i hf
      obtain ⟨r, h1, h2⟩ := h
      first | exact ⟨r, h1, hk _ _ _ h2⟩ | (simp only [hf]; exact ⟨r, h1, hk _ _ _ h2⟩)
    · exact h.elim
  · rename_i hno
    split at h
    · rename_i f args ts; exact absurd rfl (hno f args ts)
    · exact opV_mono h hk

theorem vcD_mono {T : Tab} {P : Program} {ops : List Oper} {N : Nat} {K K' : List (Nat × V) → Heap → List (List Nat × List Nat) → Prop} : ∀ {l : List Oper} {κ : Nat} {t : List (Nat × V)} {H : Heap} {lg : List (List Nat × List Nat)}, vcD T P ops N κ l K t H lg → (∀ t H lg, K t H lg → K' t H lg) → vcD T P ops N κ l K' t H lg
  | [], _, _, _, _, h, hk => hk _ _ _ h
  | _ :: _, _, _, _, _, h, hk => ⟨h.1, guardV_mono h.2 (fun h => opVD_mono h fun _ _ _ h => ⟨h.1, vcD_mono h.2 hk⟩) fun h => vcD_mono h hk⟩

/-- what stays owned -/
structure Less (ι : Names) (S : List Nat) (H H' : Heap) : Prop where
  sub : ∀ n B, (n, B) ∈ H' → n ∈ S ∧ ∃ C, (n, C) ∈ H

theorem Less.own (L : Less ι S H H') {b : Nat} (h : Own F ι H' b) : F b ∨ ∃ n C l, n ∈ S ∧ (n, C) ∈ H ∧ ι n = some l ∧ l.ghost = false ∧ l.b = b := by
  rcases h with h | ⟨n, B, l, hm, hl, hg, hb⟩
  · exact .inl h
  · obtain ⟨h1, C, h2⟩ := L.sub n B hm
    exact .inr ⟨n, C, l, h1, h2, hl, hg, hb⟩

theorem Less.stays (L : Less ι S H H') : Stays ι (Own F ι H) w ι (Own F ι H') w :=
  ⟨fun _ _ h => h, Nat.le_refl _, fun b _ hn => ⟨fun h => hn (by
    rcases L.own h with h | ⟨n, C, l, _, h2, hl, hg, hb⟩
    · exact .inl h
    · exact .inr ⟨n, C, l, h2, hl, hg, hb⟩), rfl⟩⟩

theorem Less.free (L : Less ι S H H') (R : Rep F ι H w) {n : Nat} {B : B} {l : Loc} (hn : look n H = some B) (hS : n ∉ S) (hl : ι n = some l) (hg : l.ghost = false) (hF : ¬ F l.b) : ¬ Own F ι H' l.b := by
  intro h
  rcases L.own h with h | ⟨m, C, l', h1, h2, hl', hg', hb⟩
  · exact hF h
  · exact R.apart m C n B l' l h2 (look_mem hn) (fun e => hS (e ▸ h1)) hl' hl hg' hg hb

theorem frz_ok (L : Less ι S H H') (R : Rep F ι H w) : ∀ (d : Nat) (v : V) (x : Value), VRel ι (Own F ι H) w v x → VRel ι (Own F ι H') w (frz S H d v) x
  | 0, v, x, h => h.stays L.stays
  | d + 1, v, x, h => by
    have ih := frz_ok L R d
    unfold frz
    split
    · rename_i n q len
      split
      · exact h.stays L.stays
      · rename_i hS
        split
        · rename_i sz es hn
          split
          · rename_i hl
            have hlen : ((es.drop q).take len).length = len := by rw [List.length_take, List.length_drop]; omega
            cases h with
            | sl0 h => simpa using VRel.ro0
            | sl hl' hg hm hoff hc0 hlc hcm hs =>
              rename_i off cap l
              obtain ⟨e1, e2, e3, e4, e5, c, e, hw, hc, hlo, hv⟩ := R.block hn hl' hg
              have hcl : ∀ v ∈ es, v.cells.length = sz := fun v hv => (fits_iff.1 (e3 v hv)).1
              have hmul : (q + len) * sz ≤ es.length * sz := Nat.mul_le_mul_right _ hl
              rw [Nat.add_mul] at hmul
              have hv' := (hv.drop (q * sz)).take (len * sz)
              rw [flatMap_drop hcl, flatMap_take (fun v hv => hcl v (List.mem_of_mem_drop hv))] at hv'
              have hlist : (((c.toList.drop l.o).take (es.length * sz)).drop (q * sz)).take (len * sz) = (c.toList.drop off).take (((es.drop q).take len).length * sz) := by
                rw [hlen]
                apply List.ext_getElem?
                intro p
                simp only [List.getElem?_take, List.getElem?_drop]
                by_cases hq : p < len * sz
                · simp only [hq, if_true, show q * sz + p < es.length * sz by omega]
                  congr 1; rw [hoff, e1]; omega
                · simp [hq]
              rw [hlist] at hv'
              refine .ro e4 (L.free R hn hS hl' hg e5) hw (fun v hv => ?_) (by rw [List.length_map, hlen]) hlc ?_ rfl ?_
              · obtain ⟨v', hv', rfl⟩ := List.mem_map.1 hv
                exact elemF_fits (e3 v' (List.mem_of_mem_drop (List.mem_of_mem_take hv')))
              · rw [List.length_map, hlen, hoff, e1]; omega
              · rw [elemF_flat, List.length_map]; exact hv'.mapF ih
          · exact h.stays L.stays
        · exact h.stays L.stays
    · rename_i n i j
      split
      · exact h.stays L.stays
      · rename_i hS
        split
        · rename_i sz es hn
          split
          · rename_i hl
            cases h with
            | ptr hl' hg hm hoff =>
              rename_i off l
              obtain ⟨e1, e2, e3, e4, e5, c, e, hw, hc, hlo, hv⟩ := R.block hn hl' hg
              have hcl : ∀ v ∈ es, v.cells.length = sz := fun v hv => (fits_iff.1 (e3 v hv)).1
              obtain ⟨v, hvi⟩ : ∃ v, es[i]? = some v := ⟨_, List.getElem?_eq_getElem hl⟩
              have hd : es.getD i .any = v := by simp [List.getD, hvi]
              have hvf := fits_iff.1 (e3 v (List.mem_of_getElem? hvi))
              have hmul : i * sz + sz ≤ es.length * sz := by rw [← Nat.succ_mul]; exact Nat.mul_le_mul_right _ hl
              have hel := (hv.drop (i * sz)).take sz
              rw [flatMap_elem hcl hvi] at hel
              have hlist : (((c.toList.drop l.o).take (es.length * sz)).drop (i * sz)).take sz = (c.toList.drop (l.o + i * sz)).take v.cells.length := by
                rw [hvf.1]
                apply List.ext_getElem?
                intro p
                simp only [List.getElem?_take, List.getElem?_drop]
                by_cases hq : p < sz
                · simp only [hq, if_true, show i * sz + p < es.length * sz by omega]
                  congr 1; omega
                · simp [hq]
              rw [hlist] at hel
              rw [hd]
              refine VRel.rp (off := l.o + i * sz) e4 (L.free R hn hS hl' hg e5) hw ?_ (by rw [List.length_map, hvf.1]; omega) rfl (by rw [List.length_map]; exact hel.mapF ih) (by rw [hoff, e1])
              rw [List.all_eq_true]
              intro c hc
              obtain ⟨c', hc', rfl⟩ := List.mem_map.1 hc
              exact frz_one (hvf.2 c' hc')
          · exact h.stays L.stays
        · exact h.stays L.stays
    · cases h with
      | agg h => exact .agg (h.mapF ih)
    · cases h with
      | tup h => exact .tup (h.mapF ih)
    · exact h.stays L.stays

theorem frzB_ok (L : Less ι S H H') (R : Rep F ι H w) (d : Nat) {l : Loc} {B : B} (h : BRel ι (Own F ι H) w l B) : BRel ι (Own F ι H') w l (frzB S H d B) := by
  have ih := frz_ok L R d
  cases B with
  | rows sz es =>
    obtain ⟨h1, h2, h3, h4⟩ := h
    refine ⟨h1, h2, fun v hv => ?_, ?_⟩
    · obtain ⟨v', hv', rfl⟩ := List.mem_map.1 hv
      exact elemF_fits (h3 v' hv')
    · rcases h4 with ⟨h4, h5⟩ | ⟨h4, c, e, h5, h6, h7, h8⟩
      · subst h5; exact .inl ⟨h4, rfl⟩
      · refine .inr ⟨h4, c, e, h5, h6, by simpa using h7, ?_⟩
        rw [elemF_flat, List.length_map]; exact h8.mapF ih
  | map es =>
    obtain ⟨h1, h2, mes, clock, h3, h4, h5, h6, h7⟩ := h
    refine ⟨h1, h2, mes, clock, h3, by simpa [Function.comp_def] using h4, ?_, h6, h7⟩
    have := h5.mapF ih
    simpa [frzB, Function.comp_def] using this

theorem Weaker.fz {N k : Nat} {t t' : List (Nat × V)} (d dh : Nat) (ht : ∀ p ∈ t', frz (H'.map Prod.fst) H d (get t p.1) = p.2) (hn : (H'.map Prod.fst).Nodup)
    (hH : ∀ p ∈ H', ∃ B, look p.1 H = some B ∧ frzB (H'.map Prod.fst) H dh B = p.2) : Weaker ⟨N, t, H, k⟩ ⟨N, t', H', k⟩ :=
  ⟨fun F ι a w hh => by
    have R := hh.rep
    simp only [] at R
    have L : Less ι (H'.map Prod.fst) H H' := ⟨fun n B hm => ⟨List.mem_map_of_mem (f := Prod.fst) hm, by
      obtain ⟨C, hC, _⟩ := hH _ hm
      exact ⟨C, look_mem hC⟩⟩⟩
    have hno : ∀ b, ¬ OwnH ι H b → ¬ OwnH ι H' b := fun b hb ⟨n, B, l, hm, hl, hg, he⟩ => by
      obtain ⟨C, hC, _⟩ := hH _ hm
      exact hb ⟨n, C, l, look_mem hC, hl, hg, he⟩
    have K : Kept ι H w ι H' w := ⟨fun _ _ h => h, rfl, rfl, rfl, Nat.le_refl _, fun _ _ _ => rfl, fun b _ h => Classical.byContradiction fun hc => hno b hc h⟩
    refine ⟨ι, ⟨hh.defers, hh.size, fun i => ?_, ⟨R.frame, hn, fun n B hm => ?_, fun n B m C l l' h1 h2 => ?_⟩, hh.fresh⟩, K, Nat.le_refl _, fun _ _ => rfl, fun n h => ?_⟩
    · rcases get_mem t' i with h | h
      · simp only []; rw [h]; exact .any _
      · have h1 := ht _ h
        simp only [] at h1 ⊢
        rw [← h1]
        exact frz_ok L R d _ _ (hh.tmps i)
    · obtain ⟨C, hC, hB⟩ := hH _ hm
      obtain ⟨l, hl, hr, hg⟩ := R.own n C (look_mem hC)
      refine ⟨l, hl, ?_, hg⟩
      have := frzB_ok L R dh hr
      rw [hB] at this; exact this
    · obtain ⟨B', hB', _⟩ := hH _ h1
      obtain ⟨C', hC', _⟩ := hH _ h2
      exact R.apart n B' m C' l l' (look_mem hB') (look_mem hC')
    · obtain ⟨p, hp, rfl⟩ := List.mem_map.1 h
      obtain ⟨C, hC, _⟩ := hH _ hp
      exact .inl (List.mem_map.2 ⟨(p.1, C), look_mem hC, rfl⟩)⟩

theorem Weaker.up {N k k' : Nat} {t : List (Nat × V)} (hk : k ≤ k') : Weaker ⟨N, t, H, k⟩ ⟨N, t, H, k'⟩ :=
  ⟨fun F ι a w hh => ⟨ι, ⟨hh.defers, hh.size, hh.tmps, hh.rep, fun n hn h => hh.fresh n hn (Nat.le_trans hk h)⟩, ⟨Kept.refl _ _ _, hk, fun _ _ => rfl, fun _ h => .inl h⟩⟩⟩

theorem Weaker.fzk {N k k' : Nat} {t t' : List (Nat × V)} (d dh : Nat) (hk : k ≤ k') (ht : ∀ p ∈ t', frz (H'.map Prod.fst) H d (get t p.1) = p.2) (hn : (H'.map Prod.fst).Nodup)
    (hH : ∀ p ∈ H', ∃ B, look p.1 H = some B ∧ frzB (H'.map Prod.fst) H dh B = p.2) : Weaker ⟨N, t, H, k⟩ ⟨N, t', H', k'⟩ := (Weaker.up hk).trans (Weaker.fz d dh ht hn hH)

/-- nil slices in a block's cells, seen as an empty row of its own -/
inductive NilTos (m : Nat) : List V → List V → Prop
  | nil : NilTos m [] []
  | same {c : V} {cs ds : List V} (h : NilTos m cs ds) : NilTos m (c :: cs) (c :: ds)
  | to {cs ds : List V} (h : NilTos m cs ds) : NilTos m (.val (.slice none 0 0) :: cs) (.sl m 0 0 :: ds)

theorem NilTos.rels {m : Nat} {l : Loc} (hm : ι m = some l) {cs ds : List V} (h : NilTos m cs ds) {xs : List Value} (hv : VRels ι O w cs xs) : VRels ι O w ds xs := by
  induction h generalizing xs with
  | nil => exact hv
  | same _ ih => cases hv with | cons a b => exact .cons a (ih b)
  | to _ ih => cases hv with | cons a b => cases a; exact .cons (.sl0 hm) (ih b)

theorem Weaker.ghostH {N k sz : Nat} {t : List (Nat × V)} (n s : Nat) {es : List V} (es' : List V) (hn : look n H = some (.rows sz es)) (h0 : es ≠ []) (hl : es'.length = es.length) (hf : ∀ v ∈ es', v.fits sz = true) (hc : NilTos k (es.flatMap V.cells) (es'.flatMap V.cells)) :
    Weaker ⟨N, t, H, k⟩ ⟨N, t, (k, .rows s []) :: put n (.rows sz es') H, k + 1⟩ :=
  ⟨fun F ι a w hh => by
    have hk := hh.fresh k trivial (Nat.le_refl _)
    obtain ⟨R, K⟩ := hh.rep.ghost hk s
    have hkn : n ≠ k := fun e => by
      obtain ⟨l, hl, _⟩ := hh.rep.own n _ (look_mem hn)
      rw [e, hk] at hl; cases hl
    simp only [] at R K
    have hmem : (n, B.rows sz es) ∈ (k, B.rows s []) :: H := List.mem_cons_of_mem _ (look_mem hn)
    obtain ⟨l, hιl, hB, _⟩ := R.own n _ hmem
    have hg : l.ghost = false := by
      obtain ⟨_, _, _, h4⟩ := hB
      rcases h4 with ⟨_, h5⟩ | ⟨h4, _⟩
      · exact absurd h5 h0
      · exact h4
    have hkk : upd ι k ⟨0, 0, s, 0, true, false⟩ k = some ⟨0, 0, s, 0, true, false⟩ := upd_same _ _ _
    have R2 := R.put (b' := .rows sz es') hmem hιl hg rfl rfl rfl (Nat.le_refl _) (fun _ _ _ => rfl) (fun O' S => by
      obtain ⟨h1, h2, h3, h4⟩ := hB
      refine ⟨h1, h2, hf, ?_⟩
      rcases h4 with ⟨h4, _⟩ | ⟨h4, c, e, h5, h6, h7, h8⟩
      · rw [hg] at h4; cases h4
      · exact .inr ⟨h4, c, e, h5, h6, by rw [hl]; exact h7, by rw [hl]; exact hc.rels hkk (h8.stays S)⟩)
    have K2 := kept_put (b' := .rows sz es') hmem hιl hg R.names (w := w) (w' := w) rfl rfl rfl (Nat.le_refl _) (fun _ _ _ => rfl)
    have he : put n (.rows sz es') ((k, .rows s []) :: H) = (k, .rows s []) :: put n (.rows sz es') H := by simp [Sl.put, hkn]
    rw [he] at R2 K2
    have K3 := K.trans K2
    refine ⟨_, ⟨hh.defers, hh.size, fun j => (hh.tmps j).stays K3.stays, R2, fun q _ hq => ?_⟩, K3, Nat.le_succ _, fun q hq => upd_other _ _ _ _ (by have := hq trivial; simp only [] at this; omega), fun q hq => ?_⟩
    · simp only [] at hq
      rw [upd_other _ _ _ _ (by omega)]
      exact hh.fresh q trivial (by simp only []; omega)
    · simp only [List.map_cons, List.mem_cons, names_put] at hq
      rcases hq with hq | hq
      · exact .inr ⟨trivial, by simp only []; omega⟩
      · exact .inl hq⟩

theorem View.fz (d : Nat) (v : V) : View H v [] (frz [] H d v) := fun F ι w cv R hv => by
  have L : Less ι [] H [] := ⟨fun n B hm => by simp at hm⟩
  obtain ⟨R', K, N, _⟩ := View.nil (H := H) v F ι w cv R hv
  exact ⟨R', K, N, frz_ok L R d v cv hv⟩

/-- the same value, seen otherwise -/
def SeenAs (v v' : V) : Prop := ∀ ι O w x, VRel ι O w v x → VRel ι O w v' x
theorem SeenAs.refl (v : V) : SeenAs v v := fun _ _ _ _ h => h
theorem seen_slice {α : Type} (sz : Nat) (el : α → V) (o : Option (List α)) : SeenAs (sliceOf sz el o) (.ro sz ((o.getD []).map el)) := by
  cases o with
  | none => intro ι O w x h; cases h; exact .ro0
  | some l => exact SeenAs.refl _
inductive SeenAll : List V → List V → Prop
  | nil : SeenAll [] []
  | cons {v v' : V} {vs vs' : List V} (h : SeenAs v v') (hs : SeenAll vs vs') : SeenAll (v :: vs) (v' :: vs')
theorem SeenAll.rels {vs vs' : List V} (h : SeenAll vs vs') {xs : List Value} (hv : VRels ι O w vs xs) : VRels ι O w vs' xs := by
  induction h generalizing xs with
  | nil => exact hv
  | cons h1 _ ih => cases hv with | cons a b => exact .cons (h1 _ _ _ _ a) (ih b)
theorem seen_nil (sz : Nat) : SeenAs (.val (.slice none 0 0)) (.ro sz []) := fun ι O w x h => by cases h; exact .ro0
theorem seen_agg {cs cs' : List V} (h : SeenAll cs cs') : SeenAs (.agg cs) (.agg cs') := fun ι O w x hv => by cases hv with | agg hv => exact .agg (h.rels hv)
theorem SeenAll.len {cs cs' : List V} (h : SeenAll cs cs') : cs.length = cs'.length := by induction h with | nil => rfl | cons _ _ ih => simp [ih]
theorem SeenAll.refl : ∀ cs : List V, SeenAll cs cs
  | [] => .nil
  | _ :: cs => .cons (SeenAs.refl _) (SeenAll.refl cs)
theorem seen_rp {cs cs' : List V} {j : Nat} (h : SeenAll cs cs') (h1 : cs'.all V.one = true) : SeenAs (.rp cs j) (.rp cs' j) := fun ι O w x hv => by
  cases hv with
  | rp hb hO hw hsz hin hvs hr ho => exact .rp hb hO hw h1 (by rw [← h.len]; exact hin) (by rw [← h.len]; exact hvs) (h.rels hr) ho
theorem Pf.seen {P : Program} {f : FuncId} {args args' : List V} {r : V} (h : SeenAll args args') (p : Pf P f args' r) : Pf P f args r :=
  ⟨p.enters, fun ι O w cargs hO hv => p.calls ι O w cargs hO (h.rels hv)⟩

/-- a result that is seen as immutable -/
theorem Pf.of_fz {P : Program} {f : FuncId} {args : List V} {r : V} (d : Nat) (ha : NLs args) (hr : NL r) (h : Fn P f args [] 0 fun v H _ => frz [] H d v = r) : Pf P f args r :=
  Pf.of_fn ha hr (Fn.view (h.mono fun v H k e => ⟨[], r, e ▸ View.fz d v, rfl⟩))

theorem elemF_id : elemF id = id := by
  funext v
  cases v <;> simp [elemF]
theorem elemF_id' : elemF (fun x => x) = id := elemF_id
theorem frz_zero (S : List Nat) (H : Heap) : frz S H 0 = id := by funext v; rfl

@[go_sem] theorem nm_l1 (n j : Nat) : (n = n + j + 1) = False := eq_false (by omega)
@[go_sem] theorem nm_r1 (n j : Nat) : (n + j + 1 = n) = False := eq_false (by omega)
@[go_sem] theorem nm_l2 (n j : Nat) : (n = n + j + 1 + 1) = False := eq_false (by omega)
@[go_sem] theorem nm_r2 (n j : Nat) : (n + j + 1 + 1 = n) = False := eq_false (by omega)
@[go_sem] theorem nm_l3 (n j : Nat) : (n = n + j + 1 + 1 + 1) = False := eq_false (by omega)
@[go_sem] theorem nm_r3 (n j : Nat) : (n + j + 1 + 1 + 1 = n) = False := eq_false (by omega)
@[go_sem] theorem nm_l4 (n j : Nat) : (n = n + j + 1 + 1 + 1 + 1) = False := eq_false (by omega)
@[go_sem] theorem nm_r4 (n j : Nat) : (n + j + 1 + 1 + 1 + 1 = n) = False := eq_false (by omega)
@[go_sem] theorem nm_l5 (n j : Nat) : (n = n + j + 1 + 1 + 1 + 1 + 1) = False := eq_false (by omega)
@[go_sem] theorem nm_r5 (n j : Nat) : (n + j + 1 + 1 + 1 + 1 + 1 = n) = False := eq_false (by omega)
@[go_sem] theorem nm_l6 (n j : Nat) : (n = n + j + 1 + 1 + 1 + 1 + 1 + 1) = False := eq_false (by omega)
@[go_sem] theorem nm_r6 (n j : Nat) : (n + j + 1 + 1 + 1 + 1 + 1 + 1 = n) = False := eq_false (by omega)
@[go_sem] theorem nm_l7 (n j : Nat) : (n = n + j + 1 + 1 + 1 + 1 + 1 + 1 + 1) = False := eq_false (by omega)
@[go_sem] theorem nm_r7 (n j : Nat) : (n + j + 1 + 1 + 1 + 1 + 1 + 1 + 1 = n) = False := eq_false (by omega)
@[go_sem] theorem nm_l8 (n j : Nat) : (n = n + j + 1 + 1 + 1 + 1 + 1 + 1 + 1 + 1) = False := eq_false (by omega)
@[go_sem] theorem nm_r8 (n j : Nat) : (n + j + 1 + 1 + 1 + 1 + 1 + 1 + 1 + 1 = n) = False := eq_false (by omega)
@[go_sem] theorem nm_l9 (n j : Nat) : (n = n + j + 1 + 1 + 1 + 1 + 1 + 1 + 1 + 1 + 1) = False := eq_false (by omega)
@[go_sem] theorem nm_r9 (n j : Nat) : (n + j + 1 + 1 + 1 + 1 + 1 + 1 + 1 + 1 + 1 = n) = False := eq_false (by omega)
@[go_sem] theorem nm_l10 (n j : Nat) : (n = n + j + 1 + 1 + 1 + 1 + 1 + 1 + 1 + 1 + 1 + 1) = False := eq_false (by omega)
@[go_sem] theorem nm_r10 (n j : Nat) : (n + j + 1 + 1 + 1 + 1 + 1 + 1 + 1 + 1 + 1 + 1 = n) = False := eq_false (by omega)
@[go_sem] theorem nm_l11 (n j : Nat) : (n = n + j + 1 + 1 + 1 + 1 + 1 + 1 + 1 + 1 + 1 + 1 + 1) = False := eq_false (by omega)
@[go_sem] theorem nm_r11 (n j : Nat) : (n + j + 1 + 1 + 1 + 1 + 1 + 1 + 1 + 1 + 1 + 1 + 1 = n) = False := eq_false (by omega)
@[go_sem] theorem nm_l12 (n j : Nat) : (n = n + j + 1 + 1 + 1 + 1 + 1 + 1 + 1 + 1 + 1 + 1 + 1 + 1) = False := eq_false (by omega)
@[go_sem] theorem nm_r12 (n j : Nat) : (n + j + 1 + 1 + 1 + 1 + 1 + 1 + 1 + 1 + 1 + 1 + 1 + 1 = n) = False := eq_false (by omega)
/-- a piece whose ways meet again in one state -/
theorem seq_to {P : Program} {x y : Code} {Q : Exit → St → Prop} {σ : St} (σ' : St) (h : Tr P x (Then (fun σ => Weaker σ σ') Q) σ) (hy : Tr P y Q σ') : Tr P (.seq x y) Q σ :=
  tr_seq (h.mono fun e σ'' hq => by
    cases e with
    | normal => exact Tr.weaken hq hy
    | _ => exact hq)

/-- a region whose ways meet again in one state -/
theorem region_to {P : Program} {T : Tab} {Q : Exit → St → Prop} (hT : TabOk P T) {id : Nat} {l : List Oper} {y : Code} {N k : Nat} {t : List (Nat × V)} {H : Heap} (hN : dstsLt l N = true) (σ' : St)
    (h : vcL T P l N l (fun σ => Weaker σ σ') t H k) (hy : Tr P y Q σ') : Tr P (.seq (.region id l.toArray false) y) Q ⟨N, t, H, k⟩ :=
  region_k hT hN fun K hK => vcL_mono h fun σ hw => hK _ (Tr.weaken hw hy)

theorem draw_to {P : Program} {T : Tab} {Q : Exit → St → Prop} (hT : TabOk P T) (hm : P.follows .mixedOrders = true) {id : Nat} {l : List Oper} {y : Code} {N k : Nat} {t : List (Nat × V)} {H : Heap} (m : Nat) (tbl : List (List Nat)) (prs : List (Nat × Nat)) (hN : dstsLt l N = true) (hd : drawOk l tbl m = true) (hp : pairsOk l tbl prs m = true) (σ' : St)
    (h : vcD T P l N k (l.take m) (fun t' H' lg => confQ prs lg ∧ vcL T P l N (l.drop m) (fun σ => Weaker σ σ') t' H' (k + m)) t H []) (hy : Tr P y Q σ') : Tr P (.seq (.region id l.toArray true) y) Q ⟨N, t, H, k⟩ :=
  draw_k hT hm m tbl prs hN hd hp fun K hK => vcD_mono h fun t' H' lg hc => ⟨hc.1, vcL_mono hc.2 fun σ hw => hK _ (Tr.weaken hw hy)⟩

end
section
variable {S : List Nat} {H : Heap} {d : Nat}
@[go_sem] theorem frz_sl {n q len : Nat} : frz S H (d + 1) (.sl n q len) = if n ∈ S then .sl n q len else (match look n H with | some (.rows sz es) => if q + len ≤ es.length then .ro sz (((es.drop q).take len).map (elemF (frz S H d))) else .sl n q len | _ => .sl n q len) := by rw [frz]
@[go_sem] theorem frz_ptr {n i j : Nat} : frz S H (d + 1) (.ptr n i j) = if n ∈ S then .ptr n i j else (match look n H with | some (.rows _ es) => if i < es.length then .rp ((es.getD i .any).cells.map (frz S H d)) j else .ptr n i j | _ => .ptr n i j) := by rw [frz]
@[go_sem] theorem frz_aggV {cs : List V} : frz S H (d + 1) (.agg cs) = .agg (cs.map (frz S H d)) := by rw [frz]
@[go_sem] theorem frz_tup {cs : List V} : frz S H (d + 1) (.tup cs) = .tup (cs.map (frz S H d)) := by rw [frz]
@[go_sem] theorem frz_val {v : Value} : frz S H d (.val v) = .val v := by cases d <;> simp [frz]
@[go_sem] theorem frz_any : frz S H d .any = .any := by cases d <;> simp [frz]
@[go_sem] theorem frz_ro {sz : Nat} {es : List V} : frz S H d (.ro sz es) = .ro sz es := by cases d <;> simp [frz]
@[go_sem] theorem frz_rp {cs : List V} {j : Nat} : frz S H d (.rp cs j) = .rp cs j := by cases d <;> simp [frz]
@[go_sem] theorem frz_map {n : Nat} : frz S H d (.map n) = .map n := by cases d <;> simp [frz]
@[go_sem] theorem frz_fn {f : Go.Fn} {fs cs : List V} : frz S H d (.fn f fs cs) = .fn f fs cs := by cases d <;> simp [frz]
@[go_sem] theorem frz_sub {n i j l : Nat} : frz S H d (.sub n i j l) = .sub n i j l := by cases d <;> simp [frz]
end
attribute [go_sem] elemF_id elemF_id' frzB frz_zero elemF V.isAny
@[go_sem] theorem one_0 {x : Value} : V.one (.val x) = true := rfl
@[go_sem] theorem one_1 {n i j : Nat} : V.one (.ptr n i j) = true := rfl
@[go_sem] theorem one_2 {n i j : Nat} : V.one (.sl n i j) = true := rfl
@[go_sem] theorem one_3 {n i j l : Nat} : V.one (.sub n i j l) = true := rfl
@[go_sem] theorem one_4 {n : Nat} {es : List V} : V.one (.ro n es) = true := rfl
@[go_sem] theorem one_5 {n : Nat} {es : List V} : V.one (.rp es n) = true := rfl
@[go_sem] theorem one_6 {n : Nat} : V.one (.map n) = true := rfl
@[go_sem] theorem one_7 {f : Go.Fn} {es cs : List V} : V.one (.fn f es cs) = true := rfl
@[go_sem] theorem put_0 {x : Value} {q : Nat} {u : V} : putPart (.val x) q u = u := rfl
@[go_sem] theorem put_1 {n i j : Nat} {q : Nat} {u : V} : putPart (.ptr n i j) q u = u := rfl
@[go_sem] theorem put_2 {n i j : Nat} {q : Nat} {u : V} : putPart (.sl n i j) q u = u := rfl
@[go_sem] theorem put_3 {n i j l : Nat} {q : Nat} {u : V} : putPart (.sub n i j l) q u = u := rfl
@[go_sem] theorem put_4 {n : Nat} {es : List V} {q : Nat} {u : V} : putPart (.ro n es) q u = u := rfl
@[go_sem] theorem put_5 {n : Nat} {es : List V} {q : Nat} {u : V} : putPart (.rp es n) q u = u := rfl
@[go_sem] theorem put_6 {n : Nat} {q : Nat} {u : V} : putPart (.map n) q u = u := rfl
@[go_sem] theorem put_7 {f : Go.Fn} {es cs : List V} {q : Nat} {u : V} : putPart (.fn f es cs) q u = u := rfl
@[go_sem] theorem put_8  {q : Nat} {u : V} : putPart .any q u = u := rfl
@[go_sem low] theorem fits_def (sz : Nat) (v : V) : v.fits sz = (v.cells.length == sz && v.cells.all V.one) := rfl
@[go_sem low] theorem put_agg (cs : List V) (j : Nat) (u : V) : putPart (.agg cs) j u = .agg (splice cs j u.cells) := rfl
@[go_sem low] theorem splice_def (cs us : List V) (o : Nat) : splice cs o us = cs.take o ++ (us ++ cs.drop (o + us.length)) := rfl
@[go_sem low] theorem cut_def (j n : Nat) (cs : List V) : cut j n cs = (cs.drop j).take n := rfl
@[go_sem low] theorem zeroV_def (d : D) (n b : Nat) (z : List Value) : TI.zeroV ⟨d, n, b, z⟩ = if TI.agg ⟨d, n, b, z⟩ then .agg (z.map .val) else (z.map V.val).headD .any := rfl
end Go.Sl
