/- The rule for a region whose order is open. -/
import Derived.Test.YtokdphmnlcmbbaaSl15
set_option linter.unusedVariables false
set_option linter.unusedSimpArgs false
namespace Go.Sl

section
variable {P : Program} {ops : List Oper} {N κ0 m : Nat} {R : Nat → Rec} {tbl : List (List Nat)}
variable {F : Nat → Prop} {ι0 ι : Names} {H0 HD : Heap} {w0 w : World} {L : Nat → Bool} {a : Act} {Q : Exit → Act → World → Prop}

theorem Inv.done (C : Ctx P ops N κ0 m R tbl) (I : Inv ops N κ0 m R F ι0 H0 w0 L ι HD a w) (hL : ∀ j, j < m → L j = true) :
    Holds All F ι ⟨N, (R m).t, (R m).H, κ0 + m⟩ a w ∧ Ext All ι0 H0 κ0 w0 ι (R m).H (κ0 + m) w := by
  have hT : ∀ x, get (R (last (pT ops L x) m)).t x = get (R m).t x := fun x =>
    (C.runT m (last_le _ _) (Nat.le_refl _) fun k h1 h2 => by
      have := last_none _ m k h1 h2
      unfold pT at this
      simpa [hL k h2] using this).symm
  have hH : ∀ β, look β HD = look β (R m).H := fun β => by
    rw [I.lk β]
    exact (C.runH m (last_le _ _) (Nat.le_refl _) fun k h1 h2 => by
      have := last_none _ m k h1 h2
      unfold pH at this
      simpa [hL k h2] using this).symm
  have hp : HD.Perm (R m).H := perm_of_look I.rep.names (C.names m (Nat.le_refl _)).1 hH
  refine ⟨⟨I.defers, I.size, fun x => ?_, I.rep.perm hp, fun n _ hn => I.fr n hn⟩, I.kept.trans (Kept.perm hp), Nat.le_add_right _ _, fun n hn => I.same n (hn trivial), fun n hn => ?_⟩
  · have := I.tm x
    rw [hT x] at this
    exact this.stays (Kept.perm hp).stays
  · rcases I.dom n ((hp.map _).mem_iff.2 hn) with h | h
    · exact .inl h
    · exact .inr ⟨trivial, h⟩

/-! ## counting -/

def cnt (l : List Bool) : Nat := (l.filter (!·)).length

theorem cnt_set : ∀ (l : List Bool) (i : Nat), l[i]? = some false → cnt (l.set i true) + 1 = cnt l
  | [], i, h => by simp at h
  | b :: l, 0, h => by simp at h; subst h; simp [cnt]
  | b :: l, i + 1, h => by
    have := cnt_set l i (by simpa using h)
    cases b <;> simp [cnt] at this ⊢ <;> omega

theorem cnt_zero : ∀ (l : List Bool), cnt l = 0 → ∀ (i : Nat) (b : Bool), l[i]? = some b → b = true
  | [], _, i, b, h => by simp at h
  | c :: l, hc, i, b, h => by
    cases c with
    | false => simp [cnt] at hc
    | true =>
      cases i with
      | zero => simp at h; exact h
      | succ i => exact cnt_zero l (by simpa [cnt] using hc) i b (by simpa using h)

theorem cnt_rep (n : Nat) : cnt (List.replicate n false) = n := by simp [cnt]

def lst (listed : Array Bool) (j : Nat) : Bool := listed.getD j false

theorem lst_set {listed : Array Bool} {i : Nat} (h : i < listed.size) : lst (listed.setIfInBounds i true) = addL (lst listed) i := by
  funext k
  unfold lst addL
  simp only [Array.getD_eq_getD_getElem?, Array.getElem?_setIfInBounds]
  by_cases e : k = i
  · subst e; simp [h]
  · simp [e, Ne.symm e]

theorem ready_iff {listed : Array Bool} {i : Nat} (hs : listed.size = ops.length) : i ∈ Region.ready .any ops.toArray listed ↔ i < ops.length ∧ lst listed i = false ∧ ∀ e ∈ direct ops i, lst listed e = true := by
  unfold Region.ready
  simp only [List.mem_filter, List.mem_range, List.size_toArray, Bool.and_eq_true]
  constructor
  · rintro ⟨h1, h2, h3⟩
    refine ⟨h1, ?_, ?_⟩
    · unfold lst
      have hlt : i < listed.size := by omega
      simp [Array.getD, hlt] at h2 ⊢
      exact h2
    · intro e he
      unfold direct at he
      obtain ⟨o, ho⟩ : ∃ o, ops[i]? = some o := ⟨_, List.getElem?_eq_getElem h1⟩
      rw [ho] at he
      simp only [List.mem_map, List.mem_filter] at he
      obtain ⟨ed, ⟨h4, h5⟩, rfl⟩ := he
      simp only [List.getElem?_toArray, ho, Option.map_some, Option.getD_some] at h3
      rw [Array.all_eq_true_iff_forall_mem] at h3
      have := h3 ed (by simpa using h4)
      unfold lst
      simpa [h5] using this
  · rintro ⟨h1, h2, h3⟩
    refine ⟨h1, ?_, ?_⟩
    · unfold lst at h2
      have hlt : i < listed.size := by omega
      simp [Array.getD, hlt] at h2 ⊢
      exact h2
    · obtain ⟨o, ho⟩ : ∃ o, ops[i]? = some o := ⟨_, List.getElem?_eq_getElem h1⟩
      simp only [List.getElem?_toArray, ho, Option.map_some, Option.getD_some]
      rw [Array.all_eq_true_iff_forall_mem]
      intro ed hed
      by_cases hb : Region.binds .any ed = true
      · have := h3 ed.on (by
          unfold direct
          rw [ho]
          simp only [List.mem_map, List.mem_filter]
          exact ⟨ed, ⟨by simpa using hed, hb⟩, rfl⟩)
        unfold lst at this
        simp [hb, this]
      · simp [hb]

/-- where nothing may come up any more, all is done -/
theorem all_listed (C : Ctx P ops N κ0 m R tbl) {listed : Array Bool} (hs : listed.size = ops.length) (h : Region.ready .any ops.toArray listed = []) : ∀ j, j < ops.length → lst listed j = true := by
  intro j
  induction j using Nat.strongRecOn with
  | _ j ih =>
    intro hj
    cases hl : lst listed j with
    | true => rfl
    | false =>
      have : j ∈ Region.ready .any ops.toArray listed := (ready_iff hs).2 ⟨hj, hl, fun e he => ih e (C.edges j hj e he) (by have := C.edges j hj e he; omega)⟩
      rw [h] at this; cases this

theorem cnt_lst {listed : Array Bool} (h : cnt listed.toList = 0) : ∀ j, j < listed.size → lst listed j = true := by
  intro j hj
  have := cnt_zero listed.toList h j listed[j] (by simp [hj])
  unfold lst
  simp [Array.getD, hj, this]

theorem cnt_add {listed : Array Bool} {i f : Nat} (hi : i < listed.size) (hl : lst listed i = false) (h : cnt listed.toList = f + 1) : cnt (listed.setIfInBounds i true).toList = f := by
  have h1 : listed.toList[i]? = some false := by
    unfold lst at hl
    simp [Array.getD, hi] at hl
    simp [hi, hl]
  have := cnt_set listed.toList i h1
  have e : (listed.setIfInBounds i true).toList = listed.toList.set i true := by simp
  rw [e]; omega

/-- the tail, one by one -/
theorem forced (C : Ctx P ops N κ0 m R tbl) : ∀ (f : Nat) (q : Nat) (listed : Array Bool) (a : Act) (w : World), m ≤ q → q ≤ ops.length → listed.size = ops.length → cnt listed.toList = f → (∀ j, lst listed j = decide (j < q)) →
    wpList P ops.toArray Q (ops.drop q) a w → wpAny P .any ops.toArray Q f listed a w := by
  intro f
  induction f with
  | zero =>
    intro q listed a w hmq hq hs hc hl hw
    have hqn : q = ops.length := by
      rcases Nat.lt_or_ge q ops.length with h | h
      · have := cnt_lst hc q (by omega)
        rw [hl] at this; simp at this
      · omega
    subst hqn
    rw [List.drop_length] at hw
    refine ⟨?_, hw⟩
    cases hr : Region.ready .any ops.toArray listed with
    | nil => rfl
    | cons i r =>
      have := (ready_iff hs).1 (by rw [hr]; exact .head _ : i ∈ Region.ready .any ops.toArray listed)
      have h1 := cnt_lst hc i (by omega)
      rw [this.2.1] at h1; cases h1
  | succ f ih =>
    intro q listed a w hmq hq hs hc hl hw
    constructor
    · intro hr
      have hqn : q = ops.length := by
        rcases Nat.lt_or_ge q ops.length with h | h
        · have := all_listed C hs hr q h
          rw [hl] at this; simp at this
        · omega
      subst hqn
      rw [List.drop_length] at hw
      exact hw
    · intro i hi
      obtain ⟨h1, h2, h3⟩ := (ready_iff hs).1 hi
      rw [hl] at h2
      have hiq : q ≤ i := by simpa using h2
      have hi' : i = q := by
        rcases Nat.lt_or_ge q i with h | h
        · exfalso
          have hdown : Down ops (lst listed) := fun j hj e he => by
            rw [hl] at hj ⊢
            simp only [decide_eq_true_eq] at hj ⊢
            have := C.edges j (by omega) e he; omega
          have := C.before hdown i h1 h3 q (C.tail i (by omega) h1 q h)
          rw [hl] at this; simp at this
        · omega
      subst hi'
      obtain ⟨o, ho⟩ : ∃ o, ops[i]? = some o := ⟨_, List.getElem?_eq_getElem h1⟩
      have hdrop : ops.drop i = o :: ops.drop (i + 1) := by
        rw [List.drop_eq_getElem_cons h1]; congr 1; exact (List.getElem?_eq_some_iff.1 ho).2
      rw [hdrop] at hw
      simp only [wpList] at hw
      have hnext : ∀ a w, wpList P ops.toArray Q (ops.drop (i + 1)) a w → wpAny P .any ops.toArray Q f (listed.setIfInBounds i true) a w := fun a w h => by
        refine ih (i + 1) _ a w (by omega) (by omega) (by simpa using hs) (cnt_add (by omega) (by rw [hl]; simp) hc) (fun j => ?_) h
        rw [lst_set (by omega)]
        unfold addL
        by_cases e : j = i
        · subst e; simp
        · rw [if_neg e, hl]
          by_cases h : j < i
          · simp [h]; omega
          · simp [h]; omega
      unfold wpOp
      simp only [List.getElem?_toArray, ho]
      split
      · rename_i hwt
        rw [if_pos hwt] at hw
        exact hw.imp (Oper.wp_mono hnext) id
      · rename_i hwt
        rw [if_neg hwt] at hw
        exact hnext _ _ hw

theorem quiet (C : Ctx P ops N κ0 m R tbl) (hend : ∀ ι a w, Holds All F ι ⟨N, (R m).t, (R m).H, κ0 + m⟩ a w → Ext All ι0 H0 κ0 w0 ι (R m).H (κ0 + m) w → wpList P ops.toArray Q (ops.drop m) a w) :
    ∀ (f : Nat) (listed : Array Bool) (ι : Names) (HD : Heap) (a : Act) (w : World), listed.size = ops.length → cnt listed.toList = f → Inv ops N κ0 m R F ι0 H0 w0 (lst listed) ι HD a w → wpAny P .any ops.toArray Q f listed a w := by
  intro f
  induction f with
  | zero =>
    intro listed ι HD a w hs hc I
    have hall : ∀ j, j < m → lst listed j = true := fun j hj => cnt_lst hc j (by have := C.mle; omega)
    obtain ⟨h1, h2⟩ := I.done C hall
    refine forced C 0 m listed a w (Nat.le_refl _) C.mle hs hc (fun j => ?_) (hend ι a w h1 h2)
    by_cases h : j < m
    · simp [hall j h, h]
    · cases hl : lst listed j with
      | false => simp [h]
      | true => exact absurd (I.only j hl) h
  | succ f ih =>
    intro listed ι HD a w hs hc I
    by_cases hall : ∀ j, j < m → lst listed j = true
    · obtain ⟨h1, h2⟩ := I.done C hall
      refine forced C (f + 1) m listed a w (Nat.le_refl _) C.mle hs hc (fun j => ?_) (hend ι a w h1 h2)
      by_cases h : j < m
      · simp [hall j h, h]
      · cases hl : lst listed j with
        | false => simp [h]
        | true => exact absurd (I.only j hl) h
    · have hex : ∃ j, j < m ∧ lst listed j = false := by
        refine Classical.byContradiction fun h => hall fun j hj => ?_
        cases hl : lst listed j with
        | true => rfl
        | false => exact absurd ⟨j, hj, hl⟩ h
      obtain ⟨j, hj, hlj⟩ := hex
      constructor
      · intro hr
        have := all_listed C hs hr j (by have := C.mle; omega)
        rw [hlj] at this; cases this
      · intro i hi
        obtain ⟨h1, h2, h3⟩ := (ready_iff hs).1 hi
        have him : i < m := by
          rcases Nat.lt_or_ge i m with h | h
          · exact h
          · have := C.before I.down i h1 h3 j (C.tail i h h1 j (by omega))
            rw [hlj] at this; cases this
        obtain ⟨o, ho⟩ := C.op him
        have hst := I.step (Q := Q) C him h2 h3 ho (wpAny P .any ops.toArray Q f (listed.setIfInBounds i true)) fun ι' HD' a' w' I' => by
          refine ih _ ι' HD' a' w' (by simpa using hs) (cnt_add (by omega) h2 hc) ?_
          rw [lst_set (by omega)]; exact I'
        unfold wpOp
        simp only [List.getElem?_toArray, ho]
        split
        · rename_i hwt; rw [if_pos hwt] at hst; exact .inl hst
        · rename_i hwt; rw [if_neg hwt] at hst; exact hst

end

section
variable {P : Program} {T : Tab} {Q : Exit → St → Prop}

theorem drawOk_spec {ops : List Oper} {tbl : List (List Nat)} {m : Nat} (h : drawOk ops tbl m = true) :
    m ≤ ops.length ∧ (∀ j, j < ops.length → ∀ e ∈ direct ops j, e < j) ∧ (∀ j, j < ops.length → ∀ i ∈ row tbl j, i < j ∧ (i ∈ direct ops j ∨ ∃ k ∈ direct ops j, i ∈ row tbl k)) ∧
      (∀ j, m ≤ j → j < ops.length → ∀ i, i < j → i ∈ row tbl j) ∧ (∀ i j, i < j → j < m → tmpConf ops i j = true → i ∈ row tbl j) := by
  unfold drawOk at h
  simp only [Bool.and_eq_true, decide_eq_true_eq, List.all_eq_true, List.mem_range, Bool.or_eq_true, List.contains_iff_mem, List.any_eq_true, Bool.not_eq_true'] at h
  obtain ⟨⟨h1, h2⟩, h3⟩ := h
  refine ⟨h1, fun j hj e he => (h2 j hj).1.1 e he, fun j hj i hi => ?_, fun j hm hj i hi => ?_, fun i j hij hj hc => ?_⟩
  · have := (h2 j hj).1.2 i hi
    exact ⟨this.1, this.2⟩
  · rcases (h2 j hj).2 with h | h
    · omega
    · exact h i hi
  · rcases h3 j hj i hij with h | h
    · rw [hc] at h; cases h
    · exact h

theorem tr_draw (hT : TabOk P T) (hm : P.follows .mixedOrders = true) {id : Nat} {l : List Oper} {N k m : Nat} {t : List (Nat × V)} {H : Heap} (tbl : List (List Nat)) (prs : List (Nat × Nat)) (hN : dstsLt l N = true) (hd : drawOk l tbl m = true) (hp : pairsOk l tbl prs m = true)
    (h : vcD T P l N k (l.take m) (fun t' H' lg => confQ prs lg ∧ vcL T P l N (l.drop m) (fun σ' => Q .normal σ') t' H' (k + m)) t H []) : Tr P (.region id l.toArray true) Q ⟨N, t, H, k⟩ := by
  intro F ι a w hh
  obtain ⟨d1, d2, d3, d4, d5⟩ := drawOk_spec hd
  obtain ⟨R, r0, r1, r2, r3⟩ := vcD_run hT l N _ (l.take m) k t H [] h
  have hlen : (l.take m).length = m := by rw [List.length_take]; omega
  rw [hlen] at r3
  simp only [List.nil_append] at r3
  obtain ⟨r3, r4⟩ := r3
  have hget : ∀ j, j < m → (l.take m)[j]? = l[j]? := fun j hj => by rw [List.getElem?_take, if_pos hj]
  have hlg : ∀ j, j < m → ((l.take m).mapIdx fun j o => logOf o (k + j) (R j))[j]? = some (lgOf l k R j) := fun j hj => by
    obtain ⟨o, ho⟩ : ∃ o, l[j]? = some o := ⟨_, List.getElem?_eq_getElem (by omega)⟩
    rw [List.getElem?_mapIdx, hget j hj, ho]
    simp [lgOf, ho]
  have C : Ctx P l N k m R tbl := by
    refine ⟨fun j hj o ho => r2 j o (by rw [hget j hj]; exact ho), d1, d2, d3, d4, d5, fun i j hij hj => ?_, dstsLt_spec hN, ?_, ?_⟩
    · have hp' := hp
      unfold pairsOk at hp'
      simp only [List.all_eq_true, List.mem_range, Bool.or_eq_true, Bool.and_eq_true] at hp'
      rcases hp' j hj i hij with (h1 | h1) | ⟨h1, h2⟩
      · exact .inl (by simpa using h1)
      · have := confQ_spec r3 i j (by simpa using h1)
        simp only [List.getD, hlg i (by omega), hlg j hj, Option.getD_some] at this
        exact .inr this
      · refine .inr (disj3_quiet ?_ ?_)
        · cases ho : l[i]? with
          | none => rw [ho] at h1; simp at h1
          | some o =>
            rw [ho] at h1
            have h1 : kindOf o.op = 0 := by simpa using h1
            simp only [lgOf, ho, logOf]
            split <;> simp [writes, h1]
        · cases ho : l[j]? with
          | none => rw [ho] at h2; simp at h2
          | some o =>
            rw [ho] at h2
            have h2 : kindOf o.op = 0 := by simpa using h2
            simp only [lgOf, ho, logOf]
            split <;> simp [writes, h2]
    · rw [r1]; exact hh.rep.names
    · rw [r1]
      intro n hn
      obtain ⟨⟨n', b⟩, hmem, he⟩ := List.mem_map.1 hn
      simp only at he; subst he
      obtain ⟨l', hl', _⟩ := hh.rep.own _ b hmem
      refine Nat.lt_of_not_le fun hk => ?_
      rw [hh.fresh _ trivial hk] at hl'; cases hl'
  refine wp_region_any hm ?_
  have hdrew : ({ w with drawn := w.drawn + 1 } : World) = w.drew := rfl
  rw [hdrew]
  obtain ⟨R', K'⟩ := hh.rep.later (w' := w.drew) rfl rfl rfl (Nat.le_refl _) fun _ _ => rfl
  have hfuel : cnt (Array.replicate l.toArray.size false).toList = l.toArray.size := by simp [cnt]
  have hsz : (Array.replicate l.toArray.size false).size = l.length := by simp
  refine quiet (F := F) (ι0 := ι) (H0 := H) (w0 := w) C ?_ l.toArray.size _ ι H a w.drew hsz hfuel ?_
  · intro ι' a' w' h1 h2
    refine vcL_sound hT l (l.drop m) _ ⟨N, (R m).t, (R m).H, k + m⟩ r4 (dstsLt_spec hN) F ι' a' w' h1 _ ?_
    intro ι'' σ'' a'' w'' hK hh'' hx
    exact ⟨ι'', σ'', hK, hh'', h2.trans hx⟩
  · have hl0 : ∀ j, lst (Array.replicate l.toArray.size false) j = false := fun j => by
      unfold lst
      simp only [Array.getD_eq_getD_getElem?, Array.getElem?_replicate]
      split <;> rfl
    refine ⟨fun j hj => by rw [hl0] at hj; (cases hj), fun j hj => by rw [hl0] at hj; (cases hj), hh.defers, hh.size, fun x => ?_, R', fun β => ?_, fun i hi _ => hh.fresh _ trivial (by simp only []; omega), fun n hn => hh.fresh n trivial (by simp only []; omega), K', fun _ _ => rfl, fun n hn => .inl hn⟩
    · rw [last_zero m fun q hq => by unfold pT; rw [hl0]; rfl, r0]
      exact (hh.tmps x).stays K'.stays
    · rw [last_zero m fun q hq => by unfold pH; rw [hl0]; rfl, r1]

/-- such a region, then what is behind it -/
theorem draw_k (hT : TabOk P T) (hm : P.follows .mixedOrders = true) {id : Nat} {l : List Oper} {y : Code} {N k : Nat} {t : List (Nat × V)} {H : Heap} (m : Nat) (tbl : List (List Nat)) (prs : List (Nat × Nat)) (hN : dstsLt l N = true) (hd : drawOk l tbl m = true) (hp : pairsOk l tbl prs m = true)
    (h : ∀ K : St → Prop, (∀ σ', Tr P y Q σ' → K σ') → vcD T P l N k (l.take m) (fun t' H' lg => confQ prs lg ∧ vcL T P l N (l.drop m) K t' H' (k + m)) t H []) :
    Tr P (.seq (.region id l.toArray true) y) Q ⟨N, t, H, k⟩ :=
  tr_seq (tr_draw hT hm tbl prs hN hd hp (h _ fun _ h => h))

end
section
variable {H H' : Heap} {T : Tab} {P : Program}
theorem callD_of {g : FuncId} {args : List V} {r : V} {K : V → Prop} (h : Pf P g args r) (k : K r) : @callD P g args H ⟨K⟩ := ⟨r, h.pfH H, k⟩
@[congr] theorem opVD_congr {t t' : List (Nat × V)} {k k' : Nat} {op : Op} {KA : V → Heap → Nat → Prop} (h1 : t = t') (h2 : H = H') (h3 : k = k') : opVD T P t H k op KA = opVD T P t' H' k' op KA := by rw [h1, h2, h3]
@[congr] theorem vcD_congr {ops l : List Oper} {N κ κ' : Nat} {K : List (Nat × V) → Heap → List (List Nat × List Nat) → Prop} {t t' : List (Nat × V)} {lg lg' : List (List Nat × List Nat)} (h0 : κ = κ') (h1 : t = t') (h2 : H = H') (h3 : lg = lg') : vcD T P ops N κ l K t H lg = vcD T P ops N κ' l K t' H' lg' := by rw [h0, h1, h2, h3]
end
attribute [go_sem] opVD vcD
attribute [go_sem] Op.operands Call.operands opTmps rtT V.nm atNm opNames pickH restH kindOf stepOk nextH writes disj disj3 confQ
end Go.Sl
