/- Values made of parts are compared cell by cell. -/
import Derived.Test.YtokdphmnlcmbbaaSl9
import Derived.ChangeKeysEq
set_option linter.unusedVariables false
set_option linter.unusedSimpArgs false
namespace Go.Sl

inductive EK where
  | int | bool | str

def eqSpecF (sp : TypeId → Option (List EK)) : Nat → List (TypeId × Nat × Nat) → Option (List EK)
  | _, [] => some []
  | off, (ft, o, n) :: r =>
    match sp ft, eqSpecF sp (off + n) r with
    | some s, some s' => if o = off ∧ s.length = n then some (s ++ s') else none
    | _, _ => none

/-- what stands in the cells of a type that is compared cell by cell -/
def eqSpec (T : Tab) : Nat → TypeId → Option (List EK)
  | 0, _ => none
  | d + 1, t =>
    match T t with
    | some ti =>
      match ti.d with
      | .int _ => some [.int]
      | .bool => some [.bool]
      | .string => some [.str]
      | .struct fs => eqSpecF (eqSpec T d) 0 fs
      | .array n e =>
        match eqSpec T d e, T e with
        | some s, some te => if s.length = te.size then some (List.replicate n s).flatten else none
        | _, _ => none
      | _ => none
    | none => none

def eqVals : List EK → List Value → List Value → Option Bool
  | [], [], [] => some true
  | .int :: r, .int k a :: xs, .int k' b :: ys => if k = k' then (eqVals r xs ys).map ((a == b) && ·) else none
  | .bool :: r, .bool a :: xs, .bool b :: ys => (eqVals r xs ys).map ((a == b) && ·)
  | .str :: r, .string a :: xs, .string b :: ys => (eqVals r xs ys).map ((a.toList == b.toList) && ·)
  | _, _, _ => none

def eqCells : List EK → List V → List V → Option Bool
  | [], [], [] => some true
  | .int :: r, .val (.int k a) :: xs, .val (.int k' b) :: ys => if k = k' then (eqCells r xs ys).map ((a == b) && ·) else none
  | .bool :: r, .val (.bool a) :: xs, .val (.bool b) :: ys => (eqCells r xs ys).map ((a == b) && ·)
  | .str :: r, .val (.string a) :: xs, .val (.string b) :: ys => (eqCells r xs ys).map ((a.toList == b.toList) && ·)
  | _, _, _ => none

section
variable {fr : Nat → Prop} {F : Nat → Prop} {ι ι' : Names} {O : Nat → Prop} {σ σ' : St} {a a' : Act} {w w' : World} {P : Program} {T : Tab}

theorem eqVals_of {sp : List EK} : ∀ {cs ds : List V} {vs us : List Value} {b : Bool}, eqCells sp cs ds = some b → VRels ι O w cs vs → VRels ι O w ds us → eqVals sp vs us = some b := by
  induction sp with
  | nil =>
    intro cs ds vs us b h h1 h2
    cases cs <;> cases ds <;> simp only [eqCells] at h <;> first | (cases h; done) | skip
    cases h1; cases h2; simpa [eqVals] using h
  | cons e sp ih =>
    intro cs ds vs us b h h1 h2
    cases cs with
    | nil => cases e <;> simp [eqCells] at h
    | cons c cs =>
      cases ds with
      | nil => cases e <;> simp [eqCells] at h
      | cons d ds =>
        cases h1 with
        | cons h1 h1s =>
        cases h2 with
        | cons h2 h2s =>
        unfold eqCells at h
        split at h
        · rename_i e1 _ _; cases e1
        · rename_i e1 e2 e3
          cases e1; cases e2; cases e3
          split at h
          · rename_i hk
            obtain ⟨b', hb', rfl⟩ := Option.map_eq_some_iff.1 h
            rw [h1.inv_val, h2.inv_val]
            simp [eqVals, hk, ih hb' h1s h2s]
          · cases h
        · rename_i e1 e2 e3
          cases e1; cases e2; cases e3
          obtain ⟨b', hb', rfl⟩ := Option.map_eq_some_iff.1 h
          rw [h1.inv_val, h2.inv_val]
          simp [eqVals, ih hb' h1s h2s]
        · rename_i e1 e2 e3
          cases e1; cases e2; cases e3
          obtain ⟨b', hb', rfl⟩ := Option.map_eq_some_iff.1 h
          rw [h1.inv_val, h2.inv_val]
          simp [eqVals, ih hb' h1s h2s]
        · cases h

theorem eqVals_len {sp : List EK} : ∀ {xs ys : List Value} {b : Bool}, eqVals sp xs ys = some b → xs.length = sp.length ∧ ys.length = sp.length := by
  induction sp with
  | nil => intro xs ys b h; cases xs <;> cases ys <;> simp_all [eqVals]
  | cons e sp ih =>
    intro xs ys b h
    unfold eqVals at h
    split at h
    · simp at *
    · rename_i e1
      cases e1
      split at h
      · obtain ⟨b', hb', _⟩ := Option.map_eq_some_iff.1 h
        have := ih hb'; simp [this.1, this.2]
      · cases h
    · rename_i e1
      cases e1
      obtain ⟨b', hb', _⟩ := Option.map_eq_some_iff.1 h
      have := ih hb'; simp [this.1, this.2]
    · rename_i e1
      cases e1
      obtain ⟨b', hb', _⟩ := Option.map_eq_some_iff.1 h
      have := ih hb'; simp [this.1, this.2]
    · cases h

theorem eqVals_split {s r : List EK} : ∀ {xs ys : List Value} {b : Bool}, eqVals (s ++ r) xs ys = some b →
    ∃ b1 b2, eqVals s (xs.take s.length) (ys.take s.length) = some b1 ∧ eqVals r (xs.drop s.length) (ys.drop s.length) = some b2 ∧ b = (b1 && b2) := by
  induction s with
  | nil => intro xs ys b h; exact ⟨true, b, by simp [eqVals], by simpa using h, by simp⟩
  | cons e s ih =>
    intro xs ys b h
    rw [List.cons_append] at h
    unfold eqVals at h
    split at h
    · simp at *
    · rename_i e1
      cases e1
      split at h
      · obtain ⟨b', hb', rfl⟩ := Option.map_eq_some_iff.1 h
        rename_i hk
        obtain ⟨b1, b2, h1, h2, rfl⟩ := ih hb'
        exact ⟨_, b2, by simp only [List.length_cons, List.take_succ_cons, eqVals, h1, if_pos hk, Option.map_some]; rfl, by simpa using h2, by simp [Bool.and_assoc]⟩
      · cases h
    · rename_i e1
      cases e1
      obtain ⟨b', hb', rfl⟩ := Option.map_eq_some_iff.1 h
      obtain ⟨b1, b2, h1, h2, rfl⟩ := ih hb'
      exact ⟨_, b2, by simp only [List.length_cons, List.take_succ_cons, eqVals, h1, Option.map_some]; rfl, by simpa using h2, by simp [Bool.and_assoc]⟩
    · rename_i e1
      cases e1
      obtain ⟨b', hb', rfl⟩ := Option.map_eq_some_iff.1 h
      obtain ⟨b1, b2, h1, h2, rfl⟩ := ih hb'
      exact ⟨_, b2, by simp only [List.length_cons, List.take_succ_cons, eqVals, h1, Option.map_some]; rfl, by simpa using h2, by simp [Bool.and_assoc]⟩
    · cases h

def wrapA (agg : Bool) (vs : List Value) : Value := if agg then .agg vs.toArray else vs.headD undef

theorem run_partW {t : TypeId} {ti : TI} (hti : tiOf P t = some ti) {xs : List Value} {off : Nat} (hin : off + ti.size ≤ xs.length) (h0 : ti.agg = true ∨ ti.size = 1) (w : World) :
    (part t xs.toArray off).run P w = .ok (wrapA ti.agg ((xs.drop off).take ti.size)) w := by
  unfold part wrapA
  by_cases hg : ti.agg = true
  · simp [run_isAgg hti, run_sizeOf hti, hg, List.extract_eq_take_drop]
  · have h1 : ti.size = 1 := h0.resolve_left hg
    have hlt : off < xs.length := by omega
    have hd : (xs.drop off).take ti.size = [xs[off]] := by
      rw [h1, List.drop_eq_getElem_cons hlt]; rfl
    rw [hd]
    simp [run_isAgg hti, hg, hlt]

def EqAt' (P : Program) (T : Tab) (D : Nat) (t : TypeId) (sp : List EK) : Prop :=
  ∀ ti, T t = some ti → (ti.agg = true ∨ sp.length = 1) ∧ ∀ w xs ys b, eqVals sp xs ys = some b → (Op.equalIn D t (wrapA ti.agg xs) (wrapA ti.agg ys)).run P w = .ok b w

theorem run_eqFields_spec (hT : TabOk P T) {sp : TypeId → Option (List EK)} {D : Nat} (hsp : ∀ t s, sp t = some s → (∃ ti, T t = some ti) ∧ EqAt' P T D t s) (w : World) {xs ys : List Value} :
    ∀ (gs : List Field) (off : Nat) (s : List EK), eqSpecF sp off (gs.map fun f => (f.type, f.offset, P.cellsOf f.type)) = some s → (∀ g ∈ gs, g.name ≠ "_") → ∀ b, eqVals s (xs.drop off) (ys.drop off) = some b → off ≤ xs.length → off ≤ ys.length →
      (Op.eqFields D xs.toArray ys.toArray gs).run P w = .ok b w
  | [], off, s, h, _, b, hb, _, _ => by
    simp only [List.map_nil, eqSpecF] at h
    cases h
    unfold eqVals at hb
    split at hb <;> simp_all [Op.eqFields]
  | g :: gs, off, s, h, hn, b, hb, hx, hy => by
    simp only [List.map_cons, eqSpecF] at h
    split at h
    · rename_i s1 s2 h1 h2
      split at h
      · rename_i hc
        obtain ⟨ho, hl⟩ := hc
        cases h
        obtain ⟨b1, b2, e1, e2, rfl⟩ := eqVals_split hb
        obtain ⟨⟨ti, ht⟩, hat⟩ := hsp _ _ h1
        obtain ⟨h3, h4⟩ := hat ti ht
        have hti := hT _ _ ht
        have hsz : P.cellsOf g.type = ti.size := by
          obtain ⟨d, i, z, hd, hi, hz, hs, ha, h1, h2, _⟩ := tiOf_spec hti
          simp [Program.cellsOf, hi, h2]
        have hlen := eqVals_len hb
        simp only [List.length_drop, List.length_append] at hlen
        have p1 := run_partW hti (xs := xs) (off := off) (by omega) (h3.imp id fun h => by omega) w
        have p2 := run_partW hti (xs := ys) (off := off) (by omega) (h3.imp id fun h => by omega) w
        have p3 := h4 w _ _ b1 e1
        have hnm := hn g (by simp)
        rw [show s1.length = ti.size by omega] at p3
        simp only [Op.eqFields, ne_eq, hnm, not_false_eq_true, if_true, Sem.run_bind, ho, p1, p2, Result.andThen_ok, p3]
        cases b1
        · simp
        · simp only [Bool.not_true, Bool.false_eq_true, if_false, Bool.true_and]
          refine run_eqFields_spec hT hsp w gs _ s2 h2 (fun g' hg' => hn g' (by simp [hg'])) b2 ?_ (by omega) (by omega)
          rw [← hl, ← List.drop_drop, ← List.drop_drop]; exact e2
      · cases h
    · cases h

theorem run_eqItems_spec (hT : TabOk P T) {e : TypeId} {te : TI} (he : T e = some te) {s : List EK} {D : Nat} (hat : EqAt' P T D e s) (hl : s.length = te.size) (w : World) {xs ys : List Value} :
    ∀ (n j : Nat) (b : Bool), eqVals (List.replicate n s).flatten (xs.drop (j * te.size)) (ys.drop (j * te.size)) = some b → j * te.size ≤ xs.length → j * te.size ≤ ys.length →
      (Op.eqItems D e te.size xs.toArray ys.toArray (List.range' j n)).run P w = .ok b w
  | 0, j, b, hb, _, _ => by
    simp only [List.replicate_zero, List.flatten_nil] at hb
    unfold eqVals at hb
    split at hb <;> simp_all [Op.eqItems]
  | n + 1, j, b, hb, hx, hy => by
    rw [List.replicate_succ, List.flatten_cons] at hb
    obtain ⟨b1, b2, e1, e2, rfl⟩ := eqVals_split hb
    obtain ⟨h3, h4⟩ := hat te he
    have hti := hT _ _ he
    have hlen := eqVals_len hb
    simp only [List.length_drop, List.length_append] at hlen
    have p1 := run_partW hti (xs := xs) (off := j * te.size) (by omega) (h3.imp id fun h => by omega) w
    have p2 := run_partW hti (xs := ys) (off := j * te.size) (by omega) (h3.imp id fun h => by omega) w
    have p3 := h4 w _ _ b1 e1
    rw [hl] at p3
    simp only [List.range'_succ, Op.eqItems, Sem.run_bind, p1, p2, Result.andThen_ok, p3]
    have hs : (j + 1) * te.size = j * te.size + te.size := by rw [Nat.add_mul]; simp
    cases b1
    · simp
    · simp only [Bool.not_true, Bool.false_eq_true, if_false, Bool.true_and]
      refine run_eqItems_spec hT he hat hl w n (j + 1) b2 ?_ (by omega) (by omega)
      rw [hs, ← hl, ← List.drop_drop, ← List.drop_drop]; rw [hl]; rw [hl] at e2; exact e2

theorem run_equalIn_spec (hT : TabOk P T) : ∀ (d : Nat) (t : TypeId) (sp : List EK), eqSpec T d t = some sp → ∀ D, d ≤ D → (∃ ti, T t = some ti) ∧ EqAt' P T D t sp
  | 0, t, sp, h, _, _ => by simp [eqSpec] at h
  | d + 1, t, sp, h, D, hD => by
    obtain ⟨D, rfl⟩ : ∃ E, D = E + 1 := ⟨D - 1, by omega⟩
    unfold eqSpec at h
    split at h
    · rename_i ti ht
      refine ⟨⟨ti, ht⟩, fun ti' ht' => ?_⟩
      rw [ht] at ht'; cases ht'
      have hti := hT _ _ ht
      obtain ⟨u, i, z, hu, hi, hz, hs, ha, h1, h2, h3, h4, h5⟩ := tiOf_spec hti
      have leaf : ∀ (k : EK), ti.agg = false → sp = [k] → (∀ w (x y : Value) b, eqVals [k] [x] [y] = some b → (Op.equalIn (D + 1) t x y).run P w = .ok b w) →
          (ti.agg = true ∨ sp.length = 1) ∧ ∀ w xs ys b, eqVals sp xs ys = some b → (Op.equalIn (D + 1) t (wrapA ti.agg xs) (wrapA ti.agg ys)).run P w = .ok b w := by
        intro k hg hk hr
        subst hk
        refine ⟨.inr rfl, fun w xs ys b hb => ?_⟩
        have hl := eqVals_len hb
        match xs, ys, hl with
        | [x], [y], _ => simpa [wrapA, hg] using hr w x y b hb
      split at h
      · rename_i kd hd
        cases h
        have hu' : ∃ k', P.underlying t = some (.int k') := by rw [hu]; cases u <;> simp_all [Go.Sl.D.of]
        obtain ⟨k', hu'⟩ := hu'
        refine leaf .int (by simp [TI.agg, hd]) rfl fun w x y b hb => ?_
        unfold eqVals at hb
        split at hb
        · simp at *
        · rename_i e1 e2 e3
          cases e1; cases e2; cases e3
          split at hb
          · rename_i hk; subst hk
            simp only [eqVals, Option.map_some, Bool.and_true, Option.some.injEq] at hb
            subst hb
            exact run_equalIn_int w D t _ k' _ _ hu'
          · cases hb
        · rename_i e1 _ _; cases e1
        · rename_i e1 _ _; cases e1
        · cases hb
      · rename_i hd
        cases h
        have hu' : P.underlying t = some .bool := by rw [hu]; cases u <;> simp_all [Go.Sl.D.of]
        refine leaf .bool (by simp [TI.agg, hd]) rfl fun w x y b hb => ?_
        unfold eqVals at hb
        split at hb
        · simp at *
        · rename_i e1 _ _; cases e1
        · rename_i e1 e2 e3
          cases e1; cases e2; cases e3
          simp only [eqVals, Option.map_some, Bool.and_true, Option.some.injEq] at hb
          subst hb
          exact run_equalIn_bool' w D t _ _ hu'
        · rename_i e1 _ _; cases e1
        · cases hb
      · rename_i hd
        cases h
        have hu' : P.underlying t = some .string := by rw [hu]; cases u <;> simp_all [Go.Sl.D.of]
        refine leaf .str (by simp [TI.agg, hd]) rfl fun w x y b hb => ?_
        unfold eqVals at hb
        split at hb
        · simp at *
        · rename_i e1 _ _; cases e1
        · rename_i e1 _ _; cases e1
        · rename_i e1 e2 e3
          cases e1; cases e2; cases e3
          simp only [eqVals, Option.map_some, Bool.and_true, Option.some.injEq] at hb
          subst hb
          exact run_equalIn_string w D t _ _ hu'
        · cases hb
      · rename_i fs hd
        have hg : ti.agg = true := by simp [TI.agg, hd]
        refine ⟨.inl hg, fun w xs ys b hb => ?_⟩
        obtain ⟨gs, hgs⟩ : ∃ gs, u = .struct gs := by cases u <;> simp_all [Go.Sl.D.of]
        subst hgs
        have hpl := tiOf_plain hti hu
        simp only [plainD, Bool.and_eq_true, Bool.not_eq_true', List.all_eq_true, bne_iff_ne, ne_eq] at hpl
        have hfo : P.fieldsOf t = gs := by simp [Program.fieldsOf, hu]
        simp only [wrapA, hg, if_true]
        rw [run_equalIn_struct w D t _ _ (by rw [hfo]; exact hu) hpl.1, hfo]
        have hfs : fs = gs.toList.map fun f => (f.type, f.offset, P.cellsOf f.type) := by
          rw [hd] at h1; simp only [Go.Sl.D.of, Go.Sl.D.struct.injEq] at h1; exact h1
        rw [hfs] at h
        exact run_eqFields_spec hT (sp := eqSpec T d) (fun t' s' hs' => run_equalIn_spec hT d t' s' hs' D (by omega)) w gs.toList 0 sp h hpl.2 b (by simpa using hb) (by simp) (by simp)
      · rename_i n e hd
        have hg : ti.agg = true := by simp [TI.agg, hd]
        refine ⟨.inl hg, fun w xs ys b hb => ?_⟩
        split at h
        · rename_i s te hs' hte
          split at h
          · rename_i hl
            cases h
            have hu' : P.underlying t = some (.array n e) := by rw [hu]; cases u <;> simp_all [Go.Sl.D.of]
            obtain ⟨_, i', _, _, hi', _, _, _, _, hsz, _⟩ := tiOf_spec (hT _ _ hte)
            simp only [wrapA, hg, if_true]
            rw [run_equalIn_array w D _ _ hu' hi']
            have hc : P.cellsOf e = te.size := by simp [Program.cellsOf, hi', hsz]
            rw [hc, List.range_eq_range']
            exact run_eqItems_spec hT hte (run_equalIn_spec hT d e s hs' D (by omega)).2 hl w n 0 b (by simpa using hb) (by simp) (by simp)
          · cases h
        · cases h
      · cases h
    · cases h

theorem eqGuard_spec (hT : TabOk P T) : ∀ (d : Nat) (t : TypeId) (sp : List EK), eqSpec T d t = some sp → ∀ D, d ≤ D → P.eqGuardType D t = false
  | 0, t, sp, h, _, _ => by simp [eqSpec] at h
  | d + 1, t, sp, h, D, hD => by
    obtain ⟨D, rfl⟩ : ∃ E, D = E + 1 := ⟨D - 1, by omega⟩
    unfold eqSpec at h
    split at h
    · rename_i ti ht
      have hti := hT _ _ ht
      obtain ⟨u, i, z, hu, hi, hz, hs, ha, h1, h2, h3, h4, h5⟩ := tiOf_spec hti
      unfold Program.eqGuardType
      split at h <;> rename_i hd
      · have hu' : ∃ k', P.underlying t = some (.int k') := by rw [hu]; cases u <;> simp_all [Go.Sl.D.of]
        obtain ⟨k', hu'⟩ := hu'
        simp [hu']
      · have hu' : P.underlying t = some .bool := by rw [hu]; cases u <;> simp_all [Go.Sl.D.of]
        simp [hu']
      · have hu' : P.underlying t = some .string := by rw [hu]; cases u <;> simp_all [Go.Sl.D.of]
        simp [hu']
      · rename_i fs
        obtain ⟨gs, hgs⟩ : ∃ gs, u = .struct gs := by cases u <;> simp_all [Go.Sl.D.of]
        subst hgs
        have hfs : fs = gs.toList.map fun f => (f.type, f.offset, P.cellsOf f.type) := by
          rw [hd] at h1; simp only [Go.Sl.D.of, Go.Sl.D.struct.injEq] at h1; exact h1
        rw [hfs] at h
        have key : ∀ (l : List Field) (off : Nat) (s : List EK), eqSpecF (eqSpec T d) off (l.map fun f => (f.type, f.offset, P.cellsOf f.type)) = some s → ∀ g ∈ l, P.eqGuardType D g.type = false := by
          intro l
          induction l with
          | nil => intro off s _ g hg; simp at hg
          | cons x l ih =>
            intro off s hs g hg
            simp only [List.map_cons, eqSpecF] at hs
            split at hs
            · rename_i s1 s2 e1 e2
              rcases List.mem_cons.1 hg with rfl | hg
              · exact eqGuard_spec hT d _ s1 e1 D (by omega)
              · exact ih _ _ e2 g hg
            · cases hs
        simp only [hu]
        rw [Array.any_eq_false']
        intro g hg
        simp [key gs.toList 0 sp h g (by simpa using hg)]
      · rename_i n e
        split at h
        · rename_i s te hs' hte
          have hu' : P.underlying t = some (.array n e) := by rw [hu]; cases u <;> simp_all [Go.Sl.D.of]
          simp only [hu']
          exact eqGuard_spec hT d e s hs' D (by omega)
        · cases h
      · cases h
    · cases h

theorem op_eqA (hT : TabOk P T) {o : Oper} {K : V → Heap → Nat → Prop} (op : BinOp) (t u : TypeId) (x y : Operand) (ho : o.op = .binOp op t x y u) {ti : TI} (ht : T t = some ti) (hg : ti.agg = true) {sp : List EK} (hsp : eqSpec T 16 t = some sp) {cs ds : List V} (hx : evalV σ.t x = .agg cs) (hy : evalV σ.t y = .agg ds) {b : Bool} (hb : eqCells sp cs ds = some b)
    (h : op = .eql ∧ K (.val (.bool b)) σ.H σ.k ∨ op = .neq ∧ K (.val (.bool !b)) σ.H σ.k) : OpT fr P o σ K := by
  have hdep : 16 ≤ P.depth := by unfold Program.depth Made.depth; omega
  have hm := eqGuard_spec hT 16 t sp hsp P.depth hdep
  have hq := (run_equalIn_spec hT 16 t sp hsp 10000 (by omega)).2 ti ht
  rcases h with ⟨rfl, hk⟩ | ⟨rfl, hk⟩ <;>
  · refine opT_pure hk fun F ι a w hh => ?_
    have he := hh.eval x
    have hi := hh.eval y
    rw [hx] at he; rw [hy] at hi
    refine ⟨_, ?_, .val _ rfl⟩
    generalize hva : a.eval x = va at he
    generalize hvb : a.eval y = vb at hi
    cases he with
    | agg h1 =>
    cases hi with
    | agg h2 =>
    rename_i vs us
    have hr := hq.2 w _ _ b (eqVals_of hb h1 h2)
    simp only [wrapA, hg, if_true] at hr
    unfold execOp; rw [ho]
    first
      | simp only [hva, hvb, Sem.run_bind, run_eqGuard_agg w _ t x y _ _ hm, Result.andThen_ok, run_eql_struct, hr, Sem.run_pure]; done
      | (simp only [hva, hvb, Sem.run_bind, run_eqGuard_agg w _ t x y _ _ hm, Result.andThen_ok, run_eql_struct, hr, Sem.run_pure]; rfl)
      | simp only [hva, hvb, Sem.run_bind, run_eqGuard_agg w _ t x y _ _ hm, Result.andThen_ok, run_neq_struct, hr, Sem.run_pure]; done
      | (simp only [hva, hvb, Sem.run_bind, run_eqGuard_agg w _ t x y _ _ hm, Result.andThen_ok, run_neq_struct, hr, Sem.run_pure]; rfl)

end
end Go.Sl
