/- Texts put together, in order: Sl9c, Sl9d, Sl9e, Sl9f, Sl10, Sl11, T, Sl12, Sl13. -/
import Derived.Maps.RangeRun
import Derived.DeepKeys3
import Derived.MapKept
import Derived.Laws.Strings
import Derived.Test.YtjhnpebgfjefoaaDoorProg
import Derived.KernelRfl
import Derived.Test.YtjhnpebgfjefoaaDoorI1
set_option linter.unusedVariables false
set_option linter.unusedSimpArgs false
namespace Go.Sl
variable [Md]
section
variable {fr : Nat → Prop} {F : Nat → Prop} {ι ι' : Names} {O : Nat → Prop} {σ σ' : St} {a a' : Act} {w w' : World} {P : Program} {T : Tab}
omit [Md] in
theorem barr_ext {a b : ByteArray} (h : a.toList = b.toList) : a = b := by
 rw [ByteArray.toList_eq, ByteArray.toList_eq] at h
 exact WideShapes.bytes_inj h
omit [Md] in
theorem eqVals_same : ∀ {sp : List EK} {xs ys : List Value}, eqVals sp xs ys = some true → xs = ys
 | [], xs, ys, h => by unfold eqVals at h; split at h <;> simp_all
 | e :: sp, xs, ys, h => by
  unfold eqVals at h
  split at h
  ·simp at *
  ·rename_i e1
   split at h
   ·rename_i hk
    obtain ⟨b, hb, hb'⟩ := Option.map_eq_some_iff.1 h
    simp only [Bool.and_eq_true, beq_iff_eq] at hb'
    obtain ⟨rfl, rfl⟩ := hb'
    cases e1
    rw [eqVals_same hb, hk]
   ·cases h
  ·rename_i e1
   obtain ⟨b, hb, hb'⟩ := Option.map_eq_some_iff.1 h
   simp only [Bool.and_eq_true, beq_iff_eq] at hb'
   obtain ⟨rfl, rfl⟩ := hb'
   cases e1
   rw [eqVals_same hb]
  ·rename_i e1
   obtain ⟨b, hb, hb'⟩ := Option.map_eq_some_iff.1 h
   simp only [Bool.and_eq_true, beq_iff_eq] at hb'
   obtain ⟨h1, rfl⟩ := hb'
   cases e1
   rw [eqVals_same hb, barr_ext h1]
  ·cases h
omit [Md] in
theorem eqVals_flat : ∀ {sp : List EK} {xs ys : List Value} {b : Bool}, eqVals sp xs ys = some b → ∀ n, ∀ x ∈ xs, Instr.sameBits n x x = true
 | [], xs, ys, b, h, n, x, hx => by unfold eqVals at h; split at h <;> simp_all
 | e :: sp, xs, ys, b, h, n, x, hx => by
  unfold eqVals at h
  split at h
  ·simp at *
  ·split at h
   ·obtain ⟨b, hb, _⟩ := Option.map_eq_some_iff.1 h
    rcases List.mem_cons.1 hx with rfl | hx
    ·simp [Instr.sameBits]
    ·rename_i e1 _ _ _; cases e1; exact eqVals_flat hb n x hx
   ·cases h
  ·obtain ⟨b, hb, _⟩ := Option.map_eq_some_iff.1 h
   rcases List.mem_cons.1 hx with rfl | hx
   ·simp [Instr.sameBits]
   ·rename_i e1 _ _; cases e1; exact eqVals_flat hb n x hx
  ·obtain ⟨b, hb, _⟩ := Option.map_eq_some_iff.1 h
   rcases List.mem_cons.1 hx with rfl | hx
   ·simp [Instr.sameBits, (MapKept.bytes_beq _ _).2]
   ·rename_i e1 _ _; cases e1; exact eqVals_flat hb n x hx
  ·cases h
def ChkAt (P : Program) (T : Tab) (D : Nat) (t : TypeId) (sp : List EK) : Prop :=
 ∀ ti, T t = some ti → (ti.agg = true ∨ sp.length = 1) ∧ ∀ em w xs ys b, eqVals sp xs ys = some b → (Instr.checkKey em D t (wrapA ti.agg xs)).run P w = .ok () w
omit [Md] in
theorem run_forYield {α : Type} (w : World) (body : α → PUnit → Sem (ForInStep PUnit)) : ∀ (l : List α), (∀ x ∈ l, (body x PUnit.unit).run P w = .ok (ForInStep.yield PUnit.unit) w) → (forIn l PUnit.unit body).run P w = .ok PUnit.unit w
 | [], _ => by simp
 | x :: l, h => by
  have ih := run_forYield w body l fun y hy => h y (by simp [hy])
  simp only [List.forIn_cons, Sem.run_bind, h x (by simp), Result.andThen_ok]
  exact ih
omit [Md] in
theorem chkFields_each (hT : TabOk P T) {sp : TypeId → Option (List EK)} {D : Nat} (hsp : ∀ t s, sp t = some s → (∃ ti, T t = some ti) ∧ ChkAt P T D t s) (em : Bool) (w : World) {xs ys : List Value} :
    ∀ (gs : List Field) (off : Nat) (s : List EK), eqSpecF sp off (gs.map fun f => (f.type, f.offset, P.cellsOf f.type)) = some s → ∀ b, eqVals s (xs.drop off) (ys.drop off) = some b → off ≤ xs.length →
      ∀ g ∈ gs, ∃ v, (part g.type xs.toArray g.offset).run P w = .ok v w ∧ (Instr.checkKey em D g.type v).run P w = .ok () w
  | [], off, s, h, b, hb, _ => by simp
  | g :: gs, off, s, h, b, hb, hx => by
    simp only [List.map_cons, eqSpecF] at h
    split at h
    · rename_i s1 s2 h1 h2
      split at h
      · rename_i hc
        obtain ⟨ho, hl⟩ := hc
        cases h
        obtain ⟨b1, b2, e1, e2, rfl⟩ := eqVals_split hb
        obtain ⟨⟨ti, ht⟩, hat⟩ := hsp _ _ h1
        obtain ⟨h3, h4⟩ := hat ti ht
        have hti := hT _ _ ht
        have hsz : P.cellsOf g.type = ti.size := by
          obtain ⟨d, i, z, hd, hi, hz, hs, ha, h1, h2, _⟩ := tiOf_spec hti
          simp [Program.cellsOf, hi, h2]
        have hlen := eqVals_len hb
        simp only [List.length_drop, List.length_append] at hlen
        have p1 := run_partW hti (xs := xs) (off := off) (by omega) (h3.imp id fun h => by omega) w
        have p3 := h4 em w _ _ b1 e1
        rw [show s1.length = ti.size by omega] at p3
        have ih := chkFields_each hT hsp em w gs (off + P.cellsOf g.type) s2 h2 b2 (xs := xs) (ys := ys) (by rw [← hl, ← List.drop_drop, ← List.drop_drop]; exact e2) (by omega)
        intro g' hg'
        rcases List.mem_cons.1 hg' with rfl | hg'
        · exact ⟨_, by rw [ho]; exact p1, p3⟩
        · exact ih g' hg'
      · cases h
    · cases h
omit [Md] in
theorem chkItems_each (hT : TabOk P T) {e : TypeId} {te : TI} (he : T e = some te) {s : List EK} {D : Nat} (hat : ChkAt P T D e s) (hl : s.length = te.size) (em : Bool) (w : World) {xs ys : List Value} :
    ∀ (n j : Nat) (b : Bool), eqVals (List.replicate n s).flatten (xs.drop (j * te.size)) (ys.drop (j * te.size)) = some b → j * te.size ≤ xs.length →
      ∀ i ∈ List.range' j n, ∃ v, (part e xs.toArray (i * te.size)).run P w = .ok v w ∧ (Instr.checkKey em D e v).run P w = .ok () w
  | 0, j, b, hb, _ => by simp
  | n + 1, j, b, hb, hx => by
    rw [List.replicate_succ, List.flatten_cons] at hb
    obtain ⟨b1, b2, e1, e2, rfl⟩ := eqVals_split hb
    obtain ⟨h3, h4⟩ := hat te he
    have hti := hT _ _ he
    have hlen := eqVals_len hb
    simp only [List.length_drop, List.length_append] at hlen
    have p1 := run_partW hti (xs := xs) (off := j * te.size) (by omega) (h3.imp id fun h => by omega) w
    have p3 := h4 em w _ _ b1 e1
    rw [hl] at p3
    have hs : (j + 1) * te.size = j * te.size + te.size := by rw [Nat.add_mul]; simp
    have ih := chkItems_each hT he hat hl em w n (j + 1) b2 (xs := xs) (ys := ys) (by rw [hs, ← hl, ← List.drop_drop, ← List.drop_drop]; rw [hl]; rw [hl] at e2; exact e2) (by omega)
    intro i hi
    rw [List.range'_succ] at hi
    rcases List.mem_cons.1 hi with rfl | hi
    · exact ⟨_, p1, p3⟩
    · exact ih i hi
omit [Md] in
theorem run_checkKey_spec (hT : TabOk P T) : ∀ (d : Nat) (t : TypeId) (sp : List EK), eqSpec T d t = some sp → ∀ D, d ≤ D → (∃ ti, T t = some ti) ∧ ChkAt P T D t sp
  | 0, t, sp, h, _, _ => by simp [eqSpec] at h
  | d + 1, t, sp, h, D, hD => by
    obtain ⟨D, rfl⟩ : ∃ E, D = E + 1 := ⟨D - 1, by omega⟩
    unfold eqSpec at h
    split at h
    · rename_i ti ht
      refine ⟨⟨ti, ht⟩, fun ti' ht' => ?_⟩
      rw [ht] at ht'; cases ht'
      have hti := hT _ _ ht
      obtain ⟨u, i, z, hu, hi, hz, hs, ha, h1, h2, h3, h4, h5⟩ := tiOf_spec hti
      have leaf : ∀ (k : EK), ti.agg = false → sp = [k] → (∀ em w (x y : Value) b, eqVals [k] [x] [y] = some b → (Instr.checkKey em (D + 1) t x).run P w = .ok () w) →
          (ti.agg = true ∨ sp.length = 1) ∧ ∀ em w xs ys b, eqVals sp xs ys = some b → (Instr.checkKey em (D + 1) t (wrapA ti.agg xs)).run P w = .ok () w := by
        intro k hg hk hr
        subst hk
        refine ⟨.inr rfl, fun em w xs ys b hb => ?_⟩
        have hl := eqVals_len hb
        match xs, ys, hl with
        | [x], [y], _ => simpa [wrapA, hg] using hr em w x y b hb
      have scal : ∀ em w (x : Value), (match u with | .int _ => True | .bool => True | .string => True | _ => False) → (Instr.checkKey em (D + 1) t x).run P w = .ok () w := by
        intro em w x hsc
        unfold Instr.checkKey
        simp only [Sem.run_bind, run_underlying hu, Result.andThen_ok]
        cases u <;> first | exact hsc.elim | (cases x <;> simp)
      split at h
      · rename_i kd hd
        cases h
        exact leaf .int (by simp [TI.agg, hd]) rfl fun em w x y b hb => scal em w x (by cases u <;> simp_all [Go.Sl.D.of])
      · rename_i hd
        cases h
        exact leaf .bool (by simp [TI.agg, hd]) rfl fun em w x y b hb => scal em w x (by cases u <;> simp_all [Go.Sl.D.of])
      · rename_i hd
        cases h
        exact leaf .str (by simp [TI.agg, hd]) rfl fun em w x y b hb => scal em w x (by cases u <;> simp_all [Go.Sl.D.of])
      · rename_i fs hd
        have hg : ti.agg = true := by simp [TI.agg, hd]
        refine ⟨.inl hg, fun em w xs ys b hb => ?_⟩
        obtain ⟨gs, hgs⟩ : ∃ gs, u = .struct gs := by cases u <;> simp_all [Go.Sl.D.of]
        subst hgs
        have hpl := tiOf_plain hti hu
        simp only [plainD, Bool.and_eq_true, Bool.not_eq_true', List.all_eq_true, bne_iff_ne, ne_eq] at hpl
        simp only [wrapA, hg, if_true]
        have hfs : fs = gs.toList.map fun f => (f.type, f.offset, P.cellsOf f.type) := by
          rw [hd] at h1; simp only [Go.Sl.D.of, Go.Sl.D.struct.injEq] at h1; exact h1
        rw [hfs] at h
        have key := chkFields_each hT (sp := eqSpec T d) (fun t' s' hs' => run_checkKey_spec hT d t' s' hs' D (by omega)) em w gs.toList 0 sp h b (xs := xs) (ys := ys) (by simpa using hb) (by simp)
        unfold Instr.checkKey
        simp only [Sem.run_bind, run_underlying hu, Result.andThen_ok]
        rw [← Array.forIn_toList]
        rw [run_forYield w _ gs.toList fun g hg => by
          obtain ⟨v, p1, p2⟩ := key g hg
          simp [hpl.2 g hg, p1, p2]]
        rfl
      · rename_i n e hd
        have hg : ti.agg = true := by simp [TI.agg, hd]
        refine ⟨.inl hg, fun em w xs ys b hb => ?_⟩
        split at h
        · rename_i s te hs' hte
          split at h
          · rename_i hl
            cases h
            have hu' : P.underlying t = some (.array n e) := by rw [hu]; cases u <;> simp_all [Go.Sl.D.of]
            obtain ⟨_, i', _, _, hi', _, _, _, _, hsz, _⟩ := tiOf_spec (hT _ _ hte)
            simp only [wrapA, hg, if_true]
            have key := chkItems_each hT hte (run_checkKey_spec hT d e s hs' D (by omega)).2 hl em w n 0 b (xs := xs) (ys := ys) (by simpa using hb) (by simp)
            unfold Instr.checkKey
            simp only [Sem.run_bind, run_underlying hu', Result.andThen_ok]
            simp only [Std.Legacy.Range.forIn_eq_forIn_range', Std.Legacy.Range.size, Nat.sub_zero, Nat.add_one_sub_one, Nat.div_one]
            rw [run_forYield w _ (List.range' 0 n) fun i hi => by
              obtain ⟨v, p1, p2⟩ := key i hi
              simp [run_sizeOf (hT _ _ hte), p1, p2]]
            rfl
          · cases h
        · cases h
      · cases h
    · cases h
def findV (sp : List EK) (cs : List V) : List (V × V) → Option (Option V)
 | [] => some none
 | (.agg ds, v) :: r =>
  match eqCells sp cs ds with
  | some true => some (some v)
  | some false => findV sp cs r
  | none => none
 | _ => none
def insV (sp : List EK) (cs : List V) (v : V) : List (V × V) → Option (List (V × V))
 | [] => some [(.agg cs, v)]
 | (.agg ds, u) :: r =>
  match eqCells sp cs ds with
  | some true => some ((.agg ds, v) :: r)
  | some false => (insV sp cs v r).map ((.agg ds, u) :: ·)
  | none => none
 | _ => none
end
end Go.Sl
namespace Go.Sl
variable [Md]
section
variable {fr : Nat → Prop} {F : Nat → Prop} {ι ι' : Names} {O : Nat → Prop} {H : Heap} {σ σ' : St} {a a' : Act} {w w' : World} {P : Program} {T : Tab}
theorem out_newObj (hfr : fr σ.k) (hh : Holds fr F ι σ a w) (l : Loc) (hl : l.b = w.heap.size) (b : B) (o : Obj) (hb : ∀ ι' O', Stays ι (Own F ι σ.H) w ι' O' (w.alloc o) → BRel ι' O' (w.alloc o) l b)
    {v : V} {cv : Value} (hcv : ∀ ι', ι' σ.k = some l → VRel ι' (Own F ι' ((σ.k, b) :: σ.H)) (w.alloc o) v cv) :
    Out fr F ι σ.H σ.k w (upd ι σ.k l) v cv ((σ.k, b) :: σ.H) (σ.k + 1) (w.alloc o) := by
  have hk := hh.fresh σ.k hfr (Nat.le_refl _)
  have hhp : ∀ i, i < w.heap.size → (w.alloc o).heap[i]? = w.heap[i]? := fun i hi => by rw [show (w.alloc o).heap = w.heap.push o from rfl, Array.getElem?_push, if_neg (Nat.ne_of_lt hi)]
  have hsz : (w.alloc o).heap.size = w.heap.size + 1 := World.size_alloc w o
  refine ⟨⟨kept_alloc hh.rep hk _ _ hl rfl (Tp.same rfl rfl) rfl (by omega) hhp, Nat.le_succ _, fun n hn => upd_other _ _ _ _ (fun e => by subst e; have := hn hfr; omega), ?_⟩, ?_, ?_, hcv _ (upd_same _ _ _)⟩
  · intro n hn
    simp only [List.map_cons, List.mem_cons] at hn
    rcases hn with hn | hn
    · subst hn; exact .inr ⟨hfr, by omega⟩
    · exact .inl hn
  · exact hh.rep.alloc hk _ _ hl rfl (Tp.same rfl rfl) rfl (by omega) hhp hb
  · intro n hf hn
    rw [upd_other _ _ _ _ (by omega)]
    exact hh.fresh n hf (by omega)
theorem op_makeMap (hfr : fr σ.k) {o : Oper} {K : V → Heap → Nat → Prop} (t : TypeId) (ho : o.op = .makeMap t none) (hk : K (.map σ.k) ((σ.k, .map []) :: σ.H) (σ.k + 1)) : OpT fr P o σ K :=
 opT_run fun F ι a w hh => by
  refine ⟨_, _, _, _, _, _, ?_, hk, out_newObj hfr hh ⟨w.heap.size, 0, 0, 0, false, true⟩ rfl (.map []) (.map #[] 0) ?_ (cv := .map (some w.heap.size)) ?_⟩
  ·unfold execOp; rw [ho]; simp [Instr.makeMap]
  ·intro ι' O' S
   exact ⟨rfl, rfl, #[], by rw [show (w.alloc (.map #[] 0)).heap = w.heap.push (.map #[] 0) from rfl, Array.getElem?_push, if_pos rfl]; rfl, .nil, .nil, rfl⟩
  ·intro ι' h; exact .map h rfl rfl
omit [Md] in
theorem Rep.mapAt (R : Rep F ι H w) {n : Nat} {es : List (V × V)} (h : look n H = some (.map es)) {l : Loc} (hl : ι n = some l) :
    l.ghost = false ∧ l.map = true ∧ ∃ mes : Array MapEntry, w.heap[l.b]? = some (.map mes mes.size) ∧ VRels ι (Own F ι H) w (es.map (·.1)) (mes.toList.map (·.key)) ∧
      VRels ι (Own F ι H) w (es.map (·.2)) (mes.toList.map (·.val)) ∧ mes.toList.map (·.born) = List.range mes.size := by
  obtain ⟨l', hl', hB, _⟩ := R.known h
  rw [hl] at hl'; cases hl'
  exact hB
structure MapT (P : Program) (T : Tab) (t : TypeId) (sp : List EK) (te : TI) (kt et : TypeId) : Prop where
 u : P.underlying t = some (.map kt et)
 sp : eqSpec T 16 kt = some sp
 agg : ∃ ti, T kt = some ti ∧ ti.agg = true
 e : tiOf P et = some te
omit [Md] in
theorem run_find (hT : TabOk P T) {kt : TypeId} {sp : List EK} (hsp : eqSpec T 16 kt = some sp) {ti : TI} (hti : T kt = some ti) (hg : ti.agg = true) (w : World) {cs : List V} {xs : List Value} (hx : VRels ι O w cs xs) :
    ∀ (es : List (V × V)) (mes : List MapEntry) (i : Nat) (r : Option V), VRels ι O w (es.map (·.1)) (mes.map (·.key)) → VRels ι O w (es.map (·.2)) (mes.map (·.val)) → findV sp cs es = some r →
      (r = none ∧ (Instr.findAsking kt (.agg xs.toArray) mes i).run P w = .ok none w) ∨ ∃ v q x, r = some v ∧ (Instr.findAsking kt (.agg xs.toArray) mes i).run P w = .ok (some (q, x)) w ∧ VRel ι O w v x
  | [], mes, i, r, h1, _, hf => by
    have : mes = [] := by cases mes with | nil => rfl | cons => simp at h1; cases h1
    subst this
    simp only [findV] at hf
    cases hf
    exact .inl ⟨rfl, by simp [Instr.findAsking]⟩
  | (k, v) :: es, mes, i, r, h1, h2, hf => by
    cases mes with
    | nil => simp at h1; cases h1
    | cons e mes =>
      simp only [List.map_cons] at h1 h2
      cases h1 with
      | cons hk1 h1 =>
      cases h2 with
      | cons hv1 h2 =>
      unfold findV at hf
      split at hf
      · simp at *
      · rename_i ds v' r' he
        cases he
        have hq := (run_equalIn_spec hT 16 kt sp hsp 10000 (by omega)).2 ti hti
        generalize hky : e.key = ky at hk1
        cases hk1 with
        | agg hk1 =>
        have hcell : ∀ b, eqCells sp cs ds = some b → (Op.equal kt (.agg xs.toArray) e.key).run P w = .ok b w := fun b hb => by
          have hr := hq.2 w _ _ b (eqVals_of hb hx hk1)
          simp only [wrapA, hg, if_true] at hr
          rw [hky]; exact hr
        split at hf
        · rename_i hb
          cases hf
          exact .inr ⟨_, i, e.val, rfl, by simp [Instr.findAsking, hcell true hb], hv1⟩
        · rename_i hb
          rcases run_find hT hsp hti hg w hx es mes (i + 1) r h1 h2 hf with ⟨h3, h4⟩ | ⟨u, q, x, h3, h4, h5⟩
          · exact .inl ⟨h3, by simp [Instr.findAsking, hcell false hb, h4]⟩
          · exact .inr ⟨u, q, x, h3, by simp [Instr.findAsking, hcell false hb, h4], h5⟩
        · cases hf
      · cases hf
omit [Md] in
theorem wide_of {kt : TypeId} {ti : TI} (hti : tiOf P kt = some ti) (hg : ti.agg = true) : (match P.underlying kt with | some (.array _ _) | some (.struct _) => true | _ => false) = true := by
 obtain ⟨d, i, z, hd, hi, hz, _, _, h1, _⟩ := tiOf_spec hti
 unfold TI.agg at hg
 rw [h1] at hg
 rw [hd]
 cases d <;> simp_all [D.of]
omit [Md] in
theorem zeroV_rel {t : TypeId} {ti : TI} (hti : tiOf P t = some ti) (ι : Names) (O : Nat → Prop) (w : World) : ∃ z, (zeroValue t).run P w = .ok z w ∧ VRel ι O w ti.zeroV z := by
 obtain ⟨d, i, z, hd, hi, hz, hs, ha, h1, h2, h3, h4, h5⟩ := tiOf_spec hti
 have hone := (zero_oneCell hti).1
 refine ⟨z, by simp [zeroValue, typeInfo, hi, hz], ?_⟩
 unfold TI.zeroV
 have hag : ti.agg = valAgg z := by
  rw [h5]; unfold TI.agg; rw [h1]
  cases d <;> rfl
 rw [hag]
 cases z with
 | agg c =>
  rw [if_pos (show valAgg (.agg c) = true from rfl), h4]
  have := VRel.agg (VRels.vals (ι := ι) (O := O) (w := w) (xs := c.toList) fun v hv => hone v (by rw [h4]; exact hv))
  simpa [Value.cells] using this
 | _ =>
  rw [if_neg (by simp [valAgg]), h4]
  exact .val _ (hone _ (by rw [h4]; simp [Value.cells]))
theorem op_lookup (hT : TabOk P T) {o : Oper} {K : V → Heap → Nat → Prop} (t : TypeId) (m x : Operand) (ok : Bool) (ho : o.op = .lookup t m x ok) {tm : TI} (htm : tiOf P t = some tm) {kt et : TypeId} (hd : tm.d = .map kt et) {sp : List EK} (hsp : eqSpec T 16 kt = some sp) {ti : TI} (hti : T kt = some ti) (hg : ti.agg = true)
    {te : TI} (hte : tiOf P et = some te) {n : Nat} {es : List (V × V)} (hm : evalV σ.t m = .map n) (hn : look n σ.H = some (.map es)) {cs : List V} (hx : evalV σ.t x = .agg cs) {b : Bool} (hself : eqCells sp cs cs = some b) {r : Option V} (hf : findV sp cs es = some r)
    (hk : K (if ok then .tup [r.getD te.zeroV, .val (.bool r.isSome)] else r.getD te.zeroV) σ.H σ.k) : OpT fr P o σ K :=
  opT_pure hk fun F ι a w hh => by
    have he := hh.eval m
    have hy := hh.eval x
    rw [hm] at he; rw [hx] at hy
    generalize hcv : a.eval m = cv at he
    generalize hcx : a.eval x = cx at hy
    cases hy with
    | agg hy =>
    cases he with
    | map hl hgh hmp =>
    rename_i vs l
    obtain ⟨_, _, mes, hw, h1, h2, h3⟩ := hh.rep.mapAt hn hl
    have hu : P.underlying t = some (.map kt et) := by
      obtain ⟨d, i, z, hd', hi, hz, _, _, h1, _⟩ := tiOf_spec htm
      rw [hd] at h1
      rw [hd']; cases d <;> simp_all [D.of]
    have hck := ((run_checkKey_spec hT 16 kt sp hsp 10000 (by omega)).2 ti hti).2 mes.isEmpty w _ _ b (eqVals_of hself hy hy)
    simp only [wrapA, hg, if_true] at hck
    have hfk := run_findKey_eq (P := P) (w := w) (wide_of (hT _ _ hti) hg) (.agg vs.toArray) mes.toList
    obtain ⟨z, hz, hzv⟩ := zeroV_rel hte ι (Own F ι σ.H) w
    rcases run_find hT hsp hti hg w hy es mes.toList 0 r (by simpa using h1) (by simpa using h2) hf with ⟨rfl, h4⟩ | ⟨u, q, y, rfl, h4, h5⟩
    · rw [h4] at hfk
      cases ok
      · refine ⟨z, ?_, by simpa using hzv⟩
        unfold execOp; rw [ho]
        simp [hcv, hcx, Instr.lookup, run_underlying hu, getObj, Sem.run, hw, hck, hfk, hz]
      · refine ⟨.tuple #[z, .bool false], ?_, ?_⟩
        · unfold execOp; rw [ho]
          simp [hcv, hcx, Instr.lookup, run_underlying hu, getObj, Sem.run, hw, hck, hfk, hz]
        · exact .tup (.cons hzv (.cons (.val _ rfl) .nil))
    · rw [h4] at hfk
      cases ok
      · refine ⟨y, ?_, by simpa using h5⟩
        unfold execOp; rw [ho]
        simp [hcv, hcx, Instr.lookup, run_underlying hu, getObj, Sem.run, hw, hck, hfk]
      · refine ⟨.tuple #[y, .bool true], ?_, ?_⟩
        · unfold execOp; rw [ho]
          simp [hcv, hcx, Instr.lookup, run_underlying hu, getObj, Sem.run, hw, hck, hfk]
        · exact .tup (.cons h5 (.cons (.val _ rfl) .nil))
omit [Md] in
theorem run_ins (hT : TabOk P T) {kt : TypeId} {sp : List EK} (hsp : eqSpec T 16 kt = some sp) {ti : TI} (hti : T kt = some ti) (hg : ti.agg = true) (w : World) {cs : List V} {xs : List Value} (hx : VRels ι O w cs xs) {v : V} {x : Value} (hv : VRel ι O w v x) :
    ∀ (es : List (V × V)) (mes : List MapEntry) (i : Nat) (es' : List (V × V)), VRels ι O w (es.map (·.1)) (mes.map (·.key)) → VRels ι O w (es.map (·.2)) (mes.map (·.val)) → insV sp cs v es = some es' →
      ((Instr.findAsking kt (.agg xs.toArray) mes i).run P w = .ok none w ∧ es' = es ++ [(.agg cs, v)]) ∨
      ∃ q u, (Instr.findAsking kt (.agg xs.toArray) mes i).run P w = .ok (some (i + q, u)) w ∧ (∃ e, mes[q]? = some e ∧ e.key = .agg xs.toArray) ∧ es'.map (·.1) = es.map (·.1) ∧ ∃ l1 y l2, es.map (·.2) = l1 ++ y :: l2 ∧ l1.length = q ∧ es'.map (·.2) = l1 ++ v :: l2
  | [], mes, i, es', h1, _, hf => by
    have : mes = [] := by cases mes with | nil => rfl | cons => simp at h1; cases h1
    subst this
    simp only [insV] at hf
    cases hf
    exact .inl ⟨by simp [Instr.findAsking], rfl⟩
  | (k, v0) :: es, mes, i, es', h1, h2, hf => by
    cases mes with
    | nil => simp at h1; cases h1
    | cons e mes =>
      simp only [List.map_cons] at h1 h2
      cases h1 with
      | cons hk1 h1 =>
      cases h2 with
      | cons hv1 h2 =>
      unfold insV at hf
      split at hf
      · simp at *
      · rename_i ds v' r' he
        cases he
        have hq := (run_equalIn_spec hT 16 kt sp hsp 10000 (by omega)).2 ti hti
        generalize hky : e.key = ky at hk1
        cases hk1 with
        | agg hk1 =>
        have hcell : ∀ b, eqCells sp cs ds = some b → (Op.equal kt (.agg xs.toArray) e.key).run P w = .ok b w := fun b hb => by
          have hr := hq.2 w _ _ b (eqVals_of hb hx hk1)
          simp only [wrapA, hg, if_true] at hr
          rw [hky]; exact hr
        split at hf
        · rename_i hb
          cases hf
          refine .inr ⟨0, e.val, by simp [Instr.findAsking, hcell true hb], ⟨e, rfl, ?_⟩, rfl, [], _, _, rfl, rfl, rfl⟩
          rw [hky, ← eqVals_same (eqVals_of hb hx hk1)]
        · rename_i hb
          obtain ⟨r, hr, rfl⟩ := Option.map_eq_some_iff.1 hf
          rcases run_ins hT hsp hti hg w hx hv es mes (i + 1) r h1 h2 hr with ⟨h3, rfl⟩ | ⟨q, u, h3, ⟨e', he1, he2⟩, h4, l1, y, l2, h5, h6, h7⟩
          · exact .inl ⟨by simp [Instr.findAsking, hcell false hb, h3], rfl⟩
          · refine .inr ⟨q + 1, u, ?_, ⟨e', by simpa using he1, he2⟩, by simp [h4], _ :: l1, y, l2, by simp only [List.map_cons, h5]; rfl, by simp [h6], by simp only [List.map_cons, h7]; rfl⟩
            simp [Instr.findAsking, hcell false hb, h3]; omega
        · cases hf
      · cases hf
omit [Md] in
theorem VRels.put_at {l1 l2 : List V} {y v : V} {xs : List Value} {x : Value} (h : VRels ι O w (l1 ++ y :: l2) xs) (hv : VRel ι O w v x) : VRels ι O w (l1 ++ v :: l2) (xs.set l1.length x) := by
 induction l1 generalizing xs with
 | nil => cases h with | cons h hs => exact .cons hv hs
 | cons a l1 ih => cases h with | cons h hs => exact .cons h (ih hs)
theorem op_mapUpdate (hT : TabOk P T) {o : Oper} {K : V → Heap → Nat → Prop} (t : TypeId) (m x y : Operand) (ho : o.op = .mapUpdate t m x y) {tm : TI} (htm : tiOf P t = some tm) {kt et : TypeId} (hd : tm.d = .map kt et) {sp : List EK} (hsp : eqSpec T 16 kt = some sp) {ti : TI} (hti : T kt = some ti) (hg : ti.agg = true)
    {n : Nat} {es es' : List (V × V)} (hm : evalV σ.t m = .map n) (hn : look n σ.H = some (.map es)) {cs : List V} (hx : evalV σ.t x = .agg cs) {b : Bool} (hself : eqCells sp cs cs = some b) (hf : insV sp cs (evalV σ.t y) es = some es')
    (hk : K (.tup []) (put n (.map es') σ.H) σ.k) : OpT fr P o σ K :=
  opT_skip fun F ι a w hh => by
    have he := hh.eval m
    have hy := hh.eval x
    have hv := hh.eval y
    rw [hm] at he; rw [hx] at hy
    generalize hcv : a.eval m = cv at he
    generalize hcx : a.eval x = cx at hy
    generalize hcy : a.eval y = cy at hv
    generalize evalV σ.t y = v at hf hv
    cases hy with
    | agg hy =>
    cases he with
    | map hl hgh hmp =>
    rename_i vs l
    obtain ⟨_, _, mes, hw, h1, h2, h3⟩ := hh.rep.mapAt hn hl
    have hu : P.underlying t = some (.map kt et) := by
      obtain ⟨d, i, z, hd', hi, hz, _, _, h1, _⟩ := tiOf_spec htm
      rw [hd] at h1
      rw [hd']; cases d <;> simp_all [D.of]
    have hck := ((run_checkKey_spec hT 16 kt sp hsp 10000 (by omega)).2 ti hti).2 false w _ _ b (eqVals_of hself hy hy)
    simp only [wrapA, hg, if_true] at hck
    have hflat := eqVals_flat (eqVals_of hself hy hy)
    have hfk := run_findKey_eq (P := P) (w := w) (wide_of (hT _ _ hti) hg) (.agg vs.toArray) mes.toList
    have hlt : l.b < w.heap.size := by
      have := Array.getElem?_eq_some_iff.1 hw; exact this.1
    have hmem := look_mem hn
    have hset : ∀ ob : Obj, (setObj l.b ob).run P w = .ok () { w with heap := w.heap.setIfInBounds l.b ob } := fun ob => by simp [setObj, Sem.run, hw]
    have fin : ∀ (mes' : Array MapEntry), VRels ι (Own F ι σ.H) w (es'.map (·.1)) (mes'.toList.map (·.key)) → VRels ι (Own F ι σ.H) w (es'.map (·.2)) (mes'.toList.map (·.val)) → mes'.toList.map (·.born) = List.range mes'.size →
        Out fr F ι σ.H σ.k w ι (.tup []) undef (put n (.map es') σ.H) σ.k { w with heap := w.heap.setIfInBounds l.b (.map mes' mes'.size) } := fun mes' g1 g2 g3 => by
      have hoth : ∀ q, q < w.heap.size → q ≠ l.b → (w.heap.setIfInBounds l.b (Obj.map mes' mes'.size))[q]? = w.heap[q]? := fun q _ hq => by
        rw [Array.getElem?_setIfInBounds, if_neg (Ne.symm hq)]
      refine ⟨⟨kept_put hmem hl hgh hh.rep.names rfl (Tp.same rfl rfl) rfl (by simp) hoth, Nat.le_refl _, fun _ _ => rfl, fun m hm => .inl (by rw [names_put] at hm; exact hm)⟩, hh.rep.put hmem hl hgh rfl (Tp.same rfl rfl) rfl (by simp) hoth fun O' S => ?_, hh.fresh, VRel.tup .nil⟩
      exact ⟨hgh, hmp, mes', by show (w.heap.setIfInBounds l.b _)[l.b]? = _; rw [Array.getElem?_setIfInBounds, if_pos rfl, if_pos hlt], g1.stays S, g2.stays S, g3⟩
    rcases run_ins hT hsp hti hg w hy hv es mes.toList 0 es' (by simpa using h1) (by simpa using h2) hf with ⟨h4, rfl⟩ | ⟨q, u, h4, ⟨e, he1, he2⟩, h5, l1, y0, l2, h6, h7, h8⟩
    · rw [h4] at hfk
      refine ⟨ι, .tup [], _, σ.k, _, ?_, hk, fin (mes.push ⟨.agg vs.toArray, cy, mes.size⟩) ?_ ?_ ?_⟩
      · unfold execOp; rw [ho]
        simp [hcv, hcx, hcy, Instr.mapUpdate, run_underlying hu, getObj, Sem.run, hw, hck, hfk, hset]
      · simpa using h1.snoc (.agg hy)
      · simpa using h2.snoc hv
      · simp [List.range_succ, h3]
    · rw [h4] at hfk
      have hq : q < mes.size := by have := (List.getElem?_eq_some_iff.1 he1).1; simpa using this
      have hek : mes[q]? = some e := by rw [← Array.getElem?_toList]; exact he1
      have hkt : (Instr.keyThatStays ((Option.map (·.key) mes[q]?).getD (.agg vs.toArray)) (.agg vs.toArray)).run P w = .ok (.agg vs.toArray) w := by
        rw [hek]
        simp only [Option.map_some, Option.getD_some, he2]
        have hsb : Instr.sameBits 10000 (.agg vs.toArray) (.agg vs.toArray) = true := by
          rw [Instr.sameBits]
          simp only [beq_self_eq_true, Bool.true_and, List.all_eq_true]
          intro p hp
          obtain ⟨p1, p2⟩ := p
          have hz : p1 = p2 ∧ p1 ∈ vs := by
            have := List.mem_iff_getElem?.1 hp
            obtain ⟨i, hi⟩ := this
            rw [List.getElem?_zip_eq_some] at hi
            obtain ⟨a1, a2⟩ := hi
            rw [a1] at a2
            exact ⟨Option.some.inj a2, by simpa using List.mem_of_getElem? a1⟩
          obtain ⟨rfl, hm⟩ := hz
          exact hflat 9999 p1 hm
        unfold Instr.keyThatStays
        rw [if_pos hsb]; rfl
      refine ⟨ι, .tup [], _, σ.k, _, ?_, hk, fin (mes.modify q fun e => { e with key := .agg vs.toArray, val := cy }) ?_ ?_ ?_⟩
      · unfold execOp; rw [ho]
        simp only [Nat.zero_add] at hfk
        simp [hcv, hcx, hcy, Instr.mapUpdate, run_underlying hu, getObj, Sem.run, hw, hck, hfk, hkt, hset]
      · have e1 : (mes.modify q fun e => { e with key := .agg vs.toArray, val := cy }).toList.map (·.key) = mes.toList.map (·.key) := by
          rw [Array.toList_modify]
          apply List.ext_getElem?
          intro i
          simp only [List.getElem?_map, List.getElem?_modify]
          by_cases hi : q = i
          · subst hi; simp [hek, he2]
          · simp [hi]
        rw [e1, h5]; simpa using h1
      · have e1 : (mes.modify q fun e => { e with key := .agg vs.toArray, val := cy }).toList.map (·.val) = (mes.toList.map (·.val)).set q cy := by
          rw [Array.toList_modify]
          apply List.ext_getElem?
          intro i
          rw [List.getElem?_set]
          simp only [List.getElem?_map, List.getElem?_modify, List.length_map, Array.length_toList]
          by_cases hi : q = i
          · subst hi; simp [hek, hq]
          · simp [hi]
        rw [e1, h8, ← h7]
        rw [h6] at h2
        exact VRels.put_at (by simpa using h2) hv
      · have e1 : (mes.modify q fun e => { e with key := .agg vs.toArray, val := cy }).toList.map (·.born) = mes.toList.map (·.born) := by
          rw [Array.toList_modify]
          apply List.ext_getElem?
          intro i
          simp only [List.getElem?_map, List.getElem?_modify]
          by_cases hi : q = i
          · subst hi; simp [hek]
          · simp [hi]
        rw [e1, h3]; simp
theorem op_range (hfr : fr σ.k) {o : Oper} {K : V → Heap → Nat → Prop} (t : TypeId) (m : Operand) (ho : o.op = .range t m) {tm : TI} (htm : tiOf P t = some tm) {kt et : TypeId} (hd : tm.d = .map kt et) {n : Nat} {es : List (V × V)} (hm : evalV σ.t m = .map n) (hn : look n σ.H = some (.map es))
    (hk : K (.ptr σ.k 0 0) ((σ.k, .iter n [] es.length) :: σ.H) (σ.k + 1)) : OpT fr P o σ K :=
  opT_run fun F ι a w hh => by
    have he := hh.eval m
    rw [hm] at he
    generalize hcv : a.eval m = cv at he
    cases he with
    | map hl hgh hmp =>
    rename_i lm
    obtain ⟨_, _, mes, hw, h1, h2, h3⟩ := hh.rep.mapAt hn hl
    have hu : P.underlying t = some (.map kt et) := by
      obtain ⟨d, i, z, hd', hi, hz, _, _, h1, _⟩ := tiOf_spec htm
      rw [hd] at h1
      rw [hd']; cases d <;> simp_all [D.of]
    have hlen : es.length = mes.size := by have := h1.length; simpa using this
    refine ⟨_, _, _, _, _, _, ?_, hk, out_newObj hfr hh ⟨w.heap.size, 0, 0, 0, false, false⟩ rfl (.iter n [] es.length) (.mapIter (some lm.b) mes.size #[] mes.size) ?_ (cv := .pointer (some ⟨w.heap.size, 0, none⟩)) ?_⟩
    · unfold execOp; rw [ho]; simp [hcv, Instr.range, run_underlying hu, getObj, Sem.run, hw]
    · intro ι' O' S
      refine ⟨rfl, rfl, rfl, lm, S.le _ _ hl, hgh, ?_⟩
      rw [show (w.alloc (.mapIter (some lm.b) mes.size #[] mes.size)).heap = w.heap.push (.mapIter (some lm.b) mes.size #[] mes.size) from rfl, Array.getElem?_push, if_pos rfl, hlen]
    · intro ι' h; exact .ptr h rfl rfl (by simp)
omit [Md] in
theorem Rep.iterAt (R : Rep F ι H w) {r m n : Nat} {done : List Nat} (h : look r H = some (.iter m done n)) {l : Loc} (hl : ι r = some l) :
    l.ghost = false ∧ l.map = false ∧ l.o = 0 ∧ ∃ lm, ι m = some lm ∧ lm.ghost = false ∧ w.heap[l.b]? = some (.mapIter (some lm.b) n done.toArray n) := by
  obtain ⟨l', hl', hB, _⟩ := R.known h
  rw [hl] at hl'; cases hl'
  exact hB
omit [Md] in
theorem left_nil {mes : Array MapEntry} {done : List Nat} (h3 : mes.toList.map (·.born) = List.range mes.size) (h : (leftOf mes done.toArray).size = 0) : ∀ i, i < mes.size → i ∈ done := by
 intro i hi
 have hb : mes[i].born = i := by
  have := congrArg (·[i]?) h3
  simp [hi] at this
  exact this
 refine Classical.byContradiction fun hc => ?_
 have hm : mes[i] ∈ leftOf mes done.toArray := by
  unfold leftOf
  rw [Array.mem_filter]
  refine ⟨Array.getElem_mem hi, ?_⟩
  simpa [hb] using hc
 have : leftOf mes done.toArray = #[] := Array.eq_empty_of_size_eq_zero h
 rw [this] at hm
 simp at hm
omit [Md] in
theorem left_mem {mes : Array MapEntry} {done : List Nat} (h3 : mes.toList.map (·.born) = List.range mes.size) {e : MapEntry} (h : e ∈ (leftOf mes done.toArray).toList) : ∃ i, mes[i]? = some e ∧ e.born = i ∧ i ∉ done := by
 unfold leftOf at h
 have h' : e ∈ mes.filter (fun e => !done.toArray.contains e.born) := by simpa using h
 rw [Array.mem_filter] at h'
 obtain ⟨h1, h2⟩ := h'
 obtain ⟨i, hi, rfl⟩ := Array.mem_iff_getElem.1 h1
 have hb : mes[i].born = i := by
  have := congrArg (·[i]?) h3
  simp [hi] at this
  exact this
 exact ⟨i, by simp [hi], hb, by rw [hb] at h2; simpa using h2⟩
theorem op_next {o : Oper} {K : V → Heap → Nat → Prop} (t : Operand) (ho : o.op = .next t false) {r m n : Nat} {done : List Nat} {es : List (V × V)} (hx : evalV σ.t t = .ptr r 0 0) (hr : look r σ.H = some (.iter m done n)) (hm : look m σ.H = some (.map es)) (hn : es.length = n)
    (h0 : (∀ i, i < n → i ∈ done) → K (.tup [.val (.bool false)]) σ.H σ.k)
    (h1 : ∀ i p, es[i]? = some p → i ∉ done → K (.tup [.val (.bool true), p.1, p.2]) (put r (.iter m (done ++ [i]) n) σ.H) σ.k) : OpT fr P o σ K :=
  opT_run fun F ι a w hh => by
    have he := hh.eval t
    rw [hx] at he
    generalize hcv : a.eval t = cv at he
    cases he with
    | ptr hl hg hmp hoff =>
    rename_i off l
    obtain ⟨_, _, hlo, lm, hlm, hgm, hw⟩ := hh.rep.iterAt hr hl
    obtain ⟨_, _, mes, hwm, e1, e2, e3⟩ := hh.rep.mapAt hm hlm
    have hlen : es.length = mes.size := by have := e1.length; simpa using this
    have hoff0 : off = 0 := by rw [hoff, hlo]; simp
    subst hoff0
    have hns : n = mes.size := by omega
    subst hns
    have hold : ∀ x ∈ mes.toList, x.born < mes.size := fun x hx => by
      have : x.born ∈ mes.toList.map (·.born) := List.mem_map.2 ⟨x, hx, rfl⟩
      rw [e3] at this; simpa using this
    have hrun : (execOp a.eval o).run P w = ((Instr.next (.pointer (some ⟨l.b, 0, none⟩)) false o.type).run P w).andThen fun v w' => .ok (.value v) w' := by
      unfold execOp; rw [ho]; simp [hcv]
    have hmemr := look_mem hr
    have hlt : l.b < w.heap.size := (Array.getElem?_eq_some_iff.1 hw).1
    rcases run_next_at (P := P) w o.type l.b lm.b mes.size mes.size done.toArray mes mes.size hw hwm hold (Nat.le_refl _) with ⟨h2, h3⟩ | ⟨e, h2, w1, h3, h4⟩
    · refine ⟨ι, _, .tuple #[.bool false], σ.H, σ.k, w, by rw [hrun, h3]; rfl, h0 (left_nil e3 h2), hh.same (.tup (.cons (.val _ rfl) .nil))⟩
    · obtain ⟨i, hi, hb, hnd⟩ := left_mem e3 h2
      have hil : i < mes.size := (Array.getElem?_eq_some_iff.1 hi).1
      obtain ⟨p, hp⟩ : ∃ p, es[i]? = some p := ⟨_, List.getElem?_eq_getElem (by omega)⟩
      have hil2 : mes.toList[i]? = some e := by rw [Array.getElem?_toList]; exact hi
      obtain ⟨x1, hx1, hv1⟩ := e1.get i p.1 (by simp [hp])
      obtain ⟨x2, hx2, hv2⟩ := e2.get i p.2 (by simp [hp])
      have hx1' : x1 = e.key := by rw [List.getElem?_map, hil2] at hx1; simpa using hx1.symm
      have hx2' : x2 = e.val := by rw [List.getElem?_map, hil2] at hx2; simpa using hx2.symm
      subst hx1' hx2'
      have hw1 : w1.heap = w.heap ∧ w1.os = w.os ∧ Tp w w1 ∧ w1.output = w.output := by rcases h3 with rfl | rfl; exact ⟨rfl, rfl, Tp.refl _, rfl⟩; exact ⟨rfl, rfl, Tp.drew _, rfl⟩
      obtain ⟨g1, g2, g3, g4⟩ := hw1
      have hoth : ∀ q, q < w.heap.size → q ≠ l.b → (ChangeMaps.setBlock w1 l.b (Obj.mapIter (some lm.b) mes.size (done.toArray.push e.born) mes.size)).heap[q]? = w.heap[q]? := fun q _ hq => by
        show (w1.heap.setIfInBounds l.b _)[q]? = _
        rw [Array.getElem?_setIfInBounds, if_neg (Ne.symm hq), g1]
      have hsz : w.heap.size ≤ (ChangeMaps.setBlock w1 l.b (Obj.mapIter (some lm.b) mes.size (done.toArray.push e.born) mes.size)).heap.size := by
        show _ ≤ (w1.heap.setIfInBounds l.b _).size
        rw [Array.size_setIfInBounds, g1]; exact Nat.le_refl _
      have K1 := kept_put (w' := ChangeMaps.setBlock w1 l.b (Obj.mapIter (some lm.b) mes.size (done.toArray.push e.born) mes.size)) (b' := .iter m (done ++ [i]) mes.size) hmemr hl hg hh.rep.names g2 g3 g4 hsz hoth
      refine ⟨ι, _, .tuple #[.bool true, e.key, e.val], _, σ.k, ChangeMaps.setBlock w1 l.b (Obj.mapIter (some lm.b) mes.size (done.toArray.push e.born) mes.size), by rw [hrun, h4]; rfl, h1 i p hp hnd, ⟨K1, Nat.le_refl _, fun _ _ => rfl, fun m hm => .inl (by rw [names_put] at hm; exact hm)⟩,
        hh.rep.put (w' := ChangeMaps.setBlock w1 l.b (Obj.mapIter (some lm.b) mes.size (done.toArray.push e.born) mes.size)) hmemr hl hg g2 g3 g4 hsz hoth fun O' S => ⟨hg, hmp, hlo, lm, hlm, hgm, ?_⟩, hh.fresh, ?_⟩
      · show (w1.heap.setIfInBounds l.b _)[l.b]? = _
        rw [Array.getElem?_setIfInBounds, if_pos rfl, if_pos (by rw [g1]; exact hlt), hb]
        simp
      · exact .tup (.cons (.val _ rfl) (.cons (hv1.stays K1.stays) (.cons (hv2.stays K1.stays) .nil)))
theorem op_entry {o : Oper} {K : V → Heap → Nat → Prop} (t : Operand) (ho : o.op = .entry t) {r m n i : Nat} {done : List Nat} {es : List (V × V)} (hx : evalV σ.t t = .ptr r 0 0) (hr : look r σ.H = some (.iter m (done ++ [i]) n)) (hm : look m σ.H = some (.map es)) (hn : es.length = n)
    {p : V × V} (hp : es[i]? = some p) (hk : K (.tup [p.1, p.2]) σ.H σ.k) : OpT fr P o σ K :=
  opT_pure hk fun F ι a w hh => by
    have he := hh.eval t
    rw [hx] at he
    generalize hcv : a.eval t = cv at he
    cases he with
    | ptr hl hg hmp hoff =>
    rename_i off l
    obtain ⟨_, _, hlo, lm, hlm, hgm, hw⟩ := hh.rep.iterAt hr hl
    obtain ⟨_, _, mes, hwm, e1, e2, e3⟩ := hh.rep.mapAt hm hlm
    have hlen : es.length = mes.size := by have := e1.length; simpa using this
    have hoff0 : off = 0 := by rw [hoff, hlo]; simp
    subst hoff0
    have hns : n = mes.size := by omega
    subst hns
    have hil : i < mes.size := by have := (List.getElem?_eq_some_iff.1 hp).1; omega
    have hb : mes[i].born = i := by
      have := congrArg (·[i]?) e3
      simp [hil] at this
      exact this
    have hil2 : mes.toList[i]? = some mes[i] := by simp [hil]
    obtain ⟨x1, hx1, hv1⟩ := e1.get i p.1 (by simp [hp])
    obtain ⟨x2, hx2, hv2⟩ := e2.get i p.2 (by simp [hp])
    have hx1' : x1 = mes[i].key := by rw [List.getElem?_map, hil2] at hx1; simpa using hx1.symm
    have hx2' : x2 = mes[i].val := by rw [List.getElem?_map, hil2] at hx2; simpa using hx2.symm
    subst hx1' hx2'
    have hrun := run_entry_at (P := P) w l.b lm.b mes.size done.toArray mes mes.size mes[i] (by rw [hw, hb]; simp) hwm (by simp) (by rw [e3]; exact List.nodup_range)
    refine ⟨.tuple #[mes[i].key, mes[i].val], ?_, .tup (.cons hv1 (.cons hv2 .nil))⟩
    unfold execOp; rw [ho]; simp [hcv, hrun]
end
end Go.Sl
namespace Go.Sl
variable [Md]
def srcV (H : Heap) (z : Nat) (x : V) : Option (List V × Nat) :=
 match x with
 | .sub n i j z' len =>
  match look n H with
  | some (.rows _ es) => if z' = z ∧ i < es.length ∧ j + len * z ≤ (es.getD i .any).cells.length then some (((es.getD i .any).cells.drop j).take (len * z), len) else none
  | _ => none
 | x => (newsV H z x).map fun es => (es.flatMap V.cells, es.length)
section
variable {fr : Nat → Prop} {F : Nat → Prop} {ι ι' : Names} {O : Nat → Prop} {H : Heap} {σ σ' : St} {a a' : Act} {w w' : World} {P : Program} {T : Tab}
def SrcOk (O : Nat → Prop) (ι : Names) (w : World) (z : Nat) (cv : Value) (cs : List V) (m : Nat) : Prop :=
 cs.length = m * z ∧ (∀ c ∈ cs, c.one = true) ∧ ((∃ cap, cv = .slice none 0 cap ∧ m = 0) ∨ ∃ ad cap, cv = .slice (some ad) m cap ∧ ∃ vs : List Value, VRels ι O w cs vs ∧ ∀ j u, vs[j]? = some u → w.cell? (ad.add j) = some u)
omit [Md] in
theorem src_news (hh : Holds fr F ι σ a w) {z : Nat} {x : V} {cv : Value} {es : List V} (h : newsV σ.H z x = some es) (hx : VRel ι (Own F ι σ.H) w x cv) : SrcOk (Own F ι σ.H) ι w z cv (es.flatMap V.cells) es.length := by
 obtain ⟨g1, g2⟩ := news_cells hh h hx
 have hcl : ∀ v ∈ es, v.cells.length = z := fun v hv => (fits_iff.1 (g1 v hv)).1
 refine ⟨length_flatMap_cells hcl, fun c hc => ?_, ?_⟩
 ·obtain ⟨v, hv, hcv⟩ := List.mem_flatMap.1 hc
  exact (fits_iff.1 (g1 v hv)).2 c hcv
 ·rcases g2 with ⟨cap, h1, h2⟩ | ⟨ad, cap, h1, vs, h2, h3, h4⟩
  ·exact .inl ⟨cap, h1, by rw [h2]; rfl⟩
  ·exact .inr ⟨ad, cap, h1, vs, h3, h4⟩
omit [Md] in
theorem src_sub (hh : Holds fr F ι σ a w) {n i j z len sz : Nat} {es : List V} {cv : Value} (hn : look n σ.H = some (.rows sz es)) (hi : i < es.length) (hj : j + len * z ≤ (es.getD i .any).cells.length) (hx : VRel ι (Own F ι σ.H) w (.sub n i j z len) cv) :
    SrcOk (Own F ι σ.H) ι w z cv (((es.getD i .any).cells.drop j).take (len * z)) len := by
  cases hx with
  | sub hl' hg hm hoff hlc hcm hs =>
    rename_i off cap l
    obtain ⟨e1, e2, e3, e4, e5, c, e, hw, hc, hlo, hv⟩ := hh.rep.block hn hl' hg
    have hcl : ∀ v ∈ es, v.cells.length = sz := fun v hv => (fits_iff.1 (e3 v hv)).1
    obtain ⟨v, hvi⟩ : ∃ v, es[i]? = some v := ⟨_, List.getElem?_eq_getElem hi⟩
    have hd : es.getD i .any = v := by simp [List.getD, hvi]
    have hvf := fits_iff.1 (e3 v (List.mem_of_getElem? hvi))
    rw [hd] at hj ⊢
    rw [hvf.1] at hj
    have hmul : i * sz + sz ≤ es.length * sz := by rw [← Nat.succ_mul]; exact Nat.mul_le_mul_right _ hi
    have hel := ((((hv.drop (i * sz)).take sz).drop j).take (len * z))
    rw [flatMap_elem hcl hvi] at hel
    have hlist : (((((c.toList.drop l.o).take (es.length * sz)).drop (i * sz)).take sz).drop j).take (len * z) = (c.toList.drop off).take (len * z) := by
      apply List.ext_getElem?
      intro p
      simp only [List.getElem?_take, List.getElem?_drop]
      by_cases hq : p < len * z
      · simp only [hq, if_true, show j + p < sz by omega, show i * sz + (j + p) < es.length * sz by omega]
        congr 1; rw [hoff, e1]; omega
      · simp [hq]
    rw [hlist] at hel
    exact ⟨by rw [List.length_take, List.length_drop, hvf.1]; omega, fun c' hc' => hvf.2 c' (List.mem_of_mem_drop (List.mem_of_mem_take hc')), .inr ⟨_, cap, rfl, _, hel, cells_at hw⟩⟩
omit [Md] in
theorem src_cells (hh : Holds fr F ι σ a w) {z : Nat} {x : V} {cv : Value} {cs : List V} {m : Nat} (h : srcV σ.H z x = some (cs, m)) (hx : VRel ι (Own F ι σ.H) w x cv) : SrcOk (Own F ι σ.H) ι w z cv cs m := by
 have other : ∀ es, newsV σ.H z x = some es → (es.flatMap V.cells, es.length) = (cs, m) → SrcOk (Own F ι σ.H) ι w z cv cs m := fun es he hc => by
  simp only [Prod.mk.injEq] at hc
  obtain ⟨rfl, rfl⟩ := hc
  exact src_news hh he hx
 cases x with
 | sub n i j z' len =>
  simp only [srcV] at h
  cases hn : look n σ.H with
  | none => rw [hn] at h; cases h
  | some b =>
   cases b with
   | rows sz es =>
    rw [hn] at h
    simp only at h
    by_cases hc : z' = z ∧ i < es.length ∧ j + len * z ≤ (es.getD i .any).cells.length
    ·rw [if_pos hc] at h
     simp only [Option.some.injEq, Prod.mk.injEq] at h
     obtain ⟨rfl, rfl⟩ := h
     obtain ⟨rfl, hi, hj⟩ := hc
     exact src_sub hh hn hi hj hx
    ·rw [if_neg hc] at h; cases h
   | _ => rw [hn] at h; cases h
 | _ =>
  simp only [srcV] at h
  obtain ⟨es, h1, h2⟩ := Option.map_eq_some_iff.1 h
  exact other es h1 h2
theorem out_store (hh : Holds fr F ι σ a w) {n i j sz : Nat} {es : List V} (hn : look n σ.H = some (.rows sz es)) (hi : i < es.length) {us : List V} (h0 : 0 < us.length) (hj : j + us.length ≤ sz) (hone : ∀ c ∈ us, c.one = true) {xs : List Value} (hu : VRels ι (Own F ι σ.H) w us xs)
    {l : Loc} (hl : ι n = some l) (hg : l.ghost = false) {off : Nat} (hoff : off = l.o + i * l.sz + j) {v' : V} {cv : Value} (hv' : ∀ O' w', VRel ι O' w' v' cv) :
    ∃ w', (storeCells ⟨l.b, off, none⟩ xs).run P w = .ok () w' ∧ Out fr F ι σ.H σ.k w ι v' cv (put n (.rows sz (es.set i (putPart (es.getD i .any) j (.agg us)))) σ.H) σ.k w' := by
  have hyl : xs.length = us.length := hu.length.symm
  have hy1 := oneCells hu hone
  obtain ⟨h1, h2, h3, h4, h5, c, e, hw, hc, hlen, hv⟩ := hh.rep.block hn hl hg
  have hcl : ∀ v ∈ es, v.cells.length = sz := fun v hv => (fits_iff.1 (h3 v hv)).1
  obtain ⟨v, hvi⟩ : ∃ v, es[i]? = some v := ⟨_, List.getElem?_eq_getElem hi⟩
  have hd : es.getD i .any = v := by simp [List.getD, hvi]
  rw [hd]
  have hvm := List.mem_of_getElem? hvi
  have hvf := fits_iff.1 (h3 v hvm)
  have hpc : (putPart v j (.agg us)).cells = splice v.cells j us := putPart_cells (u := .agg us) (by show j + us.length ≤ _; rw [hvf.1]; exact hj) h0
  have hpl : (putPart v j (.agg us)).cells.length = sz := by rw [hpc, length_splice _ _ _ (by rw [hvf.1]; exact hj), hvf.1]
  have hmul : i * sz + sz ≤ es.length * sz := by rw [← Nat.succ_mul]; exact Nat.mul_le_mul_right _ hi
  have hrun := run_storeCells_at P l.b off e xs 0 c w hw (by rw [hyl, hoff, h1]; omega) hy1
  rw [Nat.add_zero] at hrun
  refine ⟨_, hrun, ?_⟩
  have hsz : (c.toList.take off ++ xs ++ c.toList.drop (off + xs.length)).toArray.size = c.size := by
    simp only [List.size_toArray, List.length_append, List.length_take, List.length_drop, Array.length_toList, hyl]
    rw [hoff, h1]; omega
  have hcs : (w.setRow l.b (c.toList.take off ++ xs ++ c.toList.drop (off + xs.length)).toArray).heap[l.b]? = some (.cells _ e (0, 0)) := setRow_heap w l.b c _ e (0, 0) hw
  have hoth : ∀ q, q < w.heap.size → q ≠ l.b → (w.setRow l.b (c.toList.take off ++ xs ++ c.toList.drop (off + xs.length)).toArray).heap[q]? = w.heap[q]? := fun q _ hq => setRow_other w l.b q _ hq
  have hmem := look_mem hn
  have hrel : VRels ι (Own F ι σ.H) w ((es.set i (putPart v j (.agg us))).flatMap V.cells) ((((c.toList.take off ++ xs ++ c.toList.drop (off + xs.length)).toArray).toList.drop l.o).take (es.length * sz)) := by
    have e1 : (es.set i (putPart v j (.agg us))).flatMap V.cells = splice (es.flatMap V.cells) (i * sz + j) us := by
      rw [flatMap_set hcl hi hpl, hpc]
      apply List.ext_getElem?
      intro q
      have hL := length_flatMap_cells hcl
      rw [getElem?_splice (es.flatMap V.cells) (splice v.cells j us) (i * sz) q (by rw [length_splice _ _ _ (by rw [hvf.1]; exact hj), hvf.1, hL]; exact hmul), getElem?_splice (es.flatMap V.cells) us (i * sz + j) q (by rw [hL]; omega)]
      rw [length_splice v.cells j us (by rw [hvf.1]; exact hj), hvf.1]
      by_cases hq : i * sz ≤ q ∧ q < i * sz + sz
      · rw [if_pos hq, getElem?_splice _ _ _ _ (by rw [hvf.1]; exact hj)]
        by_cases hq2 : i * sz + j ≤ q ∧ q < i * sz + j + us.length
        · rw [if_pos (by omega), if_pos hq2]; congr 1; omega
        · rw [if_neg (by omega), if_neg hq2]
          have := congrArg (·[q - i * sz]?) (flatMap_elem hcl hvi)
          simp only [List.getElem?_take, List.getElem?_drop] at this
          rw [if_pos (by omega)] at this
          rw [← this]; congr 1; omega
      · rw [if_neg hq, if_neg (by omega)]
    rw [e1]
    have h' := hv.splice hu (i * sz + j)
    have e2 : ((((c.toList.take off ++ xs ++ c.toList.drop (off + xs.length)).toArray).toList.drop l.o).take (es.length * sz)) = splice ((c.toList.drop l.o).take (es.length * sz)) (i * sz + j) xs := by
      have hs : c.toList.take off ++ xs ++ c.toList.drop (off + xs.length) = splice c.toList off xs := by simp [splice]
      show ((c.toList.take off ++ xs ++ c.toList.drop (off + xs.length)).drop l.o).take (es.length * sz) = _
      rw [hs]
      exact splice_window _ _ _ _ _ _ (by rw [hoff, h1]; omega) (by rw [hyl]; omega) (by simpa using hlen)
    rw [e2]; exact h'
  refine ⟨⟨kept_put hmem hl hg hh.rep.names rfl (Tp.same rfl rfl) rfl (by simp) hoth, Nat.le_refl _, fun _ _ => rfl, fun m hm => .inl (by rw [names_put] at hm; exact hm)⟩, hh.rep.put hmem hl hg rfl (Tp.same rfl rfl) rfl (by simp) hoth fun O' S => ⟨h1, h2, ?_, .inr ⟨hg, _, e, hcs, by rw [hsz, hc], by rw [List.length_set, hsz]; exact hlen, ?_⟩⟩, hh.fresh, hv' _ _⟩
  · intro v' hv'
    rcases List.mem_or_eq_of_mem_set hv' with h | h
    · exact h3 v' h
    · subst h
      refine fits_iff.2 ⟨hpl, fun c' hc' => ?_⟩
      rw [hpc] at hc'
      exact (mem_splice hc').elim (hvf.2 c') (hone c')
  · rw [List.length_set]; exact hrel.stays S
theorem op_copy {o : Oper} {K : V → Heap → Nat → Prop} (x y : Operand) (t u : TypeId) (ho : o.op = .call ⟨.builtin .copy, #[x, y], #[t, u]⟩) {ti te : TI} (hti : tiOf P t = some ti) {e : TypeId} (hd : ti.d = .slice e) (hte : tiOf P e = some te) (hz : 0 < te.size)
    {n i j len sz : Nat} {es : List V} (hx : evalV σ.t x = .sub n i j te.size len) (hn : look n σ.H = some (.rows sz es)) (hi : i < es.length) (hj : j + len * te.size ≤ sz) {cs : List V} {m : Nat} (hy : srcV σ.H te.size (evalV σ.t y) = some (cs, m))
    (hk : if min m len = 0 then K (.val (.int .i64 0)) σ.H σ.k else K (.val (.int .i64 (min m len : Nat))) (put n (.rows sz (es.set i (putPart (es.getD i .any) j (.agg (cs.take (min m len * te.size)))))) σ.H) σ.k) : OpT fr P o σ K :=
  opT_run fun F ι a w hh => by
    have he := hh.eval x
    have hv := hh.eval y
    rw [hx] at he
    generalize hcx : a.eval x = cx at he
    generalize hcy : a.eval y = cy at hv
    obtain ⟨g1, g2, g3⟩ := src_cells hh hy hv
    have hdu := run_und_slice hti hd
    cases he with
    | sub hl hg hm hoff hlc hcm hs =>
      rename_i off cap l
      by_cases h0 : min m len = 0
      · rw [if_pos h0] at hk
        refine ⟨ι, _, .int .i64 0, _, _, w, ?_, hk, hh.same (.val _ rfl)⟩
        have hst0 : (storeCells ⟨l.b, off, none⟩ []).run P w = .ok () w := rfl
        rcases g3 with ⟨cap', rfl, rfl⟩ | ⟨ad, cap', rfl, vs, h1, h2⟩
        · unfold execOp; rw [ho]
          simp [resolve, invoke, builtin, hcx, hcy, Builtin.copy_, hdu, Builtin.lenOf, run_sizeOf hte, Builtin.firstCells, hst0, goInt]
        · have hl0 := run_loadCells_list (P := P) w ad [] (by simp)
          have e0 : Nat.min m len = 0 := h0
          unfold execOp; rw [ho]
          simp [resolve, invoke, builtin, hcx, hcy, Builtin.copy_, hdu, Builtin.lenOf, run_sizeOf hte, Builtin.firstCells, e0, hst0, goInt] at hl0 ⊢
          simp [hl0, hst0]
      · rw [if_neg h0] at hk
        rcases g3 with ⟨cap', rfl, rfl⟩ | ⟨ad, cap', rfl, vs, h1, h2⟩
        · omega
        · have hmz : min m len * te.size ≤ m * te.size := Nat.mul_le_mul_right _ (by omega)
          have hlz : min m len * te.size ≤ len * te.size := Nat.mul_le_mul_right _ (by omega)
          have hp : 0 < min m len * te.size := Nat.mul_pos (by omega) hz
          have hcl : (cs.take (min m len * te.size)).length = min m len * te.size := by rw [List.length_take, g1]; omega
          have h1' := h1.take (min m len * te.size)
          have hld := run_loadCells_list (P := P) w ad (vs.take (min m len * te.size)) (fun q v hv => h2 q v (by rw [List.getElem?_take] at hv; split at hv; exact hv; cases hv))
          rw [show (vs.take (min m len * te.size)).length = min m len * te.size by rw [← h1'.length, hcl]] at hld
          obtain ⟨w', hst, hO⟩ := out_store (P := P) hh hn hi (us := cs.take (min m len * te.size)) (by omega) (by omega) (fun c hc => g2 c (List.mem_of_mem_take hc)) h1' hl hg hoff (v' := .val (.int .i64 (min m len : Nat))) (cv := .int .i64 (min m len : Nat)) (fun _ _ => .val _ rfl)
          refine ⟨ι, _, _, _, _, w', ?_, hk, hO⟩
          have e0 : Nat.min m len = min m len := rfl
          unfold execOp; rw [ho]
          simp [resolve, invoke, builtin, hcx, hcy, Builtin.copy_, hdu, Builtin.lenOf, run_sizeOf hte, Builtin.firstCells, e0, hld, hst, goInt]
theorem op_slice_arr {o : Oper} {K : V → Heap → Nat → Prop} (t : TypeId) (x : Operand) (lo hi : Option Operand) (ho : o.op = .slice t x lo hi none) {ti te : TI} (hti : tiOf P t = some ti) {e : TypeId} {len : Nat} (hd : ti.d = .array len e) (hte : tiOf P e = some te)
    {n i j sz : Nat} {es : List V} (hx : evalV σ.t x = .ptr n i j) (hn : look n σ.H = some (.rows sz es)) (hi' : i < es.length) (hj : j + len * te.size ≤ sz) (hm : len ≤ maxLen)
    {l h : Int} (hl : boundV σ.t 0 lo = some l) (hh' : boundV σ.t len hi = some h) (h0 : 0 ≤ l) (h1 : l ≤ h) (h2 : h ≤ len) (hk : if l = len then K (.ro te.size []) σ.H σ.k else K (.sub n i (j + l.toNat * te.size) te.size (h.toNat - l.toNat)) σ.H σ.k) : OpT fr P o σ K := by
  have hua : P.underlying t = some (.array len e) := by
    obtain ⟨d, i, z, hd', hi, hz, _, _, h1, _⟩ := tiOf_spec hti
    rw [hd] at h1
    rw [hd']; cases d <;> simp_all [D.of]
  have run : ∀ F ι a w, Holds fr F ι σ a w → ∀ (L : Loc) (off : Nat), ι n = some L → L.ghost = false → off = L.o + i * L.sz + j → a.eval x = .pointer (some ⟨L.b, off, none⟩) →
      (execOp a.eval o).run P w = .ok (.value (.slice (some (if len = l.toNat then ⟨L.b, off, none⟩ else ⟨L.b, off + l.toNat * te.size, none⟩)) (h.toNat - l.toNat) (len - l.toNat))) w := fun F ι a w hh L off hL hg hoff hcv => by
    have hb := run_sliceBounds (P := P) false len len (lo.map a.eval) (hi.map a.eval) l h (by simpa using bound_eval hh 0 lo l hl) (bound_eval hh _ hi h hh') h0 h1 h2 (Nat.le_refl _) w
    unfold execOp; rw [ho]
    simp [hcv, Instr.sliceAt, Instr.sureAddr, run_underlying hua, hb, run_sizeOf hte, Addr.add_lit]
  by_cases hc : l = len
  · rw [if_pos hc] at hk
    refine opT_pure hk fun F ι a w hh => ?_
    have he := hh.eval x
    rw [hx] at he
    generalize hcv : a.eval x = cv at he
    cases he with
    | ptr hL hg hmp hoff =>
    rename_i off L
    refine ⟨_, run F ι a w hh L off hL hg hoff hcv, ?_⟩
    rw [show h.toNat - l.toNat = 0 by omega]
    exact .ro0
  · rw [if_neg hc] at hk
    refine opT_pure hk fun F ι a w hh => ?_
    have he := hh.eval x
    rw [hx] at he
    generalize hcv : a.eval x = cv at he
    cases he with
    | ptr hL hg hmp hoff =>
    rename_i off L
    refine ⟨_, run F ι a w hh L off hL hg hoff hcv, ?_⟩
    obtain ⟨e1, e2, e3, e4, e5, c, et, hw, hcs, hlo, hv⟩ := hh.rep.block hn hL hg
    have hmul : i * sz + sz ≤ es.length * sz := by rw [← Nat.succ_mul]; exact Nat.mul_le_mul_right _ hi'
    have hsp : (len - l.toNat) * te.size + l.toNat * te.size = len * te.size := by rw [← Nat.add_mul]; congr 1; omega
    rw [if_neg (by omega)]
    exact .sub hL hg hmp (by rw [hoff]; omega) (by omega) (by omega) (by rw [← hcs, hoff, e1]; omega)
end
end Go.Sl
namespace Go.Sl
variable [Md]
def runW (r : Option (V × Heap × Nat)) (K : V → Heap → Nat → Prop) : Prop :=
 match r with
 | some (v, H, k) => K v H k
 | none => False
def lookupR (T : Tab) (H : Heap) (ty : TypeId) (m x : V) (ok : Bool) : Option V :=
 match m with
 | .map n =>
  match look n H with
  | some (.map es) =>
   match T ty with
   | some tm =>
    match tm.d with
    | .map kt et =>
     match eqSpec T 16 kt, T kt, T et, x with
     | some sp, some ti, some te, .agg cs =>
      match eqCells sp cs cs, findV sp cs es with
      | some _, some r => if ti.agg = true then some (if ok = true then .tup [r.getD te.zeroV, .val (.bool r.isSome)] else r.getD te.zeroV) else none
      | _, _ => none
     | _, _, _, _ => none
    | _ => none
   | none => none
  | _ => none
 | _ => none
def mapUpdR (T : Tab) (H : Heap) (ty : TypeId) (m x y : V) : Option Heap :=
 match m with
 | .map n =>
  match look n H with
  | some (.map es) =>
   match T ty with
   | some tm =>
    match tm.d with
    | .map kt et =>
     match eqSpec T 16 kt, T kt, x with
     | some sp, some ti, .agg cs =>
      match eqCells sp cs cs, insV sp cs y es with
      | some _, some es' => if ti.agg = true then some (put n (.map es') H) else none
      | _, _ => none
     | _, _, _ => none
    | _ => none
   | none => none
  | _ => none
 | _ => none
def rangeR (T : Tab) (H : Heap) (k : Nat) (ty : TypeId) (m : V) : Option Heap :=
 match m with
 | .map n =>
  match look n H with
  | some (.map es) =>
   match T ty with
   | some tm =>
    match tm.d with
    | .map _ _ => some ((k, .iter n [] es.length) :: H)
    | _ => none
   | none => none
  | _ => none
 | _ => none
def entryR (H : Heap) (x : V) : Option V :=
 match x with
 | .ptr r 0 0 =>
  match look r H with
  | some (.iter m done n) =>
   match look m H with
   | some (.map es) =>
    match done.getLast? with
    | some i =>
     match es[i]? with
     | some p => if es.length = n then some (.tup [p.1, p.2]) else none
     | none => none
    | none => none
   | _ => none
  | _ => none
 | _ => none
def copyR (T : Tab) (H : Heap) (ty : TypeId) (x y : V) : Option (V × Heap) :=
 match x with
 | .sub n i j z len =>
  match look n H with
  | some (.rows sz es) =>
   match T ty with
   | some ti =>
    match ti.d with
    | .slice e =>
     match T e with
     | some te =>
      if z = te.size ∧ 0 < te.size ∧ i < es.length ∧ j + len * te.size ≤ sz then
       match srcV H te.size y with
       | some (cs, m) => if min m len = 0 then some (.val (.int .i64 0), H) else some (.val (.int .i64 (min m len : Nat)), put n (.rows sz (es.set i (putPart (es.getD i .any) j (.agg (cs.take (min m len * te.size)))))) H)
       | none => none
      else none
     | none => none
    | _ => none
   | none => none
  | _ => none
 | _ => none
def sliceAR (T : Tab) (H : Heap) (len : Nat) (e : TypeId) (x : V) (lo hi : Nat → Option Int) : Option V :=
 match T e with
 | some te =>
  match x with
  | .ptr n i j =>
   match look n H with
   | some (.rows sz es) =>
    match lo 0, hi len with
    | some l, some h => if i < es.length ∧ j + len * te.size ≤ sz ∧ len ≤ 9223372036854775807 ∧ 0 ≤ l ∧ l ≤ h ∧ h ≤ len then (if l = len then some (.ro te.size []) else some (.sub n i (j + l.toNat * te.size) te.size (h.toNat - l.toNat))) else none
    | _, _ => none
   | _ => none
  | _ => none
 | none => none
def stepW (T : Tab) (t : List (Nat × V)) (H : Heap) (k : Nat) (op : Op) : Option (V × Heap × Nat) :=
 match op with
 | .makeMap _ none => some (.map k, (k, .map []) :: H, k + 1)
 | .lookup ty m x ok => (lookupR T H ty (evalV t m) (evalV t x) ok).map fun v => (v, H, k)
 | .mapUpdate ty m x y => (mapUpdR T H ty (evalV t m) (evalV t x) (evalV t y)).map fun H' => (.tup [], H', k)
 | .range ty m => (rangeR T H k ty (evalV t m)).map fun H' => (.ptr k 0 0, H', k + 1)
 | .entry x => (entryR H (evalV t x)).map fun v => (v, H, k)
 | .call ⟨.builtin .copy, args, ts⟩ =>
  match args.toList, ts.toList with
  | [x, y], [ty, _] => (copyR T H ty (evalV t x) (evalV t y)).map fun p => (p.1, p.2, k)
  | _, _ => none
 | _ => none
section
variable {fr : Nat → Prop} {F : Nat → Prop} {ι ι' : Names} {O : Nat → Prop} {H : Heap} {σ σ' : St} {a a' : Act} {w w' : World} {P : Program} {T : Tab}
theorem lookup_sound (hT : TabOk P T) {o : Oper} {K : V → Heap → Nat → Prop} {ty : TypeId} {m x : Operand} {ok : Bool} (ho : o.op = .lookup ty m x ok) {v : V} (h : lookupR T σ.H ty (evalV σ.t m) (evalV σ.t x) ok = some v) (hk : K v σ.H σ.k) : OpT fr P o σ K := by
 unfold lookupR at h
 split at h
 ·rename_i n hm
  split at h
  ·rename_i es hn
   split at h
   ·rename_i tm htm
    split at h
    ·rename_i kt et hd
     split at h
     ·rename_i sp ti te cs hsp hti hte hx
      split at h
      ·rename_i b r hself hf
       split at h
       ·rename_i hg
        cases h
        exact op_lookup hT ty m x ok ho (hT _ _ htm) hd hsp hti hg (hT _ _ hte) hm hn hx hself hf hk
       ·cases h
      ·cases h
     ·cases h
    ·cases h
   ·cases h
  ·cases h
 ·cases h
theorem mapUpd_sound (hT : TabOk P T) {o : Oper} {K : V → Heap → Nat → Prop} {ty : TypeId} {m x y : Operand} (ho : o.op = .mapUpdate ty m x y) {H' : Heap} (h : mapUpdR T σ.H ty (evalV σ.t m) (evalV σ.t x) (evalV σ.t y) = some H') (hk : K (.tup []) H' σ.k) : OpT fr P o σ K := by
 unfold mapUpdR at h
 split at h
 ·rename_i n hm
  split at h
  ·rename_i es hn
   split at h
   ·rename_i tm htm
    split at h
    ·rename_i kt et hd
     split at h
     ·rename_i sp ti cs hsp hti hx
      split at h
      ·rename_i b es' hself hf
       split at h
       ·rename_i hg
        cases h
        exact op_mapUpdate hT ty m x y ho (hT _ _ htm) hd hsp hti hg hm hn hx hself hf hk
       ·cases h
      ·cases h
     ·cases h
    ·cases h
   ·cases h
  ·cases h
 ·cases h
theorem range_sound (hT : TabOk P T) (hfr : fr σ.k) {o : Oper} {K : V → Heap → Nat → Prop} {ty : TypeId} {m : Operand} (ho : o.op = .range ty m) {H' : Heap} (h : rangeR T σ.H σ.k ty (evalV σ.t m) = some H') (hk : K (.ptr σ.k 0 0) H' (σ.k + 1)) : OpT fr P o σ K := by
 unfold rangeR at h
 split at h
 ·rename_i n hm
  split at h
  ·rename_i es hn
   split at h
   ·rename_i tm htm
    split at h
    ·rename_i kt et hd
     cases h
     exact op_range hfr ty m ho (hT _ _ htm) hd hm hn hk
    ·cases h
   ·cases h
  ·cases h
 ·cases h
theorem entry_sound {o : Oper} {K : V → Heap → Nat → Prop} {x : Operand} (ho : o.op = .entry x) {v : V} (h : entryR σ.H (evalV σ.t x) = some v) (hk : K v σ.H σ.k) : OpT fr P o σ K := by
 unfold entryR at h
 split at h
 ·rename_i r hx
  split at h
  ·rename_i m done n hr
   split at h
   ·rename_i es hm
    split at h
    ·rename_i i hi
     split at h
     ·rename_i p hp
      split at h
      ·rename_i hn
       cases h
       obtain ⟨d, rfl⟩ := List.getLast?_eq_some_iff.1 hi
       exact op_entry x ho hx hr hm hn hp hk
      ·cases h
     ·cases h
    ·cases h
   ·cases h
  ·cases h
 ·cases h
theorem copy_sound (hT : TabOk P T) {o : Oper} {K : V → Heap → Nat → Prop} {x y : Operand} {ty u : TypeId} (ho : o.op = .call ⟨.builtin .copy, #[x, y], #[ty, u]⟩) {p : V × Heap} (h : copyR T σ.H ty (evalV σ.t x) (evalV σ.t y) = some p) (hk : K p.1 p.2 σ.k) : OpT fr P o σ K := by
 unfold copyR at h
 split at h
 ·rename_i n i j z len hx
  split at h
  ·rename_i sz es hn
   split at h
   ·rename_i ti hti
    split at h
    ·rename_i e hd
     split at h
     ·rename_i te hte
      split at h
      ·rename_i hc
       obtain ⟨rfl, hz, hi, hj⟩ := hc
       split at h
       ·rename_i cs m hy
        refine op_copy x y ty u ho (hT _ _ hti) hd (hT _ _ hte) hz hx hn hi hj hy ?_
        split at h
        ·rename_i h0; cases h; rw [if_pos h0]; exact hk
        ·rename_i h0; cases h; rw [if_neg h0]; exact hk
       ·cases h
      ·cases h
     ·cases h
    ·cases h
   ·cases h
  ·cases h
 ·cases h
theorem sliceA_sound (hT : TabOk P T) {o : Oper} {K : V → Heap → Nat → Prop} {ty : TypeId} {x : Operand} {lo hi : Option Operand} (ho : o.op = .slice ty x lo hi none) {ti : TI} (hti : T ty = some ti) {len : Nat} {e : TypeId} (hd : ti.d = .array len e) {v : V} (h : sliceAR T σ.H len e (evalV σ.t x) (boundV σ.t · lo) (boundV σ.t · hi) = some v) (hk : K v σ.H σ.k) : OpT fr P o σ K := by
 unfold sliceAR at h
 split at h
 ·rename_i te hte
  split at h
  ·rename_i n i j hx
   split at h
   ·rename_i sz es hn
    split at h
    ·rename_i l hh hl hh'
     split at h
     ·rename_i hc
      obtain ⟨h1, h2, h3, h4, h5, h6⟩ := hc
      refine op_slice_arr ty x lo hi ho (hT _ _ hti) hd (hT _ _ hte) hx hn h1 h2 (by unfold maxLen; omega) hl hh' h4 h5 h6 ?_
      split at h
      ·rename_i h0; cases h; rw [if_pos h0]; exact hk
      ·rename_i h0; cases h; rw [if_neg h0]; exact hk
     ·cases h
    ·cases h
   ·cases h
  ·cases h
 ·cases h
omit [Md] in
theorem runW_iff {r : Option (V × Heap × Nat)} {K : V → Heap → Nat → Prop} (h : runW r K) : ∃ v H k, r = some (v, H, k) ∧ K v H k := by
 unfold runW at h
 split at h
 ·exact ⟨_, _, _, rfl, h⟩
 ·exact h.elim
omit [Md] in
theorem runW_of {r : Option (V × Heap × Nat)} {K : V → Heap → Nat → Prop} {v : V} {H : Heap} {k : Nat} (h : r = some (v, H, k)) (hk : K v H k) : runW r K := by rw [h]; exact hk
theorem stepW_sound (hT : TabOk P T) (hfr : fr σ.k) {o : Oper} {K : V → Heap → Nat → Prop} (h : runW (stepW T σ.t σ.H σ.k o.op) K) : OpT fr P o σ K := by
 obtain ⟨v, H', k', h, hk⟩ := runW_iff h
 unfold stepW at h
 split at h
 ·rename_i t ho; cases h; exact op_makeMap hfr t ho hk
 ·rename_i ty m x ok ho
  obtain ⟨u, hu, he⟩ := Option.map_eq_some_iff.1 h
  cases he; exact lookup_sound hT ho hu hk
 ·rename_i ty m x y ho
  obtain ⟨u, hu, he⟩ := Option.map_eq_some_iff.1 h
  cases he; exact mapUpd_sound hT ho hu hk
 ·rename_i ty m ho
  obtain ⟨u, hu, he⟩ := Option.map_eq_some_iff.1 h
  cases he; exact range_sound hT hfr ho hu hk
 ·rename_i x ho
  obtain ⟨u, hu, he⟩ := Option.map_eq_some_iff.1 h
  cases he; exact entry_sound ho hu hk
 ·rename_i args ts ho
  split at h
  ·rename_i x y ty u ha hts
   obtain ⟨p, hu, he⟩ := Option.map_eq_some_iff.1 h
   cases he
   have ea : args = #[x, y] := by apply Array.ext'; exact ha
   have et : ts = #[ty, u] := by apply Array.ext'; exact hts
   subst ea et
   exact copy_sound hT ho hu hk
  ·cases h
 ·cases h
end
end Go.Sl
namespace Go.Sl
variable [Md]
def loadV (H : Heap) (ti : TI) (x : V) (K : V → Prop) : Prop :=
 match x with
 | .ptr n i j =>
  match look n H with
  | some (.rows sz es) => i < es.length ∧ j + ti.size ≤ sz ∧ K (partV ti.agg ti.size (es.getD i .any).cells j)
  | _ => False
 | .rp cs j => j + ti.size ≤ cs.length ∧ K (partV ti.agg ti.size cs j)
 | _ => False
def storeV (H : Heap) (ti : TI) (x v : V) (K : Heap → Prop) : Prop :=
 match x with
 | .ptr n i j =>
  match look n H with
  | some (.rows sz es) => i < es.length ∧ 0 < ti.size ∧ j + ti.size ≤ sz ∧ v.fits ti.size = true ∧ K (put n (.rows sz (es.set i (putPart (es.getD i .any) j v))) H)
  | _ => False
 | _ => False
def indexAddrV (T : Tab) (H : Heap) (d : D) (x y : V) (K : V → Prop) : Prop :=
 match y with
 | .val (.int _ m) =>
  match d with
  | .array len e =>
   match T e with
   | some te =>
    match x with
    | .ptr n i j => 0 ≤ m ∧ m < len ∧ K (.ptr n i (j + m.toNat * te.size))
    | .rp cs j => 0 ≤ m ∧ m < len ∧ K (.rp cs (j + m.toNat * te.size))
    | _ => False
   | none => False
  | .slice e =>
   match T e with
   | some te =>
    match x with
    | .sl n i len =>
     match look n H with
     | some (.rows sz _) => sz = te.size ∧ 0 ≤ m ∧ m < len ∧ K (.ptr n (i + m.toNat) 0)
     | _ => False
    | .ro sz es => sz = te.size ∧ 0 ≤ m ∧ m < es.length ∧ K (.rp (es.getD m.toNat .any).cells 0)
    | _ => False
   | none => False
  | _ => False
 | _ => False
def indexV (T : Tab) (d : D) (x y : V) (K : V → Prop) : Prop :=
 match y with
 | .val (.int _ m) =>
  match d with
  | .array len e =>
   match T e with
   | some te =>
    match x with
    | .agg cs => 0 ≤ m ∧ m < len ∧ m.toNat * te.size + te.size ≤ cs.length ∧ K (partV te.agg te.size cs (m.toNat * te.size))
    | _ => False
   | none => False
  | .string =>
   match x with
   | .val (.string s) => 0 ≤ m ∧ m < s.size ∧ K (.val (.int .u8 ((s.data.toList.getD m.toNat 0).toNat : Int)))
   | _ => False
  | _ => False
 | _ => False
def fieldAddrV (T : Tab) (d : D) (x : V) (f : Nat) (K : V → Prop) : Prop :=
 match d with
 | .struct fs =>
  match fs[f]? with
  | some (ft, off, _) =>
   match T ft with
   | some tf =>
    match x with
    | .ptr n i j => 0 < tf.size ∧ K (.ptr n i (j + off))
    | .rp cs j => 0 < tf.size ∧ K (.rp cs (j + off))
    | _ => False
   | none => False
  | none => False
 | _ => False
def fieldV (T : Tab) (d : D) (x : V) (f : Nat) (K : V → Prop) : Prop :=
 match d with
 | .struct fs =>
  match fs[f]? with
  | some (ft, off, _) =>
   match T ft with
   | some tf =>
    match x with
    | .agg cs => off + tf.size ≤ cs.length ∧ K (partV tf.agg tf.size cs off)
    | _ => False
   | none => False
  | none => False
 | _ => False
def binIV (op : BinOp) (k : IntKind) (x y : Int) (K : V → Prop) : Prop :=
 match op with
 | .add => K (.val (.int k (k.wrap (x + y))))
 | .sub => K (.val (.int k (k.wrap (x - y))))
 | .mul => K (.val (.int k (k.wrap (x * y))))
 | .quo => y ≠ 0 ∧ K (.val (.int k (k.wrap (x.tdiv y))))
 | .rem => y ≠ 0 ∧ K (.val (.int k (x.tmod y)))
 | .and => K (.val (.int k (k.wrap (BitVec.ofInt k.bits x &&& BitVec.ofInt k.bits y).toNat)))
 | .or => K (.val (.int k (k.wrap (BitVec.ofInt k.bits x ||| BitVec.ofInt k.bits y).toNat)))
 | .xor => K (.val (.int k (k.wrap (BitVec.ofInt k.bits x ^^^ BitVec.ofInt k.bits y).toNat)))
 | .andNot => K (.val (.int k (k.wrap (BitVec.ofInt k.bits x &&& ~~~BitVec.ofInt k.bits y).toNat)))
 | .eql => K (.val (.bool (x == y)))
 | .neq => K (.val (.bool (x != y)))
 | .lss => K (.val (.bool (decide (x < y))))
 | .leq => K (.val (.bool (decide (x ≤ y))))
 | .gtr => K (.val (.bool (decide (x > y))))
 | .geq => K (.val (.bool (decide (x ≥ y))))
 | _ => False
def shIV (op : BinOp) (k : IntKind) (x y : Int) (K : V → Prop) : Prop :=
 match op with
 | .shl => 0 ≤ y ∧ K (.val (.int k (k.wrap (x * 2 ^ (min y.toNat k.bits)))))
 | .shr => 0 ≤ y ∧ K (.val (.int k (x.fdiv (2 ^ (min y.toNat k.bits)))))
 | _ => False
def isSh : BinOp → Bool
 | .shl | .shr => true
 | _ => false
def eqV (sp : Option (List EK)) (op : BinOp) (cs ds : List V) (K : V → Prop) : Prop :=
 match sp with
 | some sp =>
  match eqCells sp cs ds with
  | some b =>
   match op with
   | .eql => K (.val (.bool b))
   | .neq => K (.val (.bool !b))
   | _ => False
  | none => False
 | none => False
def ptrV (T : Tab) (op : BinOp) (t : TypeId) (K : V → Prop) : Prop :=
 match T t with
 | some ti =>
  match ti.d with
  | .pointer _ =>
   match op with
   | .eql => K (.val (.bool false))
   | .neq => K (.val (.bool true))
   | _ => False
  | _ => False
 | none => False
def makeV (T : Tab) (ty : TypeId) (x y : V) (k : Nat) (H : Heap) (K : V → Heap → Nat → Prop) : Prop :=
 match x, y with
 | .val (.int _ l), .val (.int _ c) =>
  match T ty with
  | some ti =>
   match ti.d with
   | .slice e =>
    match T e with
    | some te => 0 ≤ l ∧ l = c ∧ (te.bytes : Int) * c ≤ 281474976710656 ∧ c ≤ 9223372036854775807 ∧ K (.sl k 0 c.toNat) ((k, .rows te.size (List.replicate c.toNat te.zeroV)) :: H) (k + 1)
    | none => False
   | _ => False
  | none => False
 | _, _ => False
def binV (T : Tab) (op : BinOp) (t : TypeId) (x y : V) (K : V → Prop) : Prop :=
 match x, y with
 | .agg cs, .agg ds =>
  match T t with
  | some ti => ti.agg = true ∧ eqV (eqSpec T 16 t) op cs ds K
  | none => False
 | .ptr .., .val (.pointer none) => ptrV T op t K
 | .rp .., .val (.pointer none) => ptrV T op t K
 | .val (.int k m), .val (.int k' n) => if isSh op then shIV op k m n K else k = k' ∧ binIV op k m n K
 | .val (.string m), .val (.string n) =>
  match op with
  | .add => (m.size + n.size : Int) ≤ 9223372036854775807 ∧ K (.val (.string (m ++ n)))
  | .eql => K (.val (.bool (m.toList == n.toList)))
  | .neq => K (.val (.bool !(m.toList == n.toList)))
  | .lss => K (.val (.bool (Op.bytesLess m.toList n.toList)))
  | .leq => K (.val (.bool (Op.bytesLess m.toList n.toList || m.toList == n.toList)))
  | .gtr => K (.val (.bool !(Op.bytesLess m.toList n.toList || m.toList == n.toList)))
  | .geq => K (.val (.bool !(Op.bytesLess m.toList n.toList)))
  | _ => False
 | .val (.bool m), .val (.bool n) =>
  match T t with
  | some ti =>
   match ti.d with
   | .bool =>
    match op with
    | .eql => K (.val (.bool (m == n)))
    | .neq => K (.val (.bool (m != n)))
    | _ => False
   | _ => False
  | none => False
 | _, _ => False
def sliceV (H : Heap) (te : TI) (x : V) (lo hi : Nat → Option Int) (K : V → Prop) : Prop :=
 match x with
 | .val (.slice none 0 0) =>
  match lo 0, hi 0 with
  | some l, some h => l = 0 ∧ h = 0 ∧ K (.val (.slice none 0 0))
  | _, _ => False
 | .sl n i len =>
  match look n H with
  | some (.rows sz _) =>
   match lo 0, hi len with
   | some l, some h => sz = te.size ∧ 0 ≤ l ∧ l ≤ h ∧ h ≤ len ∧ K (.sl n (i + l.toNat) (h.toNat - l.toNat))
   | _, _ => False
  | _ => False
 | .ro sz es =>
  match lo 0, hi es.length with
  | some l, some h => sz = te.size ∧ 0 ≤ l ∧ l ≤ h ∧ h ≤ es.length ∧ K (.ro te.size ((es.drop l.toNat).take (h.toNat - l.toNat)))
  | _, _ => False
 | _ => False
def appendV (H : Heap) (k : Nat) (te : TI) (s x : V) (K : V → Heap → Nat → Prop) : Prop :=
  match newsV H te.size x with
  | some news =>
    match s with
    | .val (.slice none 0 0) => 0 < te.size ∧ 0 < te.bytes ∧ news.length * te.bytes ≤ 140737488355328 ∧ K (.sl k 0 news.length) ((k, .rows te.size news) :: H) (k + 1)
    | .sl n i len =>
      match look n H with
      | some (.rows sz es) => sz = te.size ∧ i + len ≤ es.length ∧ 0 < te.size ∧ 0 < te.bytes ∧ (len + news.length) * te.bytes ≤ 140737488355328 ∧
          K (.sl k 0 (len + news.length)) ((k, .rows te.size ((es.drop i).take len ++ news)) :: del n H) (k + 1)
      | _ => False
    | _ => False
  | none => False
def callF (P : Program) (f : FuncId) (args : List V) (H : Heap) (k : Nat) [i : Inhabited (V → Heap → Nat → Prop)] : Prop := Fn P f args H k i.default
def opV (T : Tab) (P : Program) (t : List (Nat × V)) (H : Heap) (k : Nat) (op : Op) (K : V → Heap → Nat → Prop) : Prop :=
  match op with
  | .move x => K (evalV t x) H k
  | .assign x => K (evalV t x) H k
  | .pick c x y =>
    match evalV t c with
    | .val (.bool b) => if b = true then K (evalV t x) H k else K (evalV t y) H k
    | _ => False
  | .box e x =>
    match T e with
    | some ti => (evalV t x).fits ti.size = true ∧ K (.ptr k 0 0) ((k, .rows ti.size [evalV t x]) :: H) (k + 1)
    | none => False
  | .alloc e =>
    match T e with
    | some ti => K (.ptr k 0 0) ((k, .rows ti.size [ti.zeroV]) :: H) (k + 1)
    | none => False
  | .load ty x =>
    match T ty with
    | some ti => loadV H ti (evalV t x) fun v => K v H k
    | none => False
  | .store ty x y =>
    match T ty with
    | some ti => storeV H ti (evalV t x) (evalV t y) fun H' => K (.tup []) H' k
    | none => False
  | .indexAddr ty x y =>
    match T ty with
    | some ti => indexAddrV T H ti.d (evalV t x) (evalV t y) fun v => K v H k
    | none => False
  | .index ty x y =>
    match T ty with
    | some ti => indexV T ti.d (evalV t x) (evalV t y) fun v => K v H k
    | none => False
  | .fieldAddr ty x f =>
    match T ty with
    | some ti => fieldAddrV T ti.d (evalV t x) f fun v => K v H k
    | none => False
  | .field ty x f =>
    match T ty with
    | some ti => fieldV T ti.d (evalV t x) f fun v => K v H k
    | none => False
  | .extract x i =>
    match evalV t x with
    | .tup vs => i < vs.length ∧ K (vs.getD i .any) H k
    | _ => False
  | .binOp op ty x y _ => binV T op ty (evalV t x) (evalV t y) fun v => K v H k
  | .unOp op _ x =>
    match op, evalV t x with
    | .not, .val (.bool b) => K (.val (.bool (!b))) H k
    | .neg, .val (.int kd n) => K (.val (.int kd (kd.wrap (0 - n)))) H k
    | .xor, .val (.int kd n) => K (.val (.int kd (kd.wrap (BitVec.ofInt kd.bits (if kd.signed then -1 else kd.max) ^^^ BitVec.ofInt kd.bits n).toNat))) H k
    | _, _ => False
  | .convert s d x =>
    match T s, T d, evalV t x with
    | some ts, some td, .val (.int k' n) =>
      match ts.d, td.d with
      | .int k1, .int kd => k' = k1 ∧ K (.val (.int kd (kd.wrap n))) H k
      | _, _ => False
    | _, _, _ => False
  | .build ty parts =>
    match T ty with
    | some ti =>
      match ti.d with
      | .struct fs => (fs.all fun f => (T f.1).isSome) = true ∧ fillP (fun i => (fs[i]?).map fun f => (f.2.1, f.2.2)) (ti.zero.map .val) (parts.toList.map fun p => (p.1, evalV t p.2)) fun cs => K (.agg cs) H k
      | .array _ e =>
        match T e with
        | some te => fillP (fun i => some (i * te.size, te.size)) (ti.zero.map .val) (parts.toList.map fun p => (p.1, evalV t p.2)) fun cs => K (.agg cs) H k
        | none => False
      | _ => False
    | none => False
  | .buildSlice ty len parts =>
    match T ty with
    | some ti =>
      match ti.d with
      | .slice e =>
        match T e with
        | some te => 0 < te.size ∧ parts.toList.map Prod.fst = List.range len ∧ len * te.size ≤ 16777216 ∧ (∀ v ∈ parts.toList.map (fun p => evalV t p.2), v.fits te.size = true) ∧
            K (.sl k 0 len) ((k, .rows te.size (parts.toList.map fun p => evalV t p.2)) :: H) (k + 1)
        | none => False
      | _ => False
    | none => False
  | .slice ty x lo hi none =>
    match T ty with
    | some ti =>
      match ti.d with
      | .string =>
        match evalV t x with
        | .val (.string s) =>
          match boundV t 0 lo, boundV t s.size hi with
          | some l, some h => 0 ≤ l ∧ l ≤ h ∧ h ≤ s.size ∧ K (.val (.string (s.extract l.toNat h.toNat))) H k
          | _, _ => False
        | _ => False
      | .slice e =>
        match T e with
        | some te => sliceV H te (evalV t x) (boundV t · lo) (boundV t · hi) fun v => K v H k
        | none => False
      | .array len e => runW ((sliceAR T H len e (evalV t x) (boundV t · lo) (boundV t · hi)).map fun v => (v, H, k)) K
      | _ => False
    | none => False
  | .nilCheck x => (evalV t x).isAddr = true ∧ K (evalV t x) H k
  | .makeSlice ty l c => makeV T ty (evalV t l) (evalV t c) k H K
  | .makeFunc f fs cs => K (.fn f (fs.toList.map (evalV t)) (cs.toList.map (evalV t))) H k
  | .call ⟨.value f, args, _⟩ =>
    match evalV t f with
    | .fn (.func g) fs cs => @callF _ P g (fs ++ args.toList.map (evalV t) ++ cs) H k ⟨K⟩
    | _ => False
  | .call ⟨.builtin .len, args, ts⟩ =>
    match args.toList, ts.toList with
    | [x], [ty] =>
      match T ty with
      | some ti =>
        match lenV (evalV t x) with
        | some n => lenD ti.d (evalV t x) = true ∧ K (.val (.int .i64 n)) H k
        | none => False
      | none => False
    | _, _ => False
  | .call ⟨.builtin .min, args, _⟩ =>
    match args.toList with
    | [x, y] =>
      match evalV t x, evalV t y with
      | .val (.int kd m), .val (.int _ n) => K (.val (.int kd (if n < m then n else m))) H k
      | _, _ => False
    | _ => False
  | .call ⟨.builtin .max, args, _⟩ =>
    match args.toList with
    | [x, y] =>
      match evalV t x, evalV t y with
      | .val (.int kd m), .val (.int _ n) => K (.val (.int kd (if n > m then n else m))) H k
      | _, _ => False
    | _ => False
  | .call ⟨.builtin .append, args, ts⟩ =>
    match args.toList, ts.toList with
    | [s, x], [ty, u] =>
      match T ty, T u with
      | some ti, some tu =>
        match ti.d, tu.d with
        | .slice e, .slice _ =>
          match T e with
          | some te => appendV H k te (evalV t s) (evalV t x) K
          | none => False
        | _, _ => False
      | _, _ => False
    | _, _ => False
  | op => runW (stepW T t H k op) K
def isCall : Op → Bool
 | .call ⟨.value _, _, _⟩ => true
 | _ => false
section
variable {fr : Nat → Prop} {F : Nat → Prop} {ι ι' : Names} {O : Nat → Prop} {H : Heap} {σ σ' : St} {a a' : Act} {w w' : World} {P : Program} {T : Tab}
omit [Md] in
theorem binIV_spec {op : BinOp} {k : IntKind} {x y : Int} {K : V → Prop} (h : binIV op k x y K) : ∃ v, binI op k x y = some v ∧ K (.val v) := by
 unfold binIV at h
 unfold binI
 cases op <;> simp only [] at h ⊢ <;> first | exact ⟨_, rfl, h⟩ | exact ⟨_, if_neg h.1, h.2⟩ | exact h.elim
omit [Md] in
theorem shIV_spec {op : BinOp} {k : IntKind} {x y : Int} {K : V → Prop} (h : shIV op k x y K) : ∃ v, shI op k x y = some v ∧ K (.val v) := by
 unfold shIV at h
 unfold shI
 cases op <;> simp only [] at h ⊢ <;> first | exact ⟨_, if_neg (by omega), h.2⟩ | exact h.elim
theorem op_makeFunc {o : Oper} {K : V → Heap → Nat → Prop} (f : Go.Fn) (fs cs : Array Operand) (ho : o.op = .makeFunc f fs cs) (hk : K (.fn f (fs.toList.map (evalV σ.t)) (cs.toList.map (evalV σ.t))) σ.H σ.k) : OpT fr P o σ K :=
 opT_pure hk fun F ι a w hh => by
  refine ⟨.func f (fs.map a.eval) (cs.map a.eval), ?_, ?_⟩
  ·unfold execOp; rw [ho]; simp [Instr.makeFunc]
  ·have h1 := VRels.evals hh fs.toList
   have h2 := VRels.evals hh cs.toList
   have := VRel.fn (f := f) h1 h2
   have e1 : ∀ xs : Array Operand, (xs.toList.map a.eval).toArray = xs.map a.eval := fun xs => by apply Array.ext'; simp
   rw [e1, e1] at this
   exact this
theorem opV_sound (hT : TabOk P T) (hfr : fr σ.k) {o : Oper} {K : V → Heap → Nat → Prop} (hc : isCall o.op = true → fr = All) (h : opV T P σ.t σ.H σ.k o.op K) : OpT fr P o σ K := by
 unfold opV at h
 split at h
 ·rename_i x ho; exact op_move x (.inl ho) h
 ·rename_i x ho; exact op_move x (.inr ho) h
 ·rename_i c x y ho
  split at h
  ·rename_i b hc; exact op_pick c x y ho hc (fun e => by rw [if_pos e] at h; exact h) (fun e => by rw [if_neg (by simp [e])] at h; exact h)
  ·exact h.elim
 ·rename_i e x ho
  split at h
  ·rename_i ti ht; exact op_box hfr e x ho (hT _ _ ht) h.1 h.2
  ·exact h.elim
 ·rename_i e ho
  split at h
  ·rename_i ti ht; exact op_alloc hfr e ho (hT _ _ ht) h
  ·exact h.elim
 ·rename_i ty x ho
  split at h
  ·rename_i ti ht
   unfold loadV at h
   split at h
   ·rename_i n i j hx
    split at h
    ·rename_i sz es hn; exact op_load_ptr ty x ho (hT _ _ ht) hx hn h.1 h.2.1 h.2.2
    ·exact h.elim
   ·rename_i cs j hx; exact op_load_rp ty x ho (hT _ _ ht) hx h.1 h.2
   ·exact h.elim
  ·exact h.elim
 ·rename_i ty x y ho
  split at h
  ·rename_i ti ht
   unfold storeV at h
   split at h
   ·rename_i n i j hx
    split at h
    ·rename_i sz es hn; exact op_store_ptr ty x y ho (hT _ _ ht) hx hn h.1 h.2.1 h.2.2.1 h.2.2.2.1 h.2.2.2.2
    ·exact h.elim
   ·exact h.elim
  ·exact h.elim
 ·rename_i ty x y ho
  split at h
  ·rename_i ti ht
   unfold indexAddrV at h
   split at h
   ·rename_i kd m hy
    split at h
    ·rename_i len e hd
     split at h
     ·rename_i te hte
      split at h
      ·rename_i n i j hx; exact op_indexAddr_arr_ptr ty x y ho (hT _ _ ht) hd (hT _ _ hte) hx hy h.1 h.2.1 h.2.2
      ·rename_i cs j hx; exact op_indexAddr_arr_rp ty x y ho (hT _ _ ht) hd (hT _ _ hte) hx hy h.1 h.2.1 h.2.2
      ·exact h.elim
     ·exact h.elim
    ·rename_i e hd
     split at h
     ·rename_i te hte
      split at h
      ·rename_i n i len hx
       split at h
       ·rename_i sz es hn
        obtain ⟨h1, h2, h3, h4⟩ := h
        subst h1
        exact op_indexAddr_sl ty x y ho (hT _ _ ht) hd (hT _ _ hte) hx hy hn h2 h3 h4
       ·exact h.elim
      ·rename_i sz es hx
       obtain ⟨h1, h2, h3, h4⟩ := h
       subst h1
       exact op_indexAddr_ro ty x y ho (hT _ _ ht) hd (hT _ _ hte) hx hy h2 h3 h4
      ·exact h.elim
     ·exact h.elim
    ·exact h.elim
   ·exact h.elim
  ·exact h.elim
 ·rename_i ty x y ho
  split at h
  ·rename_i ti ht
   unfold indexV at h
   split at h
   ·rename_i kd m hy
    split at h
    ·rename_i len e hd
     split at h
     ·rename_i te hte
      split at h
      ·rename_i cs hx; exact op_index_arr ty x y ho (hT _ _ ht) hd (hT _ _ hte) hx hy h.1 h.2.1 h.2.2.1 h.2.2.2
      ·exact h.elim
     ·exact h.elim
    ·rename_i hd
     split at h
     ·rename_i s hx; exact op_index_str ty x y ho (hT _ _ ht) hd hx hy h.1 h.2.1 h.2.2
     ·exact h.elim
    ·exact h.elim
   ·exact h.elim
  ·exact h.elim
 ·rename_i ty x f ho
  split at h
  ·rename_i ti ht
   unfold fieldAddrV at h
   split at h
   ·rename_i fs hd
    split at h
    ·rename_i ft off sz hf
     split at h
     ·rename_i tf htf
      split at h
      ·rename_i n i j hx; exact op_fieldAddr_ptr ty x f ho (hT _ _ ht) hd hf (hT _ _ htf) h.1 hx h.2
      ·rename_i cs j hx; exact op_fieldAddr_rp ty x f ho (hT _ _ ht) hd hf (hT _ _ htf) h.1 hx h.2
      ·exact h.elim
     ·exact h.elim
    ·exact h.elim
   ·exact h.elim
  ·exact h.elim
 ·rename_i ty x f ho
  split at h
  ·rename_i ti ht
   unfold fieldV at h
   split at h
   ·rename_i fs hd
    split at h
    ·rename_i ft off sz hf
     split at h
     ·rename_i tf htf
      split at h
      ·rename_i cs hx; exact op_field ty x f ho (hT _ _ ht) hd hf (hT _ _ htf) hx h.1 h.2
      ·exact h.elim
     ·exact h.elim
    ·exact h.elim
   ·exact h.elim
  ·exact h.elim
 ·rename_i x i ho
  split at h
  ·rename_i vs hx; exact op_extract x i ho hx h.1 h.2
  ·exact h.elim
 ·rename_i op ty x y u ho
  unfold binV at h
  split at h
  ·rename_i cs ds hx hy
   split at h
   ·rename_i ti ht
    obtain ⟨hg, h⟩ := h
    unfold eqV at h
    split at h
    ·rename_i sp hsp
     split at h
     ·rename_i b hb
      split at h
      ·exact op_eqA hT _ ty u x y ho ht hg hsp hx hy hb (.inl ⟨rfl, h⟩)
      ·exact op_eqA hT _ ty u x y ho ht hg hsp hx hy hb (.inr ⟨rfl, h⟩)
      ·exact h.elim
     ·exact h.elim
    ·exact h.elim
   ·exact h.elim
  ·rename_i n i j hx hy
   unfold ptrV at h
   split at h
   ·rename_i ti ht
    split at h
    ·rename_i e hd
     split at h
     ·exact op_ptrNil _ ty u x y ho (hT _ _ ht) hd (by rw [hx]; rfl) hy (.inl ⟨rfl, h⟩)
     ·exact op_ptrNil _ ty u x y ho (hT _ _ ht) hd (by rw [hx]; rfl) hy (.inr ⟨rfl, h⟩)
     ·exact h.elim
    ·exact h.elim
   ·exact h.elim
  ·rename_i cs j hx hy
   unfold ptrV at h
   split at h
   ·rename_i ti ht
    split at h
    ·rename_i e hd
     split at h
     ·exact op_ptrNil _ ty u x y ho (hT _ _ ht) hd (by rw [hx]; rfl) hy (.inl ⟨rfl, h⟩)
     ·exact op_ptrNil _ ty u x y ho (hT _ _ ht) hd (by rw [hx]; rfl) hy (.inr ⟨rfl, h⟩)
     ·exact h.elim
    ·exact h.elim
   ·exact h.elim
  ·rename_i k m k' n hx hy
   split at h
   ·obtain ⟨v, hv, hk⟩ := shIV_spec h
    exact op_shI op ty u x y ho hx hy hv hk
   ·obtain ⟨h1, h2⟩ := h
    subst h1
    obtain ⟨v, hv, hk⟩ := binIV_spec h2
    exact op_binI op ty u x y ho hx hy hv hk
  ·rename_i m n hx hy
   split at h <;> first
    | exact op_binS _ ty u x y ho hx hy rfl h
    | exact op_binS _ ty u x y ho hx hy (if_neg (by have := h.1; omega)) h.2
    | exact h.elim
  ·rename_i m n hx hy
   split at h
   ·rename_i ti ht
    split at h
    ·rename_i hd
     split at h
     ·exact op_eqB _ ty u x y ho (hT _ _ ht) hd hx hy (.inl ⟨rfl, h⟩)
     ·exact op_eqB _ ty u x y ho (hT _ _ ht) hd hx hy (.inr ⟨rfl, h⟩)
     ·exact h.elim
    ·exact h.elim
   ·exact h.elim
  ·exact h.elim
 ·rename_i op ty x ho
  split at h
  ·rename_i b hx; exact op_not ty x ho hx h
  ·rename_i kd n hx; exact op_neg ty x ho hx h
  ·rename_i kd n hx; exact op_com ty x ho hx h
  ·exact h.elim
 ·rename_i s d x ho
  split at h
  ·rename_i ts td k' n hs hd hx
   split at h
   ·rename_i k1 kd h1 h2
    obtain ⟨h3, h4⟩ := h
    subst h3
    exact op_convI s d x ho (hT _ _ hd) (hT _ _ hs) h2 h1 hx h4
   ·exact h.elim
  ·exact h.elim
 ·rename_i ty parts ho
  split at h
  ·rename_i ti ht
   split at h
   ·rename_i fs hd
    refine op_build ty parts ho (hT _ _ ht) hd (fun f hf => ?_) h.2
    have := List.all_eq_true.1 h.1 f hf
    obtain ⟨tf, htf⟩ := Option.isSome_iff_exists.1 this
    exact ⟨tf, hT _ _ htf⟩
   ·rename_i n e hd
    split at h
    ·rename_i te hte; exact op_build_arr ty parts ho (hT _ _ ht) hd (hT _ _ hte) h
    ·exact h.elim
   ·exact h.elim
  ·exact h.elim
 ·rename_i ty len parts ho
  split at h
  ·rename_i ti ht
   split at h
   ·rename_i e hd
    split at h
    ·rename_i te hte
     obtain ⟨h1, h2, h3, h4, h5⟩ := h
     exact op_buildSlice hfr ty len parts ho (hT _ _ ht) hd (hT _ _ hte) h1 h2 h3 (fun p hp => h4 _ (List.mem_map.2 ⟨p, hp, rfl⟩)) h5
    ·exact h.elim
   ·exact h.elim
  ·exact h.elim
 ·rename_i ty x lo hi ho
  split at h
  ·rename_i ti ht
   split at h
   ·rename_i hd
    split at h
    ·rename_i s hx
     split at h
     ·rename_i l hb h1 h2; exact op_slice_str ty x lo hi ho (hT _ _ ht) hd hx h1 h2 h.1 h.2.1 h.2.2.1 h.2.2.2
     ·exact h.elim
    ·exact h.elim
   ·rename_i e hd
    split at h
    ·rename_i te hte
     unfold sliceV at h
     split at h
     ·rename_i hx
      split at h
      ·rename_i l hb h1 h2; exact op_slice_nil ty x lo hi ho (hT _ _ ht) hd (hT _ _ hte) hx h1 h2 h.1 h.2.1 h.2.2
      ·exact h.elim
     ·rename_i n i len hx
      split at h
      ·rename_i sz es hn
       split at h
       ·rename_i l hb h1 h2
        obtain ⟨h3, h4, h5, h6, h7⟩ := h
        subst h3
        exact op_slice_sl ty x lo hi ho (hT _ _ ht) hd (hT _ _ hte) hx hn h1 h2 h4 h5 h6 h7
       ·exact h.elim
      ·exact h.elim
     ·rename_i sz es hx
      split at h
      ·rename_i l hb h1 h2
       obtain ⟨h3, h4, h5, h6, h7⟩ := h
       subst h3
       exact op_slice_ro ty x lo hi ho (hT _ _ ht) hd (hT _ _ hte) hx h1 h2 h4 h5 h6 h7
      ·exact h.elim
     ·exact h.elim
    ·exact h.elim
   ·rename_i len e hd
    obtain ⟨v, H', k', h1, h2⟩ := runW_iff h
    obtain ⟨u, hu, he⟩ := Option.map_eq_some_iff.1 h1
    cases he
    exact sliceA_sound hT ho ht hd hu h2
   ·exact h.elim
  ·exact h.elim
 ·rename_i x ho; exact op_nilCheck x ho h.1 h.2
 ·rename_i ty l c ho
  unfold makeV at h
  split at h
  ·rename_i kl l' kc c' hl hc
   split at h
   ·rename_i ti ht
    split at h
    ·rename_i e hd
     split at h
     ·rename_i te hte
      obtain ⟨h1, h2, h3, h4, h5⟩ := h
      exact op_makeSlice hfr ty l c ho (hT _ _ ht) hd (hT _ _ hte) hl hc h1 h2 h3 h4 h5
     ·exact h.elim
    ·exact h.elim
   ·exact h.elim
  ·exact h.elim
 ·rename_i f fs cs ho; exact op_makeFunc f fs cs ho h
 ·rename_i f args ts ho
  split at h
  ·rename_i g fs cs hf
   have hc := hc (by rw [ho]; rfl)
   subst hc
   exact op_call f args ts ho hf h
  ·exact h.elim
 ·rename_i args ts ho
  split at h
  ·rename_i x ty ha hts
   split at h
   ·rename_i ti ht
    split at h
    ·rename_i n hn
     have ea : args = #[x] := by apply Array.ext'; exact ha
     have et : ts = #[ty] := by apply Array.ext'; exact hts
     subst ea et
     exact op_len x ty ho (hT _ _ ht) h.1 hn h.2
    ·exact h.elim
   ·exact h.elim
  ·exact h.elim
 ·rename_i args ts ho
  split at h
  ·rename_i x y ha
   split at h
   ·rename_i kd m k' n hx hy
    have ea : args = #[x, y] := by apply Array.ext'; exact ha
    subst ea
    exact op_min x y ts ho hx hy h
   ·exact h.elim
  ·exact h.elim
 ·rename_i args ts ho
  split at h
  ·rename_i x y ha
   split at h
   ·rename_i kd m k' n hx hy
    have ea : args = #[x, y] := by apply Array.ext'; exact ha
    subst ea
    exact op_max x y ts ho hx hy h
   ·exact h.elim
  ·exact h.elim
 ·rename_i args ts ho
  split at h
  ·rename_i s x ty u ha hts
   split at h
   ·rename_i ti tu ht htu
    split at h
    ·rename_i e e' hd hdu
     split at h
     ·rename_i te hte
      have ea : args = #[s, x] := by apply Array.ext'; exact ha
      have et : ts = #[ty, u] := by apply Array.ext'; exact hts
      subst ea et
      unfold appendV at h
      split at h
      ·rename_i news hx
       split at h
       ·rename_i hs
        obtain ⟨h1, h2, h3, h4⟩ := h
        exact op_append hfr s x ty u ho (hT _ _ ht) hd (hT _ _ htu) hdu (hT _ _ hte) h1 h2 (olds := []) (.inl ⟨hs, rfl, rfl⟩) hx (by simpa using h3) (by simpa using h4)
       ·rename_i n i len hs
        split at h
        ·rename_i sz es hn
         obtain ⟨h1, h2, h3, h4, h5, h6⟩ := h
         subst h1
         have hl : ((es.drop i).take len).length = len := by rw [List.length_take, List.length_drop]; omega
         exact op_append hfr s x ty u ho (hT _ _ ht) hd (hT _ _ htu) hdu (hT _ _ hte) h3 h4 (.inr ⟨n, i, len, es, hs, hn, h2, rfl, rfl⟩) hx (by rw [hl]; exact h5) (by rw [hl]; exact h6)
        ·exact h.elim
       ·exact h.elim
      ·exact h.elim
     ·exact h.elim
    ·exact h.elim
   ·exact h.elim
  ·exact h.elim
 ·exact stepW_sound hT hfr h
def dstLt (d : Option Tmp) (N : Nat) : Prop := match d with | some d => d < N | none => True
def guardV (ops : List Oper) (t : List (Nat × V)) (g : Option (Nat × Bool)) (yes no : Prop) : Prop :=
 match g with
 | none => yes
 | some (j, want) =>
  match (ops[j]?).bind (·.dst) with
  | some d =>
   match get t d with
   | .val (.bool b) => if b = want then yes else no
   | .tup [] => no
   | _ => False
  | none => False
def guardO (ops : List Oper) (t : List (Nat × V)) (g : Option (Nat × Bool)) (yes no : Prop) : Prop :=
 match g with
 | none => yes
 | some (j, want) =>
  match (ops[j]?).bind (·.dst) with
  | some d =>
   match get t d with
   | .val (.bool b) => if want then ((b = true → yes) ∧ (b = false → no)) else ((b = false → yes) ∧ (b = true → no))
   | .tup [] => no
   | _ => False
  | none => False
omit [Md] in
theorem guardO_of {ops : List Oper} {t : List (Nat × V)} {g : Option (Nat × Bool)} {yes no : Prop} (h : guardV ops t g yes no) : guardO ops t g yes no := by
 unfold guardV at h
 unfold guardO
 split at h
 ·exact h
 ·rename_i j want
  split at h
  ·rename_i d hj
   split at h
   ·cases want <;> rename_i b _ <;> cases b <;> simp_all
   ·simp_all
   ·exact h.elim
  ·exact h.elim
def vcL (T : Tab) (P : Program) (ops : List Oper) (N : Nat) : List Oper → (St → Prop) → List (Nat × V) → Heap → Nat → Prop
 | [], K, t, H, k => K ⟨N, t, H, k⟩
 | o :: rest, K, t, H, k => dstLt o.dst N ∧ guardV ops t o.guard (opV T P t H k o.op fun v H' k' => vcL T P ops N rest K (setT t o.dst v) H' k') (vcL T P ops N rest K (setT t o.dst (.tup [])) H k)
omit [Md] in
theorem Holds.yields (hh : Holds All F ι σ a w) {d : Nat} (hd : d < σ.N) : (∀ b, get σ.t d = .val (.bool b) → a.tmps[d]? = some (.bool b)) ∧ (get σ.t d = .tup [] → a.tmps[d]? = some (.tuple #[])) := by
 have ht := hh.tmps d
 have hlt : d < a.tmps.size := by rw [hh.size]; exact hd
 have he : a.tmps.getD d undef = a.tmps[d] := by simp [Array.getD, hlt]
 rw [he] at ht
 constructor
 ·intro b hb
  rw [hb] at ht
  rw [Array.getElem?_eq_getElem hlt, ht.inv_bool]
 ·intro hb
  rw [hb] at ht
  rw [Array.getElem?_eq_getElem hlt]
  generalize a.tmps[d] = x at ht
  cases ht with
  | tup h => cases h; rfl
theorem Holds.skipped (hh : Holds All F ι σ a w) {dst : Option Tmp} (hd : dstLt dst σ.N) : Holds All F ι ⟨σ.N, setT σ.t dst (.tup []), σ.H, σ.k⟩ (a.put dst undef) w :=
 hh.step (hh.same (VRel.tup .nil)) fun d hd' => by subst hd'; exact hd
theorem vcL_sound (hT : TabOk P T) (ops : List Oper) (l : List Oper) : ∀ (K : St → Prop) (σ : St), vcL T P ops σ.N l K σ.t σ.H σ.k → (∀ o ∈ ops, dstLt o.dst σ.N) → TrL P ops.toArray l K σ := by
 induction l with
 | nil => intro K σ h _ F ι a w hh Q hQ; exact hQ ι σ a w h hh (Ext.refl _ _ _ _ _)
 | cons o rest ih =>
  intro K σ h hops F ι a w hh Q hQ
  simp only [vcL] at h
  obtain ⟨hd, hg⟩ := h
  have yes : opV T P σ.t σ.H σ.k o.op (fun v H' k' => vcL T P ops σ.N rest K (setT σ.t o.dst v) H' k') → o.wp P a w (wpList P ops.toArray Q rest) Q := fun h => by
   refine opV_sound hT trivial (fun _ => rfl) h F ι a w hh _ Q ?_
   intro ι' v cv H' k' w' hk hO
   have hh' := hh.step hO (dst := o.dst) (fun d hd' => by rw [hd'] at hd; exact hd)
   exact ih K ⟨σ.N, setT σ.t o.dst v, H', k'⟩ hk hops F ι' _ w' hh' Q fun ι'' σ'' a'' w'' hK hh'' hx => hQ ι'' σ'' a'' w'' hK hh'' (hO.ext.trans hx)
  have no : vcL T P ops σ.N rest K (setT σ.t o.dst (.tup [])) σ.H σ.k → wpList P ops.toArray Q rest (a.put o.dst undef) w := fun h =>
   ih K ⟨σ.N, setT σ.t o.dst (.tup []), σ.H, σ.k⟩ h hops F ι _ w (hh.skipped hd) Q hQ
  have hg := guardO_of hg
  unfold guardO at hg
  cases hgd : o.guard with
  | none =>
   rw [hgd] at hg
   simp only [wpList]
   rw [if_pos (by simp [Region.wanted, hgd])]
   exact .inl (yes hg)
  | some g =>
   obtain ⟨j, want⟩ := g
   rw [hgd] at hg
   simp only at hg
   cases hj : (ops[j]?).bind (·.dst) with
   | none => rw [hj] at hg; exact hg.elim
   | some d =>
    rw [hj] at hg
    simp only at hg
    have hdN : d < σ.N := by
     obtain ⟨oj, hoj, hdj⟩ := Option.bind_eq_some_iff.1 hj
     have := hops oj (List.mem_of_getElem? hoj)
     rw [hdj] at this; exact this
    obtain ⟨hy1, hy2⟩ := hh.yields hdN
    have hyl : ∀ b, a.tmps[d]? = some (.bool b) → yielded ops.toArray a.tmps j = some b := by
     intro b hb
     unfold yielded
     have : ((ops.toArray[j]?).bind (·.dst)) = some d := by simpa using hj
     rw [this]; simp [hb]
    simp only [wpList]
    split at hg
    ·rename_i b hb
     have hyb := hyl b (hy1 b hb)
     cases want <;> cases b <;> simp only [Region.wanted, hgd, hyb, if_true, if_false, Bool.false_eq_true] at hg ⊢
     ·rw [if_pos (by simp)]; exact .inl (yes (hg.1 trivial))
     ·rw [if_neg (by simp)]; exact no (hg.2 trivial)
     ·rw [if_neg (by simp)]; exact no (hg.2 trivial)
     ·rw [if_pos (by simp)]; exact .inl (yes (hg.1 trivial))
    ·rename_i hb
     have ht := hy2 hb
     have hyn : yielded ops.toArray a.tmps j = none := by
      unfold yielded
      have : ((ops.toArray[j]?).bind (·.dst)) = some d := by simpa using hj
      rw [this]; simp [ht]
     rw [if_neg (by simp [Region.wanted, hgd, hyn])]
     exact no hg
    ·exact hg.elim
def dstsLt (ops : List Oper) (N : Nat) : Bool := ops.all fun o => match o.dst with | some d => decide (d < N) | none => true
omit [Md] in
theorem dstsLt_spec {ops : List Oper} {N : Nat} (h : dstsLt ops N = true) : ∀ o ∈ ops, dstLt o.dst N := by
 intro o ho
 have := List.all_eq_true.1 h o ho
 unfold dstLt
 cases hd : o.dst with
 | none => trivial
 | some d => rw [hd] at this; simpa using this
theorem tr_region (hT : TabOk P T) {id : Nat} {l : List Oper} {Q : Exit → St → Prop} {N k : Nat} {t : List (Nat × V)} {H : Heap} (hN : dstsLt l N = true) (h : vcL T P l N l (fun σ' => Q .normal σ') t H k) : Tr P (.region id l.toArray false) Q ⟨N, t, H, k⟩ :=
 fun F ι a w hh => wp_region_lit (vcL_sound hT l l _ ⟨N, t, H, k⟩ h (dstsLt_spec hN) F ι a w hh _ fun ι' σ' _ _ hK hh' hx => ⟨ι', σ', hK, hh', hx⟩)
end
end Go.Sl
namespace Go.Sl
variable [Md]
def oneOrTup : List V → V
 | [v] => v
 | vs => .tup vs
def resOne (tmps : Array Value) : ResultVar → Sem Value
 | .tmp t => pure (tmps.getD t undef)
 | .cell a t => do loadVar t (← asAddr (tmps.getD a undef))
omit [Md] in
theorem results_eq (fn : Func) (tmps : Array Value) : results fn tmps = (do let vs ← fn.results.mapM (resOne tmps); pure (if h : vs.size = 1 then vs[0] else .tuple vs)) := by
 unfold results
 congr 1
def retV (T : Tab) (t : List (Nat × V)) (H : Heap) : List ResultVar → List V → (V → Prop) → Prop
 | [], acc, K => K (oneOrTup acc)
 | .tmp i :: r, acc, K => retV T t H r (acc ++ [get t i]) K
 | .cell i ty :: r, acc, K =>
  match T ty with
  | some ti => loadV H ti (get t i) fun v => retV T t H r (acc ++ [v]) K
  | none => False
def initT : Nat → List V → List (Nat × V)
 | _, [] => []
 | i, v :: vs => (i, v) :: initT (i + 1) vs
section
variable {F : Nat → Prop} {ι ι' : Names} {O : Nat → Prop} {H H' : Heap} {σ σ' : St} {a a' : Act} {w w' : World} {P : Program} {T : Tab}
omit [Md] in
theorem get_initT (vs : List V) : ∀ (s i : Nat), get (initT s vs) i = if s ≤ i then vs.getD (i - s) .any else .any := by
 induction vs with
 | nil => intro s i; simp [initT, get]
 | cons v vs ih =>
  intro s i
  simp only [initT, get, ih]
  by_cases h : i = s
  ·subst h; simp
  ·rw [if_neg h]
   by_cases h2 : s ≤ i
   ·rw [if_pos h2, if_pos (by omega), show i - s = (i - (s + 1)) + 1 by omega]; simp
   ·rw [if_neg h2, if_neg (by omega)]
omit [Md] in
theorem loadV_run (R : Rep F ι H w) {ty : TypeId} {ti : TI} (hti : tiOf P ty = some ti) {x : V} {cx : Value} (hx : VRel ι (Own F ι H) w x cx) {K : V → Prop} (h : loadV H ti x K) :
    ∃ ad v cv, cx = .pointer (some ad) ∧ (loadVar ty ad).run P w = .ok cv w ∧ VRel ι (Own F ι H) w v cv ∧ K v := by
  unfold loadV at h
  split at h
  · split at h
    · rename_i sz es hn
      obtain ⟨ad, y, h1, h2, h3⟩ := run_load_ptr (P := P) R hti hx hn h.1 h.2.1
      exact ⟨ad, _, y, h1, h2, h3, h.2.2⟩
    · exact h.elim
  · obtain ⟨ad, y, h1, h2, h3⟩ := run_load_rp (P := P) hti hx h.1
    exact ⟨ad, _, y, h1, h2, h3, h.2⟩
  · exact h.elim
omit [Md] in
theorem retV_run (hT : TabOk P T) (hh : Holds All F ι σ a w) : ∀ (rs : List ResultVar) (acc : List V) (cacc : List Value) (K : V → Prop), retV T σ.t σ.H rs acc K → VRels ι (Own F ι σ.H) w acc cacc →
    ∃ cvs : List Value, (rs.mapM (resOne a.tmps)).run P w = .ok cvs w ∧ ∃ vs, VRels ι (Own F ι σ.H) w vs (cacc ++ cvs) ∧ K (oneOrTup vs)
  | [], acc, cacc, K, h, hv => ⟨[], rfl, acc, by simpa using hv, h⟩
  | .tmp i :: r, acc, cacc, K, h, hv => by
    obtain ⟨cvs, h1, vs, h2, h3⟩ := retV_run hT hh r _ (cacc ++ [a.tmps.getD i undef]) K h (hv.snoc (hh.tmps i))
    exact ⟨a.tmps.getD i undef :: cvs, by simp only [List.mapM_cons, resOne, Sem.run_bind, Sem.run_pure, Result.andThen_ok, h1], vs, by rw [List.append_assoc] at h2; exact h2, h3⟩
  | .cell i ty :: r, acc, cacc, K, h, hv => by
    simp only [retV] at h
    cases hti : T ty with
    | none => rw [hti] at h; exact h.elim
    | some ti =>
      rw [hti] at h
      obtain ⟨ad, v, cv, e1, e2, e3, e4⟩ := loadV_run (P := P) hh.rep (hT _ _ hti) (hh.tmps i) h
      obtain ⟨cvs, h1, vs, h2, h3⟩ := retV_run hT hh r _ (cacc ++ [cv]) K e4 (hv.snoc e3)
      exact ⟨cv :: cvs, by simp only [List.mapM_cons, resOne, e1, asAddr, Sem.run_bind, Sem.run_pure, Result.andThen_ok, e2, h1], vs, by rw [List.append_assoc] at h2; exact h2, h3⟩
def Ends (T : Tab) (rs : List ResultVar) (K : V → Heap → Nat → Prop) (e : Exit) (σ' : St) : Prop := (e = .normal ∨ e = .ret) ∧ retV T σ'.t σ'.H rs [] fun v => K v σ'.H σ'.k
theorem fn_intro (hT : TabOk P T) {f : FuncId} {fn : Func} {c : Code} {args : List V} {k : Nat} {K : V → Heap → Nat → Prop} (hf : P.funcs[f]? = some fn) (hb : fn.body = some c) (hname : (fn.name == "runtime.NumGoroutine") = false) (hN : args.length ≤ fn.ntmps)
    (h : Tr P c (Ends T fn.results.toList K) ⟨fn.ntmps, initT 0 args, H, k⟩) : Fn P f args H k K := by
  refine ⟨⟨fn, hf, hname, by simp [hb]⟩, fun F ι w cargs h1 h2 h3 => ?_⟩
  have hl := h1.length
  refine calls_of_wp hf hb (wp_mono (h F ι _ w ⟨rfl, ?_, ?_, h2, fun n _ => h3 n⟩) ?_)
  · simp only [Array.size_append, List.size_toArray, Array.size_replicate]; omega
  · intro i
    simp only []
    rw [get_initT, if_pos (Nat.zero_le _), Nat.sub_zero]
    cases hi : args[i]? with
    | none => simp only [List.getD, hi, Option.getD_none]; exact .any _
    | some v =>
      obtain ⟨x, hx, hv⟩ := h1.get i v hi
      have : (cargs.toArray ++ Array.replicate (fn.ntmps - cargs.toArray.size) undef).getD i undef = x := by
        have hlt := (List.getElem?_eq_some_iff.1 hx).1
        rw [Array.getD_eq_getD_getElem?, Array.getElem?_append_left (by simpa using hlt)]
        simp [hx]
      simp only [List.getD, hi, Option.getD_some]
      rw [this]; exact hv
  · rintro e a' w' ⟨ι', σ', ⟨he, hr⟩, hh, hx⟩
    obtain ⟨cvs, e1, vs, e2, e3⟩ := retV_run hT hh fn.results.toList [] [] _ hr .nil
    simp only [List.nil_append] at e2
    have hrun : (results fn a'.tmps).run P w' = .ok (if h : cvs.toArray.size = 1 then cvs.toArray[0] else .tuple cvs.toArray) w' := by
      rw [results_eq, Array.mapM_eq_mapM_toList]
      simp only [Sem.run_bind, Sem.run_map, e1, Result.andThen_ok, Sem.run_pure]
    have hval : VRel ι' (Own F ι' σ'.H) w' (oneOrTup vs) (if h : cvs.toArray.size = 1 then cvs.toArray[0] else .tuple cvs.toArray) := by
      have hlen := e2.length
      cases e2 with
      | nil => exact .tup .nil
      | cons hv hs =>
        cases hs with
        | nil => exact hv
        | cons hv' hs' => exact .tup (.cons hv (.cons hv' hs'))
    have hpost : bodyPost P fn (fun e w' => ∃ ι' v cv H' k', e = .returned cv ∧ K v H' k' ∧ Out All F ι H k w ι' v cv H' k' w') .ret a' w' :=
      ⟨hh.defers, _, hrun, ι', _, _, σ'.H, σ'.k, rfl, e3, hx, hh.rep, hh.fresh, hval⟩
    rcases he with rfl | rfl
    · exact hpost
    · exact hpost
def View (H : Heap) (v : V) (H' : Heap) (v' : V) : Prop :=
 ∀ F ι w cv, Rep F ι H w → VRel ι (Own F ι H) w v cv → Rep F ι H' w ∧ Kept ι H w ι H' w ∧ (∀ n, n ∈ H'.map Prod.fst → n ∈ H.map Prod.fst) ∧ VRel ι (Own F ι H') w v' cv
theorem View.refl (H : Heap) (v : V) : View H v H v := fun _ _ _ _ R hv => ⟨R, .refl _ _ _, fun _ h => h, hv⟩
theorem View.trans {H'' : Heap} {v v' v'' : V} (h : View H v H' v') (h' : View H' v' H'' v'') : View H v H'' v'' := fun F ι w cv R hv => by
 obtain ⟨R1, K1, N1, V1⟩ := h F ι w cv R hv
 obtain ⟨R2, K2, N2, V2⟩ := h' F ι w cv R1 V1
 exact ⟨R2, K1.trans K2, fun n hn => N1 n (N2 n hn), V2⟩
theorem View.del (n : Nat) (v : V) : View H v (Sl.del n H) v := fun _ _ _ _ R hv => ⟨R.del n, kept_del R n, fun _ h => (names_del_sub n H).mem h, hv.stays (kept_del R n).stays⟩
theorem View.nil (v : V) : View H v [] v := by
 induction H with
 | nil => exact View.refl _ _
 | cons p r ih =>
  have h := View.del (H := p :: r) p.1 v
  simp only [Sl.del, if_true] at h
  exact h.trans ih
theorem View.perm (p : H.Perm H') (v : V) : View H v H' v := fun _ _ _ _ R hv => ⟨R.perm p, .perm p, fun _ h => (p.map _).mem_iff.2 h, hv.stays (Kept.perm p).stays⟩
theorem ro_of_sl {n i len : Nat} {sz : Nat} {es : List V} {cv : Value} (R : Rep F ι H w) (h : VRel ι (Own F ι H) w (.sl n i len) cv) (hn : look n H = some (.rows sz es)) (hl : i + len ≤ es.length) : VRel ι (Own F ι (Sl.del n H)) w (.ro sz ((es.drop i).take len)) cv := by
 have hS := (kept_del R n).stays (F := F)
 have hlen : ((es.drop i).take len).length = len := by rw [List.length_take, List.length_drop]; omega
 cases h with
 | sl0 h => simpa using VRel.ro0
 | sl hl' hg hm hoff hc0 hlc hcm hs =>
  rename_i off cap l
  obtain ⟨e1, e2, e3, e4, e5, c, e, hw, hc, hlo, hv⟩ := R.block hn hl' hg
  have hcl : ∀ v ∈ es, v.cells.length = sz := fun v hv => (fits_iff.1 (e3 v hv)).1
  have hmul : (i + len) * sz ≤ es.length * sz := Nat.mul_le_mul_right _ hl
  rw [Nat.add_mul] at hmul
  have hv' := (hv.drop (i * sz)).take (len * sz)
  rw [flatMap_drop hcl, flatMap_take (fun v hv => hcl v (List.mem_of_mem_drop hv))] at hv'
  have hlist : (((c.toList.drop l.o).take (es.length * sz)).drop (i * sz)).take (len * sz) = (c.toList.drop off).take (((es.drop i).take len).length * sz) := by
   rw [hlen]
   apply List.ext_getElem?
   intro q
   simp only [List.getElem?_take, List.getElem?_drop]
   by_cases hq : q < len * sz
   ·simp only [hq, if_true, show i * sz + q < es.length * sz by omega]
    congr 1; rw [hoff, e1]; omega
   ·simp [hq]
  rw [hlist] at hv'
  refine .ro e4 ?_ hw (fun v hv => e3 v (List.mem_of_mem_drop (List.mem_of_mem_take hv))) hlen.symm hlc ?_ rfl (VRels.stays hS hv')
  ·rintro (hF | ⟨m, B', l', hm', hl2, hg', hb⟩)
   ·exact e5 hF
   ·have h' := mem_del R.names hm'
    exact R.apart m B' n _ l' l h'.2 (look_mem hn) h'.1 hl2 hl' hg' hg hb
  ·rw [hlen, hoff, e1]; omega
theorem rp_of_ptr {n i j : Nat} {sz : Nat} {es : List V} {cv : Value} (R : Rep F ι H w) (h : VRel ι (Own F ι H) w (.ptr n i j) cv) (hn : look n H = some (.rows sz es)) (hl : i < es.length) : VRel ι (Own F ι (Sl.del n H)) w (.rp (es.getD i .any).cells j) cv := by
 have hS := (kept_del R n).stays (F := F)
 cases h with
 | ptr hl' hg hm hoff =>
  rename_i off l
  obtain ⟨e1, e2, e3, e4, e5, c, e, hw, hc, hlo, hv⟩ := R.block hn hl' hg
  have hcl : ∀ v ∈ es, v.cells.length = sz := fun v hv => (fits_iff.1 (e3 v hv)).1
  obtain ⟨v, hvi⟩ : ∃ v, es[i]? = some v := ⟨_, List.getElem?_eq_getElem hl⟩
  have hd : es.getD i .any = v := by simp [List.getD, hvi]
  have hvf := fits_iff.1 (e3 v (List.mem_of_getElem? hvi))
  have hmul : i * sz + sz ≤ es.length * sz := by rw [← Nat.succ_mul]; exact Nat.mul_le_mul_right _ hl
  have hel := (hv.drop (i * sz)).take sz
  rw [flatMap_elem hcl hvi] at hel
  have hlist : (((c.toList.drop l.o).take (es.length * sz)).drop (i * sz)).take sz = (c.toList.drop (l.o + i * sz)).take v.cells.length := by
   rw [hvf.1]
   apply List.ext_getElem?
   intro q
   simp only [List.getElem?_take, List.getElem?_drop]
   by_cases hq : q < sz
   ·simp only [hq, if_true, show i * sz + q < es.length * sz by omega]
    congr 1; omega
   ·simp [hq]
  rw [hlist] at hel
  rw [hd]
  refine .rp e4 ?_ hw (by simpa using hvf.2) (by rw [hvf.1]; omega) rfl (VRels.stays hS hel) (by rw [hoff, e1])
  rintro (hF | ⟨m, B', l', hm', hl2, hg', hb⟩)
  ·exact e5 hF
  ·have h' := mem_del R.names hm'
   exact R.apart m B' n _ l' l h'.2 (look_mem hn) h'.1 hl2 hl' hg' hg hb
theorem View.freeze {n i len sz : Nat} {es : List V} (hn : look n H = some (.rows sz es)) (hl : i + len ≤ es.length) : View H (.sl n i len) (Sl.del n H) (.ro sz ((es.drop i).take len)) := fun _ _ _ _ R hv =>
 ⟨R.del n, kept_del R n, fun _ h => (names_del_sub n H).mem h, ro_of_sl R hv hn hl⟩
theorem View.freezeAll {n len sz : Nat} {es : List V} (hn : look n H = some (.rows sz es)) (hl : len = es.length) : View H (.sl n 0 len) (Sl.del n H) (.ro sz es) := by
 have := View.freeze (i := 0) (len := len) hn (by omega)
 simpa [hl] using this
theorem Weaker.freeze {N k n sz : Nat} {es : List V} {t t' : List (Nat × V)} (hn : look n H = some (.rows sz es))
    (h : ∀ i, get t' i = .any ∨ get t' i = get t i ∨ (∃ q len, get t i = .sl n q len ∧ q + len ≤ es.length ∧ get t' i = .ro sz ((es.drop q).take len)) ∨ (∃ q j, get t i = .ptr n q j ∧ q < es.length ∧ get t' i = .rp (es.getD q .any).cells j)) :
    Weaker ⟨N, t, H, k⟩ ⟨N, t', Sl.del n H, k⟩ :=
  ⟨fun F ι a w hh => by
    have K := kept_del hh.rep n
    refine ⟨ι, ⟨hh.defers, hh.size, fun i => ?_, hh.rep.del n, hh.fresh⟩, K, Nat.le_refl _, fun _ _ => rfl, fun _ h => .inl ((names_del_sub n H).mem h)⟩
    have ht := hh.tmps i
    rcases h i with e | e | ⟨q, len, e1, e2, e3⟩ | ⟨q, j, e1, e2, e3⟩
    · rw [e]; exact .any _
    · rw [e]; exact ht.stays K.stays
    · rw [e1] at ht; rw [e3]; exact ro_of_sl hh.rep ht hn e2
    · rw [e1] at ht; rw [e3]; exact rp_of_ptr hh.rep ht hn e2⟩
theorem Weaker.ghost {N k : Nat} {t : List (Nat × V)} (i sz : Nat) (h : get t i = .val (.slice none 0 0)) : Weaker ⟨N, t, H, k⟩ ⟨N, (i, .sl k 0 0) :: t, (k, .rows sz []) :: H, k + 1⟩ :=
 ⟨fun F ι a w hh => by
  have hk := hh.fresh k trivial (Nat.le_refl _)
  obtain ⟨R, K⟩ := hh.rep.ghost hk sz
  refine ⟨_, ⟨hh.defers, hh.size, fun j => ?_, R, fun n _ hn => ?_⟩, K, Nat.le_succ _, fun n hn => upd_other _ _ _ _ (by have := hn trivial; simp only [] at this; omega), fun n hn => ?_⟩
  ·have ht := hh.tmps j
   simp only [get]
   split
   ·subst_vars
    simp only [] at ht
    rw [h] at ht
    rw [ht.inv_val]
    exact .sl0 (upd_same _ _ _)
   ·exact ht.stays K.stays
  ·simp only [] at hn
   rw [upd_other _ _ _ _ (by omega)]
   exact hh.fresh n trivial (by simp only []; omega)
  ·simp only [List.map_cons, List.mem_cons] at hn
   rcases hn with hn | hn
   ·exact .inr ⟨trivial, by simp only []; omega⟩
   ·exact .inl hn⟩
theorem Fn.view {f : FuncId} {args : List V} {k : Nat} {K : V → Heap → Nat → Prop} (h : Fn P f args H k fun v H' k' => ∃ H'' v', View H' v H'' v' ∧ K v' H'' k') : Fn P f args H k K := by
 refine ⟨h.enters, fun F ι w cargs h1 h2 h3 => (h.calls F ι w cargs h1 h2 h3).mono ?_⟩
 rintro e w' ⟨ι', v, cv, H', k', he, ⟨H'', v', hv, hk⟩, hO⟩
 obtain ⟨R, K, N, V⟩ := hv F ι' w' cv hO.rep hO.val
 exact ⟨ι', v', cv, H'', k', he, hk, ⟨hO.ext.kept.trans K, hO.ext.le, hO.ext.same, fun n hn => hO.ext.dom n (N n hn)⟩, R, hO.fresh, V⟩
def NL (v : V) : Prop := ∀ ι ι' O w cv, VRel ι O w v cv → VRel ι' O w v cv
def NLs (vs : List V) : Prop := ∀ v ∈ vs, NL v
omit [Md] in
theorem NLs.rels {vs : List V} (h : NLs vs) {xs : List Value} (hv : VRels ι O w vs xs) : VRels ι' O w vs xs := by
 induction vs generalizing xs with
 | nil => cases hv; exact .nil
 | cons v vs ih => cases hv with | cons h1 h2 => exact .cons (h v (by simp) _ _ _ _ _ h1) (ih (fun u hu => h u (by simp [hu])) h2)
omit [Md] in
theorem NL.any : NL .any := fun _ _ _ _ _ _ => .any _
omit [Md] in
theorem NL.val (v : Value) : NL (.val v) := fun _ _ _ _ _ h => by cases h with | val _ h => exact .val _ h
omit [Md] in
theorem NL.agg {cs : List V} (h : NLs cs) : NL (.agg cs) := fun _ _ _ _ _ hv => by cases hv with | agg hv => exact .agg (h.rels hv)
omit [Md] in
theorem NL.tup {cs : List V} (h : NLs cs) : NL (.tup cs) := fun _ _ _ _ _ hv => by cases hv with | tup hv => exact .tup (h.rels hv)
omit [Md] in
theorem NL.ro {sz : Nat} {es : List V} (h : ∀ v ∈ es, NLs v.cells) : NL (.ro sz es) := fun _ _ _ _ _ hv => by
 cases hv with
 | ro0 => exact .ro0
 | ro hb hO hw hsz hlen hlc hin hvs hv =>
  refine .ro hb hO hw hsz hlen hlc hin hvs (NLs.rels ?_ hv)
  intro c hc
  obtain ⟨v, h1, h2⟩ := List.mem_flatMap.1 hc
  exact h v h1 c h2
omit [Md] in
theorem NL.rp {cs : List V} {j : Nat} (h : NLs cs) : NL (.rp cs j) := fun _ _ _ _ _ hv => by
 cases hv with
 | rp hb hO hw hsz hin hvs hv ho => exact .rp hb hO hw hsz hin hvs (h.rels hv) ho
omit [Md] in
theorem NLs.nil : NLs [] := by intro v h; cases h
omit [Md] in
theorem NLs.cons {v : V} {vs : List V} (h : NL v) (hs : NLs vs) : NLs (v :: vs) := by
 intro u hu; cases hu with
 | head => exact h
 | tail _ hu => exact hs u hu
omit [Md] in
theorem NL.cells {v : V} (h : NL v) (ha : ∀ cs, v = .agg cs → NLs cs) : NLs v.cells := by
 cases v with
 | agg cs => exact ha cs rfl
 | _ => exact .cons h .nil
structure Pf (P : Program) (f : FuncId) (args : List V) (r : V) : Prop where
 enters : Enters P f
 calls : ∀ ι O w cargs, (∀ b, O b → b < w.heap.size) → VRels ι O w args cargs → Calls P f cargs.toArray w fun e w' => ∃ cv, e = .returned cv ∧ VRel ι O w' r cv ∧
  w'.os = w.os ∧ Tp w w' ∧ w'.output = w.output ∧ w.heap.size ≤ w'.heap.size ∧ ∀ b, b < w.heap.size → w'.heap[b]? = w.heap[b]?
omit [Md] in
theorem NLs.of_rel {vs : List V} (h : NLs vs) {xs : List Value} (hv : VRels ι O w vs xs) : VRels ι' O w vs xs := h.rels hv
theorem Pf.of_fn {f : FuncId} {args : List V} {r : V} (ha : NLs args) (hr : NL r) (h : Fn P f args [] 0 fun v _ _ => v = r) : Pf P f args r := by
 refine ⟨h.enters, fun ι O w cargs hO hv => ?_⟩
 have hown : Own O (fun _ => none) [] = O := funext fun b => propext ⟨fun h => h.elim id (fun ⟨_, _, _, h, _⟩ => by cases h), .inl⟩
 have R : Rep O (fun _ => none) [] w := ⟨hO, by simp, (by intro _ _ h; cases h), (by intro _ _ _ _ _ _ h; cases h)⟩
 refine (h.calls O (fun _ => none) w cargs (by rw [hown]; exact ha.rels hv) R (fun _ _ => rfl)).mono ?_
 rintro e w' ⟨ι', v, cv, H', k', he, rfl, hO'⟩
 have hno : ∀ b, b < w.heap.size → ¬ OwnH ι' H' b := fun b hb ho => by
  obtain ⟨_, _, _, h, _⟩ := hO'.ext.kept.old b hb ho; cases h
 have K := hO'.ext.kept
 refine ⟨cv, he, ?_, K.os, K.tape, K.output, K.size, fun b hb => K.stay b hb fun ⟨_, _, _, h, _⟩ => by cases h⟩
 obtain ⟨_, _, _, V⟩ := View.nil (H := H') v O ι' w' cv hO'.rep hO'.val
 have hown' : Own O ι' [] = O := funext fun b => propext ⟨fun h => h.elim id (fun ⟨_, _, _, h, _⟩ => by cases h), .inl⟩
 rw [hown'] at V
 exact hr _ _ _ _ _ V
theorem Pf.fn {f : FuncId} {args : List V} {r : V} (h : Pf P f args r) {k : Nat} {K : V → Heap → Nat → Prop} (hk : K r H k) : Fn P f args H k K := by
 refine ⟨h.enters, fun F ι w cargs h1 h2 h3 => ?_⟩
 have hOb : ∀ b, Own F ι H b → b < w.heap.size := by
  rintro b (hF | ⟨n, B, l, hm, hl, hg, rfl⟩)
  ·exact h2.frame b hF
  ·obtain ⟨l', hl', _, h'⟩ := h2.own n B hm
   rw [hl] at hl'; cases hl'
   exact (h' hg).1
 refine (h.calls ι (Own F ι H) w cargs hOb h1).mono ?_
 rintro e w' ⟨cv, he, hv, ho, ht, hu, hs, hb⟩
 have K' : Kept ι H w ι H w' := ⟨fun _ _ h => h, ho, ht, hu, hs, fun b hb' _ => hb b hb', fun _ _ h => h⟩
 refine ⟨ι, r, cv, H, k, he, hk, ⟨K', Nat.le_refl _, fun _ _ => rfl, fun _ h => .inl h⟩, ?_, fun n _ => h3 n, hv⟩
 refine ⟨fun b hF => Nat.lt_of_lt_of_le (h2.frame b hF) hs, h2.names, fun n B hm => ?_, h2.apart⟩
 obtain ⟨l, hl, hB, hg⟩ := h2.own n B hm
 exact ⟨l, hl, BRel.stays K'.stays (fun hgh => hb _ (hg hgh).1) hB, fun hgh => ⟨Nat.lt_of_lt_of_le (hg hgh).1 hs, (hg hgh).2⟩⟩
end
end Go.Sl
namespace Go.Proofs.Tryd
open Go.Sl
def Tl : List (Nat × TI) := [
 (1, ⟨.func, 1, 8, [.nilFunc]⟩),
 (2, ⟨.int .i64, 1, 8, [.int .i64 0]⟩),
 (3, ⟨.int .i64, 1, 8, [.int .i64 0]⟩),
 (4, ⟨.bool, 1, 1, [.bool false]⟩),
 (5, ⟨.int .u8, 1, 1, [.int .u8 0]⟩),
 (9, ⟨.string, 1, 16, [.string ⟨#[]⟩]⟩),
 (22, ⟨.slice 26, 1, 24, [.slice none 0 0]⟩),
 (23, ⟨.int .u64, 1, 8, [.int .u64 0]⟩),
 (24, ⟨.array 40 23, 40, 320, [.int .u64 0, .int .u64 0, .int .u64 0, .int .u64 0, .int .u64 0, .int .u64 0, .int .u64 0, .int .u64 0, .int .u64 0, .int .u64 0, .int .u64 0, .int .u64 0, .int .u64 0, .int .u64 0, .int .u64 0, .int .u64 0, .int .u64 0, .int .u64 0, .int .u64 0, .int .u64 0, .int .u64 0, .int .u64 0, .int .u64 0, .int .u64 0, .int .u64 0, .int .u64 0, .int .u64 0, .int .u64 0, .int .u64 0, .int .u64 0, .int .u64 0, .int .u64 0, .int .u64 0, .int .u64 0, .int .u64 0, .int .u64 0, .int .u64 0, .int .u64 0, .int .u64 0, .int .u64 0]⟩),
 (25, ⟨.struct [(3, 0, 1), (24, 1, 40)], 41, 328, [.int .i64 0, .int .u64 0, .int .u64 0, .int .u64 0, .int .u64 0, .int .u64 0, .int .u64 0, .int .u64 0, .int .u64 0, .int .u64 0, .int .u64 0, .int .u64 0, .int .u64 0, .int .u64 0, .int .u64 0, .int .u64 0, .int .u64 0, .int .u64 0, .int .u64 0, .int .u64 0, .int .u64 0, .int .u64 0, .int .u64 0, .int .u64 0, .int .u64 0, .int .u64 0, .int .u64 0, .int .u64 0, .int .u64 0, .int .u64 0, .int .u64 0, .int .u64 0, .int .u64 0, .int .u64 0, .int .u64 0, .int .u64 0, .int .u64 0, .int .u64 0, .int .u64 0, .int .u64 0, .int .u64 0]⟩),
 (26, ⟨.struct [(3, 0, 1), (24, 1, 40)], 41, 328, [.int .i64 0, .int .u64 0, .int .u64 0, .int .u64 0, .int .u64 0, .int .u64 0, .int .u64 0, .int .u64 0, .int .u64 0, .int .u64 0, .int .u64 0, .int .u64 0, .int .u64 0, .int .u64 0, .int .u64 0, .int .u64 0, .int .u64 0, .int .u64 0, .int .u64 0, .int .u64 0, .int .u64 0, .int .u64 0, .int .u64 0, .int .u64 0, .int .u64 0, .int .u64 0, .int .u64 0, .int .u64 0, .int .u64 0, .int .u64 0, .int .u64 0, .int .u64 0, .int .u64 0, .int .u64 0, .int .u64 0, .int .u64 0, .int .u64 0, .int .u64 0, .int .u64 0, .int .u64 0, .int .u64 0]⟩),
 (27, ⟨.func, 1, 8, [.nilFunc]⟩),
 (29, ⟨.slice 26, 1, 24, [.slice none 0 0]⟩),
 (32, ⟨.slice 106, 1, 24, [.slice none 0 0]⟩),
 (33, ⟨.slice 107, 1, 24, [.slice none 0 0]⟩),
 (34, ⟨.slice 114, 1, 24, [.slice none 0 0]⟩),
 (35, ⟨.struct [(32, 0, 1), (33, 1, 1), (34, 2, 1)], 3, 72, [.slice none 0 0, .slice none 0 0, .slice none 0 0]⟩),
 (36, ⟨.struct [(32, 0, 1), (33, 1, 1), (34, 2, 1)], 3, 72, [.slice none 0 0, .slice none 0 0, .slice none 0 0]⟩),
 (37, ⟨.slice 23, 1, 24, [.slice none 0 0]⟩),
 (39, ⟨.int .i64, 1, 8, [.int .i64 0]⟩),
 (41, ⟨.slice 117, 1, 24, [.slice none 0 0]⟩),
 (42, ⟨.slice 118, 1, 24, [.slice none 0 0]⟩),
 (43, ⟨.slice 123, 1, 24, [.slice none 0 0]⟩),
 (44, ⟨.struct [(41, 0, 1), (42, 1, 1), (43, 2, 1)], 3, 72, [.slice none 0 0, .slice none 0 0, .slice none 0 0]⟩),
 (45, ⟨.struct [(41, 0, 1), (42, 1, 1), (43, 2, 1)], 3, 72, [.slice none 0 0, .slice none 0 0, .slice none 0 0]⟩),
 (46, ⟨.func, 1, 8, [.nilFunc]⟩),
 (47, ⟨.slice 49, 1, 24, [.slice none 0 0]⟩),
 (48, ⟨.slice 37, 1, 24, [.slice none 0 0]⟩),
 (49, ⟨.array 8 23, 8, 64, [.int .u64 0, .int .u64 0, .int .u64 0, .int .u64 0, .int .u64 0, .int .u64 0, .int .u64 0, .int .u64 0]⟩),
 (50, ⟨.func, 1, 8, [.nilFunc]⟩),
 (51, ⟨.pointer 36, 1, 8, [.pointer none]⟩),
 (52, ⟨.func, 1, 8, [.nilFunc]⟩),
 (53, ⟨.slice 59, 1, 24, [.slice none 0 0]⟩),
 (54, ⟨.func, 1, 8, [.nilFunc]⟩),
 (55, ⟨.slice 58, 1, 24, [.slice none 0 0]⟩),
 (56, ⟨.func, 1, 8, [.nilFunc]⟩),
 (57, ⟨.struct [(3, 0, 1), (3, 1, 1)], 2, 16, [.int .i64 0, .int .i64 0]⟩),
 (58, ⟨.struct [(3, 0, 1), (3, 1, 1)], 2, 16, [.int .i64 0, .int .i64 0]⟩),
 (59, ⟨.struct [(3, 0, 1), (3, 1, 1)], 2, 16, [.int .i64 0, .int .i64 0]⟩),
 (61, ⟨.func, 1, 8, [.nilFunc]⟩),
 (65, ⟨.array 32 5, 32, 32, [.int .u8 0, .int .u8 0, .int .u8 0, .int .u8 0, .int .u8 0, .int .u8 0, .int .u8 0, .int .u8 0, .int .u8 0, .int .u8 0, .int .u8 0, .int .u8 0, .int .u8 0, .int .u8 0, .int .u8 0, .int .u8 0, .int .u8 0, .int .u8 0, .int .u8 0, .int .u8 0, .int .u8 0, .int .u8 0, .int .u8 0, .int .u8 0, .int .u8 0, .int .u8 0, .int .u8 0, .int .u8 0, .int .u8 0, .int .u8 0, .int .u8 0, .int .u8 0]⟩),
 (66, ⟨.array 32 5, 32, 32, [.int .u8 0, .int .u8 0, .int .u8 0, .int .u8 0, .int .u8 0, .int .u8 0, .int .u8 0, .int .u8 0, .int .u8 0, .int .u8 0, .int .u8 0, .int .u8 0, .int .u8 0, .int .u8 0, .int .u8 0, .int .u8 0, .int .u8 0, .int .u8 0, .int .u8 0, .int .u8 0, .int .u8 0, .int .u8 0, .int .u8 0, .int .u8 0, .int .u8 0, .int .u8 0, .int .u8 0, .int .u8 0, .int .u8 0, .int .u8 0, .int .u8 0, .int .u8 0]⟩),
 (70, ⟨.func, 1, 8, [.nilFunc]⟩),
 (71, ⟨.func, 1, 8, [.nilFunc]⟩),
 (73, ⟨.func, 1, 8, [.nilFunc]⟩),
 (74, ⟨.func, 1, 8, [.nilFunc]⟩),
 (80, ⟨.slice 5, 1, 24, [.slice none 0 0]⟩),
 (81, ⟨.struct [(80, 0, 1)], 1, 24, [.slice none 0 0]⟩),
 (82, ⟨.struct [(80, 0, 1)], 1, 24, [.slice none 0 0]⟩),
 (87, ⟨.int .u32, 1, 4, [.int .u32 0]⟩),
 (90, ⟨.pointer 141, 1, 8, [.pointer none]⟩),
 (94, ⟨.array 8 87, 8, 32, [.int .u32 0, .int .u32 0, .int .u32 0, .int .u32 0, .int .u32 0, .int .u32 0, .int .u32 0, .int .u32 0]⟩),
 (95, ⟨.struct [(4, 0, 1), (94, 1, 8), (80, 9, 1), (23, 10, 1)], 11, 72, [.bool false, .int .u32 0, .int .u32 0, .int .u32 0, .int .u32 0, .int .u32 0, .int .u32 0, .int .u32 0, .int .u32 0, .slice none 0 0, .int .u64 0]⟩),
 (96, ⟨.struct [(4, 0, 1), (94, 1, 8), (80, 9, 1), (23, 10, 1)], 11, 72, [.bool false, .int .u32 0, .int .u32 0, .int .u32 0, .int .u32 0, .int .u32 0, .int .u32 0, .int .u32 0, .int .u32 0, .slice none 0 0, .int .u64 0]⟩),
 (97, ⟨.func, 1, 8, [.nilFunc]⟩),
 (98, ⟨.func, 1, 8, [.nilFunc]⟩),
 (99, ⟨.func, 1, 8, [.nilFunc]⟩),
 (100, ⟨.func, 1, 8, [.nilFunc]⟩),
 (101, ⟨.func, 1, 8, [.nilFunc]⟩),
 (102, ⟨.func, 1, 8, [.nilFunc]⟩),
 (103, ⟨.func, 1, 8, [.nilFunc]⟩),
 (104, ⟨.func, 1, 8, [.nilFunc]⟩),
 (105, ⟨.struct [(9, 0, 1), (23, 1, 1)], 2, 24, [.string ⟨#[]⟩, .int .u64 0]⟩),
 (106, ⟨.struct [(9, 0, 1), (23, 1, 1)], 2, 24, [.string ⟨#[]⟩, .int .u64 0]⟩),
 (107, ⟨.slice 111, 1, 24, [.slice none 0 0]⟩),
 (108, ⟨.struct [(4, 0, 1), (23, 1, 1)], 2, 16, [.bool false, .int .u64 0]⟩),
 (109, ⟨.struct [(4, 0, 1), (23, 1, 1)], 2, 16, [.bool false, .int .u64 0]⟩),
 (110, ⟨.struct [(3, 0, 1), (3, 1, 1), (3, 2, 1), (109, 3, 2), (109, 5, 2), (4, 7, 1), (4, 8, 1), (3, 9, 1), (3, 10, 1), (3, 11, 1), (3, 12, 1)], 13, 96, [.int .i64 0, .int .i64 0, .int .i64 0, .bool false, .int .u64 0, .bool false, .int .u64 0, .bool false, .bool false, .int .i64 0, .int .i64 0, .int .i64 0, .int .i64 0]⟩),
 (111, ⟨.struct [(3, 0, 1), (3, 1, 1), (3, 2, 1), (109, 3, 2), (109, 5, 2), (4, 7, 1), (4, 8, 1), (3, 9, 1), (3, 10, 1), (3, 11, 1), (3, 12, 1)], 13, 96, [.int .i64 0, .int .i64 0, .int .i64 0, .bool false, .int .u64 0, .bool false, .int .u64 0, .bool false, .bool false, .int .i64 0, .int .i64 0, .int .i64 0, .int .i64 0]⟩),
 (112, ⟨.func, 1, 8, [.nilFunc]⟩),
 (113, ⟨.struct [(3, 0, 1), (3, 1, 1), (23, 2, 1)], 3, 24, [.int .i64 0, .int .i64 0, .int .u64 0]⟩),
 (114, ⟨.struct [(3, 0, 1), (3, 1, 1), (23, 2, 1)], 3, 24, [.int .i64 0, .int .i64 0, .int .u64 0]⟩),
 (115, ⟨.func, 1, 8, [.nilFunc]⟩),
 (116, ⟨.func, 1, 8, [.nilFunc]⟩),
 (117, ⟨.struct [(9, 0, 1), (23, 1, 1)], 2, 24, [.string ⟨#[]⟩, .int .u64 0]⟩),
 (118, ⟨.slice 121, 1, 24, [.slice none 0 0]⟩),
 (119, ⟨.struct [(4, 0, 1), (23, 1, 1)], 2, 16, [.bool false, .int .u64 0]⟩),
 (120, ⟨.struct [(3, 0, 1), (3, 1, 1), (3, 2, 1), (119, 3, 2), (119, 5, 2), (4, 7, 1), (4, 8, 1), (3, 9, 1), (3, 10, 1), (3, 11, 1), (3, 12, 1)], 13, 96, [.int .i64 0, .int .i64 0, .int .i64 0, .bool false, .int .u64 0, .bool false, .int .u64 0, .bool false, .bool false, .int .i64 0, .int .i64 0, .int .i64 0, .int .i64 0]⟩),
 (121, ⟨.struct [(3, 0, 1), (3, 1, 1), (3, 2, 1), (119, 3, 2), (119, 5, 2), (4, 7, 1), (4, 8, 1), (3, 9, 1), (3, 10, 1), (3, 11, 1), (3, 12, 1)], 13, 96, [.int .i64 0, .int .i64 0, .int .i64 0, .bool false, .int .u64 0, .bool false, .int .u64 0, .bool false, .bool false, .int .i64 0, .int .i64 0, .int .i64 0, .int .i64 0]⟩),
 (122, ⟨.func, 1, 8, [.nilFunc]⟩),
 (123, ⟨.struct [(3, 0, 1), (3, 1, 1), (23, 2, 1)], 3, 24, [.int .i64 0, .int .i64 0, .int .u64 0]⟩),
 (124, ⟨.slice 3, 1, 24, [.slice none 0 0]⟩),
 (127, ⟨.slice 9, 1, 24, [.slice none 0 0]⟩),
 (131, ⟨.int .u64, 1, 8, [.int .u64 0]⟩),
 (134, ⟨.map 26 4, 1, 8, [.map none]⟩),
 (139, ⟨.pointer 82, 1, 8, [.pointer none]⟩),
 (140, ⟨.struct [(9, 0, 1), (3, 1, 1), (39, 2, 1)], 3, 32, [.string ⟨#[]⟩, .int .i64 0, .int .i64 0]⟩),
 (141, ⟨.struct [(9, 0, 1), (3, 1, 1), (39, 2, 1)], 3, 32, [.string ⟨#[]⟩, .int .i64 0, .int .i64 0]⟩),
 (142, ⟨.pointer 96, 1, 8, [.pointer none]⟩),
 (146, ⟨.array 16 87, 16, 64, [.int .u32 0, .int .u32 0, .int .u32 0, .int .u32 0, .int .u32 0, .int .u32 0, .int .u32 0, .int .u32 0, .int .u32 0, .int .u32 0, .int .u32 0, .int .u32 0, .int .u32 0, .int .u32 0, .int .u32 0, .int .u32 0]⟩),
 (151, ⟨.struct [(4, 0, 1), (4, 1, 1)], 2, 2, [.bool false, .bool false]⟩),
 (152, ⟨.struct [(4, 0, 1), (4, 1, 1)], 2, 2, [.bool false, .bool false]⟩),
 (154, ⟨.array 8 4, 8, 8, [.bool false, .bool false, .bool false, .bool false, .bool false, .bool false, .bool false, .bool false]⟩),
 (155, ⟨.pointer 157, 1, 8, [.pointer none]⟩),
 (156, ⟨.struct [(155, 0, 1), (80, 1, 1)], 2, 32, [.pointer none, .slice none 0 0]⟩),
 (157, ⟨.struct [(155, 0, 1), (80, 1, 1)], 2, 32, [.pointer none, .slice none 0 0]⟩),
 (165, ⟨.array 64 87, 64, 256, [.int .u32 0, .int .u32 0, .int .u32 0, .int .u32 0, .int .u32 0, .int .u32 0, .int .u32 0, .int .u32 0, .int .u32 0, .int .u32 0, .int .u32 0, .int .u32 0, .int .u32 0, .int .u32 0, .int .u32 0, .int .u32 0, .int .u32 0, .int .u32 0, .int .u32 0, .int .u32 0, .int .u32 0, .int .u32 0, .int .u32 0, .int .u32 0, .int .u32 0, .int .u32 0, .int .u32 0, .int .u32 0, .int .u32 0, .int .u32 0, .int .u32 0, .int .u32 0, .int .u32 0, .int .u32 0, .int .u32 0, .int .u32 0, .int .u32 0, .int .u32 0, .int .u32 0, .int .u32 0, .int .u32 0, .int .u32 0, .int .u32 0, .int .u32 0, .int .u32 0, .int .u32 0, .int .u32 0, .int .u32 0, .int .u32 0, .int .u32 0, .int .u32 0, .int .u32 0, .int .u32 0, .int .u32 0, .int .u32 0, .int .u32 0, .int .u32 0, .int .u32 0, .int .u32 0, .int .u32 0, .int .u32 0, .int .u32 0, .int .u32 0, .int .u32 0]⟩),
 (170, ⟨.array 24 5, 24, 24, [.int .u8 0, .int .u8 0, .int .u8 0, .int .u8 0, .int .u8 0, .int .u8 0, .int .u8 0, .int .u8 0, .int .u8 0, .int .u8 0, .int .u8 0, .int .u8 0, .int .u8 0, .int .u8 0, .int .u8 0, .int .u8 0, .int .u8 0, .int .u8 0, .int .u8 0, .int .u8 0, .int .u8 0, .int .u8 0, .int .u8 0, .int .u8 0]⟩),
 (174, ⟨.pointer 5, 1, 8, [.pointer none]⟩),
 (176, ⟨.int .i64, 1, 8, [.int .i64 0]⟩),
 (185, ⟨.array 20 23, 20, 160, [.int .u64 0, .int .u64 0, .int .u64 0, .int .u64 0, .int .u64 0, .int .u64 0, .int .u64 0, .int .u64 0, .int .u64 0, .int .u64 0, .int .u64 0, .int .u64 0, .int .u64 0, .int .u64 0, .int .u64 0, .int .u64 0, .int .u64 0, .int .u64 0, .int .u64 0, .int .u64 0]⟩),
 (186, ⟨.array 65 5, 65, 65, [.int .u8 0, .int .u8 0, .int .u8 0, .int .u8 0, .int .u8 0, .int .u8 0, .int .u8 0, .int .u8 0, .int .u8 0, .int .u8 0, .int .u8 0, .int .u8 0, .int .u8 0, .int .u8 0, .int .u8 0, .int .u8 0, .int .u8 0, .int .u8 0, .int .u8 0, .int .u8 0, .int .u8 0, .int .u8 0, .int .u8 0, .int .u8 0, .int .u8 0, .int .u8 0, .int .u8 0, .int .u8 0, .int .u8 0, .int .u8 0, .int .u8 0, .int .u8 0, .int .u8 0, .int .u8 0, .int .u8 0, .int .u8 0, .int .u8 0, .int .u8 0, .int .u8 0, .int .u8 0, .int .u8 0, .int .u8 0, .int .u8 0, .int .u8 0, .int .u8 0, .int .u8 0, .int .u8 0, .int .u8 0, .int .u8 0, .int .u8 0, .int .u8 0, .int .u8 0, .int .u8 0, .int .u8 0, .int .u8 0, .int .u8 0, .int .u8 0, .int .u8 0, .int .u8 0, .int .u8 0, .int .u8 0, .int .u8 0, .int .u8 0, .int .u8 0, .int .u8 0]⟩),
 (190, ⟨.int .u64, 1, 8, [.int .u64 0]⟩),
 (193, ⟨.pointer 3, 1, 8, [.pointer none]⟩)]
def T : Tab := fun t => Tl.lookup t
@[go_sem] theorem T_1 : T 1 = some ⟨.func, 1, 8, [.nilFunc]⟩ := by rfl
@[go_sem] theorem T_2 : T 2 = some ⟨.int .i64, 1, 8, [.int .i64 0]⟩ := by rfl
@[go_sem] theorem T_3 : T 3 = some ⟨.int .i64, 1, 8, [.int .i64 0]⟩ := by rfl
@[go_sem] theorem T_4 : T 4 = some ⟨.bool, 1, 1, [.bool false]⟩ := by rfl
@[go_sem] theorem T_5 : T 5 = some ⟨.int .u8, 1, 1, [.int .u8 0]⟩ := by rfl
@[go_sem] theorem T_9 : T 9 = some ⟨.string, 1, 16, [.string ⟨#[]⟩]⟩ := by rfl
@[go_sem] theorem T_22 : T 22 = some ⟨.slice 26, 1, 24, [.slice none 0 0]⟩ := by rfl
@[go_sem] theorem T_23 : T 23 = some ⟨.int .u64, 1, 8, [.int .u64 0]⟩ := by rfl
@[go_sem] theorem T_24 : T 24 = some ⟨.array 40 23, 40, 320, [.int .u64 0, .int .u64 0, .int .u64 0, .int .u64 0, .int .u64 0, .int .u64 0, .int .u64 0, .int .u64 0, .int .u64 0, .int .u64 0, .int .u64 0, .int .u64 0, .int .u64 0, .int .u64 0, .int .u64 0, .int .u64 0, .int .u64 0, .int .u64 0, .int .u64 0, .int .u64 0, .int .u64 0, .int .u64 0, .int .u64 0, .int .u64 0, .int .u64 0, .int .u64 0, .int .u64 0, .int .u64 0, .int .u64 0, .int .u64 0, .int .u64 0, .int .u64 0, .int .u64 0, .int .u64 0, .int .u64 0, .int .u64 0, .int .u64 0, .int .u64 0, .int .u64 0, .int .u64 0]⟩ := by rfl
@[go_sem] theorem T_25 : T 25 = some ⟨.struct [(3, 0, 1), (24, 1, 40)], 41, 328, [.int .i64 0, .int .u64 0, .int .u64 0, .int .u64 0, .int .u64 0, .int .u64 0, .int .u64 0, .int .u64 0, .int .u64 0, .int .u64 0, .int .u64 0, .int .u64 0, .int .u64 0, .int .u64 0, .int .u64 0, .int .u64 0, .int .u64 0, .int .u64 0, .int .u64 0, .int .u64 0, .int .u64 0, .int .u64 0, .int .u64 0, .int .u64 0, .int .u64 0, .int .u64 0, .int .u64 0, .int .u64 0, .int .u64 0, .int .u64 0, .int .u64 0, .int .u64 0, .int .u64 0, .int .u64 0, .int .u64 0, .int .u64 0, .int .u64 0, .int .u64 0, .int .u64 0, .int .u64 0, .int .u64 0]⟩ := by rfl
@[go_sem] theorem T_26 : T 26 = some ⟨.struct [(3, 0, 1), (24, 1, 40)], 41, 328, [.int .i64 0, .int .u64 0, .int .u64 0, .int .u64 0, .int .u64 0, .int .u64 0, .int .u64 0, .int .u64 0, .int .u64 0, .int .u64 0, .int .u64 0, .int .u64 0, .int .u64 0, .int .u64 0, .int .u64 0, .int .u64 0, .int .u64 0, .int .u64 0, .int .u64 0, .int .u64 0, .int .u64 0, .int .u64 0, .int .u64 0, .int .u64 0, .int .u64 0, .int .u64 0, .int .u64 0, .int .u64 0, .int .u64 0, .int .u64 0, .int .u64 0, .int .u64 0, .int .u64 0, .int .u64 0, .int .u64 0, .int .u64 0, .int .u64 0, .int .u64 0, .int .u64 0, .int .u64 0, .int .u64 0]⟩ := by rfl
@[go_sem] theorem T_27 : T 27 = some ⟨.func, 1, 8, [.nilFunc]⟩ := by rfl
@[go_sem] theorem T_29 : T 29 = some ⟨.slice 26, 1, 24, [.slice none 0 0]⟩ := by rfl
@[go_sem] theorem T_32 : T 32 = some ⟨.slice 106, 1, 24, [.slice none 0 0]⟩ := by rfl
@[go_sem] theorem T_33 : T 33 = some ⟨.slice 107, 1, 24, [.slice none 0 0]⟩ := by rfl
@[go_sem] theorem T_34 : T 34 = some ⟨.slice 114, 1, 24, [.slice none 0 0]⟩ := by rfl
@[go_sem] theorem T_35 : T 35 = some ⟨.struct [(32, 0, 1), (33, 1, 1), (34, 2, 1)], 3, 72, [.slice none 0 0, .slice none 0 0, .slice none 0 0]⟩ := by rfl
@[go_sem] theorem T_36 : T 36 = some ⟨.struct [(32, 0, 1), (33, 1, 1), (34, 2, 1)], 3, 72, [.slice none 0 0, .slice none 0 0, .slice none 0 0]⟩ := by rfl
@[go_sem] theorem T_37 : T 37 = some ⟨.slice 23, 1, 24, [.slice none 0 0]⟩ := by rfl
@[go_sem] theorem T_39 : T 39 = some ⟨.int .i64, 1, 8, [.int .i64 0]⟩ := by rfl
@[go_sem] theorem T_41 : T 41 = some ⟨.slice 117, 1, 24, [.slice none 0 0]⟩ := by rfl
@[go_sem] theorem T_42 : T 42 = some ⟨.slice 118, 1, 24, [.slice none 0 0]⟩ := by rfl
@[go_sem] theorem T_43 : T 43 = some ⟨.slice 123, 1, 24, [.slice none 0 0]⟩ := by rfl
@[go_sem] theorem T_44 : T 44 = some ⟨.struct [(41, 0, 1), (42, 1, 1), (43, 2, 1)], 3, 72, [.slice none 0 0, .slice none 0 0, .slice none 0 0]⟩ := by rfl
@[go_sem] theorem T_45 : T 45 = some ⟨.struct [(41, 0, 1), (42, 1, 1), (43, 2, 1)], 3, 72, [.slice none 0 0, .slice none 0 0, .slice none 0 0]⟩ := by rfl
@[go_sem] theorem T_46 : T 46 = some ⟨.func, 1, 8, [.nilFunc]⟩ := by rfl
@[go_sem] theorem T_47 : T 47 = some ⟨.slice 49, 1, 24, [.slice none 0 0]⟩ := by rfl
@[go_sem] theorem T_48 : T 48 = some ⟨.slice 37, 1, 24, [.slice none 0 0]⟩ := by rfl
@[go_sem] theorem T_49 : T 49 = some ⟨.array 8 23, 8, 64, [.int .u64 0, .int .u64 0, .int .u64 0, .int .u64 0, .int .u64 0, .int .u64 0, .int .u64 0, .int .u64 0]⟩ := by rfl
@[go_sem] theorem T_50 : T 50 = some ⟨.func, 1, 8, [.nilFunc]⟩ := by rfl
@[go_sem] theorem T_51 : T 51 = some ⟨.pointer 36, 1, 8, [.pointer none]⟩ := by rfl
@[go_sem] theorem T_52 : T 52 = some ⟨.func, 1, 8, [.nilFunc]⟩ := by rfl
@[go_sem] theorem T_53 : T 53 = some ⟨.slice 59, 1, 24, [.slice none 0 0]⟩ := by rfl
@[go_sem] theorem T_54 : T 54 = some ⟨.func, 1, 8, [.nilFunc]⟩ := by rfl
@[go_sem] theorem T_55 : T 55 = some ⟨.slice 58, 1, 24, [.slice none 0 0]⟩ := by rfl
@[go_sem] theorem T_56 : T 56 = some ⟨.func, 1, 8, [.nilFunc]⟩ := by rfl
@[go_sem] theorem T_57 : T 57 = some ⟨.struct [(3, 0, 1), (3, 1, 1)], 2, 16, [.int .i64 0, .int .i64 0]⟩ := by rfl
@[go_sem] theorem T_58 : T 58 = some ⟨.struct [(3, 0, 1), (3, 1, 1)], 2, 16, [.int .i64 0, .int .i64 0]⟩ := by rfl
@[go_sem] theorem T_59 : T 59 = some ⟨.struct [(3, 0, 1), (3, 1, 1)], 2, 16, [.int .i64 0, .int .i64 0]⟩ := by rfl
@[go_sem] theorem T_61 : T 61 = some ⟨.func, 1, 8, [.nilFunc]⟩ := by rfl
@[go_sem] theorem T_65 : T 65 = some ⟨.array 32 5, 32, 32, [.int .u8 0, .int .u8 0, .int .u8 0, .int .u8 0, .int .u8 0, .int .u8 0, .int .u8 0, .int .u8 0, .int .u8 0, .int .u8 0, .int .u8 0, .int .u8 0, .int .u8 0, .int .u8 0, .int .u8 0, .int .u8 0, .int .u8 0, .int .u8 0, .int .u8 0, .int .u8 0, .int .u8 0, .int .u8 0, .int .u8 0, .int .u8 0, .int .u8 0, .int .u8 0, .int .u8 0, .int .u8 0, .int .u8 0, .int .u8 0, .int .u8 0, .int .u8 0]⟩ := by rfl
@[go_sem] theorem T_66 : T 66 = some ⟨.array 32 5, 32, 32, [.int .u8 0, .int .u8 0, .int .u8 0, .int .u8 0, .int .u8 0, .int .u8 0, .int .u8 0, .int .u8 0, .int .u8 0, .int .u8 0, .int .u8 0, .int .u8 0, .int .u8 0, .int .u8 0, .int .u8 0, .int .u8 0, .int .u8 0, .int .u8 0, .int .u8 0, .int .u8 0, .int .u8 0, .int .u8 0, .int .u8 0, .int .u8 0, .int .u8 0, .int .u8 0, .int .u8 0, .int .u8 0, .int .u8 0, .int .u8 0, .int .u8 0, .int .u8 0]⟩ := by rfl
@[go_sem] theorem T_70 : T 70 = some ⟨.func, 1, 8, [.nilFunc]⟩ := by rfl
@[go_sem] theorem T_71 : T 71 = some ⟨.func, 1, 8, [.nilFunc]⟩ := by rfl
@[go_sem] theorem T_73 : T 73 = some ⟨.func, 1, 8, [.nilFunc]⟩ := by rfl
@[go_sem] theorem T_74 : T 74 = some ⟨.func, 1, 8, [.nilFunc]⟩ := by rfl
@[go_sem] theorem T_80 : T 80 = some ⟨.slice 5, 1, 24, [.slice none 0 0]⟩ := by rfl
@[go_sem] theorem T_81 : T 81 = some ⟨.struct [(80, 0, 1)], 1, 24, [.slice none 0 0]⟩ := by rfl
@[go_sem] theorem T_82 : T 82 = some ⟨.struct [(80, 0, 1)], 1, 24, [.slice none 0 0]⟩ := by rfl
@[go_sem] theorem T_87 : T 87 = some ⟨.int .u32, 1, 4, [.int .u32 0]⟩ := by rfl
@[go_sem] theorem T_90 : T 90 = some ⟨.pointer 141, 1, 8, [.pointer none]⟩ := by rfl
@[go_sem] theorem T_94 : T 94 = some ⟨.array 8 87, 8, 32, [.int .u32 0, .int .u32 0, .int .u32 0, .int .u32 0, .int .u32 0, .int .u32 0, .int .u32 0, .int .u32 0]⟩ := by rfl
@[go_sem] theorem T_95 : T 95 = some ⟨.struct [(4, 0, 1), (94, 1, 8), (80, 9, 1), (23, 10, 1)], 11, 72, [.bool false, .int .u32 0, .int .u32 0, .int .u32 0, .int .u32 0, .int .u32 0, .int .u32 0, .int .u32 0, .int .u32 0, .slice none 0 0, .int .u64 0]⟩ := by rfl
@[go_sem] theorem T_96 : T 96 = some ⟨.struct [(4, 0, 1), (94, 1, 8), (80, 9, 1), (23, 10, 1)], 11, 72, [.bool false, .int .u32 0, .int .u32 0, .int .u32 0, .int .u32 0, .int .u32 0, .int .u32 0, .int .u32 0, .int .u32 0, .slice none 0 0, .int .u64 0]⟩ := by rfl
@[go_sem] theorem T_97 : T 97 = some ⟨.func, 1, 8, [.nilFunc]⟩ := by rfl
@[go_sem] theorem T_98 : T 98 = some ⟨.func, 1, 8, [.nilFunc]⟩ := by rfl
@[go_sem] theorem T_99 : T 99 = some ⟨.func, 1, 8, [.nilFunc]⟩ := by rfl
@[go_sem] theorem T_100 : T 100 = some ⟨.func, 1, 8, [.nilFunc]⟩ := by rfl
@[go_sem] theorem T_101 : T 101 = some ⟨.func, 1, 8, [.nilFunc]⟩ := by rfl
@[go_sem] theorem T_102 : T 102 = some ⟨.func, 1, 8, [.nilFunc]⟩ := by rfl
@[go_sem] theorem T_103 : T 103 = some ⟨.func, 1, 8, [.nilFunc]⟩ := by rfl
@[go_sem] theorem T_104 : T 104 = some ⟨.func, 1, 8, [.nilFunc]⟩ := by rfl
@[go_sem] theorem T_105 : T 105 = some ⟨.struct [(9, 0, 1), (23, 1, 1)], 2, 24, [.string ⟨#[]⟩, .int .u64 0]⟩ := by rfl
@[go_sem] theorem T_106 : T 106 = some ⟨.struct [(9, 0, 1), (23, 1, 1)], 2, 24, [.string ⟨#[]⟩, .int .u64 0]⟩ := by rfl
@[go_sem] theorem T_107 : T 107 = some ⟨.slice 111, 1, 24, [.slice none 0 0]⟩ := by rfl
@[go_sem] theorem T_108 : T 108 = some ⟨.struct [(4, 0, 1), (23, 1, 1)], 2, 16, [.bool false, .int .u64 0]⟩ := by rfl
@[go_sem] theorem T_109 : T 109 = some ⟨.struct [(4, 0, 1), (23, 1, 1)], 2, 16, [.bool false, .int .u64 0]⟩ := by rfl
@[go_sem] theorem T_110 : T 110 = some ⟨.struct [(3, 0, 1), (3, 1, 1), (3, 2, 1), (109, 3, 2), (109, 5, 2), (4, 7, 1), (4, 8, 1), (3, 9, 1), (3, 10, 1), (3, 11, 1), (3, 12, 1)], 13, 96, [.int .i64 0, .int .i64 0, .int .i64 0, .bool false, .int .u64 0, .bool false, .int .u64 0, .bool false, .bool false, .int .i64 0, .int .i64 0, .int .i64 0, .int .i64 0]⟩ := by rfl
@[go_sem] theorem T_111 : T 111 = some ⟨.struct [(3, 0, 1), (3, 1, 1), (3, 2, 1), (109, 3, 2), (109, 5, 2), (4, 7, 1), (4, 8, 1), (3, 9, 1), (3, 10, 1), (3, 11, 1), (3, 12, 1)], 13, 96, [.int .i64 0, .int .i64 0, .int .i64 0, .bool false, .int .u64 0, .bool false, .int .u64 0, .bool false, .bool false, .int .i64 0, .int .i64 0, .int .i64 0, .int .i64 0]⟩ := by rfl
@[go_sem] theorem T_112 : T 112 = some ⟨.func, 1, 8, [.nilFunc]⟩ := by rfl
@[go_sem] theorem T_113 : T 113 = some ⟨.struct [(3, 0, 1), (3, 1, 1), (23, 2, 1)], 3, 24, [.int .i64 0, .int .i64 0, .int .u64 0]⟩ := by rfl
@[go_sem] theorem T_114 : T 114 = some ⟨.struct [(3, 0, 1), (3, 1, 1), (23, 2, 1)], 3, 24, [.int .i64 0, .int .i64 0, .int .u64 0]⟩ := by rfl
@[go_sem] theorem T_115 : T 115 = some ⟨.func, 1, 8, [.nilFunc]⟩ := by rfl
@[go_sem] theorem T_116 : T 116 = some ⟨.func, 1, 8, [.nilFunc]⟩ := by rfl
@[go_sem] theorem T_117 : T 117 = some ⟨.struct [(9, 0, 1), (23, 1, 1)], 2, 24, [.string ⟨#[]⟩, .int .u64 0]⟩ := by rfl
@[go_sem] theorem T_118 : T 118 = some ⟨.slice 121, 1, 24, [.slice none 0 0]⟩ := by rfl
@[go_sem] theorem T_119 : T 119 = some ⟨.struct [(4, 0, 1), (23, 1, 1)], 2, 16, [.bool false, .int .u64 0]⟩ := by rfl
@[go_sem] theorem T_120 : T 120 = some ⟨.struct [(3, 0, 1), (3, 1, 1), (3, 2, 1), (119, 3, 2), (119, 5, 2), (4, 7, 1), (4, 8, 1), (3, 9, 1), (3, 10, 1), (3, 11, 1), (3, 12, 1)], 13, 96, [.int .i64 0, .int .i64 0, .int .i64 0, .bool false, .int .u64 0, .bool false, .int .u64 0, .bool false, .bool false, .int .i64 0, .int .i64 0, .int .i64 0, .int .i64 0]⟩ := by rfl
@[go_sem] theorem T_121 : T 121 = some ⟨.struct [(3, 0, 1), (3, 1, 1), (3, 2, 1), (119, 3, 2), (119, 5, 2), (4, 7, 1), (4, 8, 1), (3, 9, 1), (3, 10, 1), (3, 11, 1), (3, 12, 1)], 13, 96, [.int .i64 0, .int .i64 0, .int .i64 0, .bool false, .int .u64 0, .bool false, .int .u64 0, .bool false, .bool false, .int .i64 0, .int .i64 0, .int .i64 0, .int .i64 0]⟩ := by rfl
@[go_sem] theorem T_122 : T 122 = some ⟨.func, 1, 8, [.nilFunc]⟩ := by rfl
@[go_sem] theorem T_123 : T 123 = some ⟨.struct [(3, 0, 1), (3, 1, 1), (23, 2, 1)], 3, 24, [.int .i64 0, .int .i64 0, .int .u64 0]⟩ := by rfl
@[go_sem] theorem T_124 : T 124 = some ⟨.slice 3, 1, 24, [.slice none 0 0]⟩ := by rfl
@[go_sem] theorem T_127 : T 127 = some ⟨.slice 9, 1, 24, [.slice none 0 0]⟩ := by rfl
@[go_sem] theorem T_131 : T 131 = some ⟨.int .u64, 1, 8, [.int .u64 0]⟩ := by rfl
@[go_sem] theorem T_134 : T 134 = some ⟨.map 26 4, 1, 8, [.map none]⟩ := by rfl
@[go_sem] theorem T_139 : T 139 = some ⟨.pointer 82, 1, 8, [.pointer none]⟩ := by rfl
@[go_sem] theorem T_140 : T 140 = some ⟨.struct [(9, 0, 1), (3, 1, 1), (39, 2, 1)], 3, 32, [.string ⟨#[]⟩, .int .i64 0, .int .i64 0]⟩ := by rfl
@[go_sem] theorem T_141 : T 141 = some ⟨.struct [(9, 0, 1), (3, 1, 1), (39, 2, 1)], 3, 32, [.string ⟨#[]⟩, .int .i64 0, .int .i64 0]⟩ := by rfl
@[go_sem] theorem T_142 : T 142 = some ⟨.pointer 96, 1, 8, [.pointer none]⟩ := by rfl
@[go_sem] theorem T_146 : T 146 = some ⟨.array 16 87, 16, 64, [.int .u32 0, .int .u32 0, .int .u32 0, .int .u32 0, .int .u32 0, .int .u32 0, .int .u32 0, .int .u32 0, .int .u32 0, .int .u32 0, .int .u32 0, .int .u32 0, .int .u32 0, .int .u32 0, .int .u32 0, .int .u32 0]⟩ := by rfl
@[go_sem] theorem T_151 : T 151 = some ⟨.struct [(4, 0, 1), (4, 1, 1)], 2, 2, [.bool false, .bool false]⟩ := by rfl
@[go_sem] theorem T_152 : T 152 = some ⟨.struct [(4, 0, 1), (4, 1, 1)], 2, 2, [.bool false, .bool false]⟩ := by rfl
@[go_sem] theorem T_154 : T 154 = some ⟨.array 8 4, 8, 8, [.bool false, .bool false, .bool false, .bool false, .bool false, .bool false, .bool false, .bool false]⟩ := by rfl
@[go_sem] theorem T_155 : T 155 = some ⟨.pointer 157, 1, 8, [.pointer none]⟩ := by rfl
@[go_sem] theorem T_156 : T 156 = some ⟨.struct [(155, 0, 1), (80, 1, 1)], 2, 32, [.pointer none, .slice none 0 0]⟩ := by rfl
@[go_sem] theorem T_157 : T 157 = some ⟨.struct [(155, 0, 1), (80, 1, 1)], 2, 32, [.pointer none, .slice none 0 0]⟩ := by rfl
@[go_sem] theorem T_165 : T 165 = some ⟨.array 64 87, 64, 256, [.int .u32 0, .int .u32 0, .int .u32 0, .int .u32 0, .int .u32 0, .int .u32 0, .int .u32 0, .int .u32 0, .int .u32 0, .int .u32 0, .int .u32 0, .int .u32 0, .int .u32 0, .int .u32 0, .int .u32 0, .int .u32 0, .int .u32 0, .int .u32 0, .int .u32 0, .int .u32 0, .int .u32 0, .int .u32 0, .int .u32 0, .int .u32 0, .int .u32 0, .int .u32 0, .int .u32 0, .int .u32 0, .int .u32 0, .int .u32 0, .int .u32 0, .int .u32 0, .int .u32 0, .int .u32 0, .int .u32 0, .int .u32 0, .int .u32 0, .int .u32 0, .int .u32 0, .int .u32 0, .int .u32 0, .int .u32 0, .int .u32 0, .int .u32 0, .int .u32 0, .int .u32 0, .int .u32 0, .int .u32 0, .int .u32 0, .int .u32 0, .int .u32 0, .int .u32 0, .int .u32 0, .int .u32 0, .int .u32 0, .int .u32 0, .int .u32 0, .int .u32 0, .int .u32 0, .int .u32 0, .int .u32 0, .int .u32 0, .int .u32 0, .int .u32 0]⟩ := by rfl
@[go_sem] theorem T_170 : T 170 = some ⟨.array 24 5, 24, 24, [.int .u8 0, .int .u8 0, .int .u8 0, .int .u8 0, .int .u8 0, .int .u8 0, .int .u8 0, .int .u8 0, .int .u8 0, .int .u8 0, .int .u8 0, .int .u8 0, .int .u8 0, .int .u8 0, .int .u8 0, .int .u8 0, .int .u8 0, .int .u8 0, .int .u8 0, .int .u8 0, .int .u8 0, .int .u8 0, .int .u8 0, .int .u8 0]⟩ := by rfl
@[go_sem] theorem T_174 : T 174 = some ⟨.pointer 5, 1, 8, [.pointer none]⟩ := by rfl
@[go_sem] theorem T_176 : T 176 = some ⟨.int .i64, 1, 8, [.int .i64 0]⟩ := by rfl
@[go_sem] theorem T_185 : T 185 = some ⟨.array 20 23, 20, 160, [.int .u64 0, .int .u64 0, .int .u64 0, .int .u64 0, .int .u64 0, .int .u64 0, .int .u64 0, .int .u64 0, .int .u64 0, .int .u64 0, .int .u64 0, .int .u64 0, .int .u64 0, .int .u64 0, .int .u64 0, .int .u64 0, .int .u64 0, .int .u64 0, .int .u64 0, .int .u64 0]⟩ := by rfl
@[go_sem] theorem T_186 : T 186 = some ⟨.array 65 5, 65, 65, [.int .u8 0, .int .u8 0, .int .u8 0, .int .u8 0, .int .u8 0, .int .u8 0, .int .u8 0, .int .u8 0, .int .u8 0, .int .u8 0, .int .u8 0, .int .u8 0, .int .u8 0, .int .u8 0, .int .u8 0, .int .u8 0, .int .u8 0, .int .u8 0, .int .u8 0, .int .u8 0, .int .u8 0, .int .u8 0, .int .u8 0, .int .u8 0, .int .u8 0, .int .u8 0, .int .u8 0, .int .u8 0, .int .u8 0, .int .u8 0, .int .u8 0, .int .u8 0, .int .u8 0, .int .u8 0, .int .u8 0, .int .u8 0, .int .u8 0, .int .u8 0, .int .u8 0, .int .u8 0, .int .u8 0, .int .u8 0, .int .u8 0, .int .u8 0, .int .u8 0, .int .u8 0, .int .u8 0, .int .u8 0, .int .u8 0, .int .u8 0, .int .u8 0, .int .u8 0, .int .u8 0, .int .u8 0, .int .u8 0, .int .u8 0, .int .u8 0, .int .u8 0, .int .u8 0, .int .u8 0, .int .u8 0, .int .u8 0, .int .u8 0, .int .u8 0, .int .u8 0]⟩ := by rfl
@[go_sem] theorem T_190 : T 190 = some ⟨.int .u64, 1, 8, [.int .u64 0]⟩ := by rfl
@[go_sem] theorem T_193 : T 193 = some ⟨.pointer 3, 1, 8, [.pointer none]⟩ := by rfl
theorem Ti_1 : tiOf Tryd.prog 1 = some ⟨.func, 1, 8, [.nilFunc]⟩ := by kernel_rfl
theorem Ti_2 : tiOf Tryd.prog 2 = some ⟨.int .i64, 1, 8, [.int .i64 0]⟩ := by kernel_rfl
theorem Ti_3 : tiOf Tryd.prog 3 = some ⟨.int .i64, 1, 8, [.int .i64 0]⟩ := by kernel_rfl
theorem Ti_4 : tiOf Tryd.prog 4 = some ⟨.bool, 1, 1, [.bool false]⟩ := by kernel_rfl
theorem Ti_5 : tiOf Tryd.prog 5 = some ⟨.int .u8, 1, 1, [.int .u8 0]⟩ := by kernel_rfl
theorem Ti_9 : tiOf Tryd.prog 9 = some ⟨.string, 1, 16, [.string ⟨#[]⟩]⟩ := by kernel_rfl
theorem Ti_22 : tiOf Tryd.prog 22 = some ⟨.slice 26, 1, 24, [.slice none 0 0]⟩ := by kernel_rfl
theorem Ti_23 : tiOf Tryd.prog 23 = some ⟨.int .u64, 1, 8, [.int .u64 0]⟩ := by kernel_rfl
theorem Ti_24 : tiOf Tryd.prog 24 = some ⟨.array 40 23, 40, 320, [.int .u64 0, .int .u64 0, .int .u64 0, .int .u64 0, .int .u64 0, .int .u64 0, .int .u64 0, .int .u64 0, .int .u64 0, .int .u64 0, .int .u64 0, .int .u64 0, .int .u64 0, .int .u64 0, .int .u64 0, .int .u64 0, .int .u64 0, .int .u64 0, .int .u64 0, .int .u64 0, .int .u64 0, .int .u64 0, .int .u64 0, .int .u64 0, .int .u64 0, .int .u64 0, .int .u64 0, .int .u64 0, .int .u64 0, .int .u64 0, .int .u64 0, .int .u64 0, .int .u64 0, .int .u64 0, .int .u64 0, .int .u64 0, .int .u64 0, .int .u64 0, .int .u64 0, .int .u64 0]⟩ := by kernel_rfl
theorem Ti_25 : tiOf Tryd.prog 25 = some ⟨.struct [(3, 0, 1), (24, 1, 40)], 41, 328, [.int .i64 0, .int .u64 0, .int .u64 0, .int .u64 0, .int .u64 0, .int .u64 0, .int .u64 0, .int .u64 0, .int .u64 0, .int .u64 0, .int .u64 0, .int .u64 0, .int .u64 0, .int .u64 0, .int .u64 0, .int .u64 0, .int .u64 0, .int .u64 0, .int .u64 0, .int .u64 0, .int .u64 0, .int .u64 0, .int .u64 0, .int .u64 0, .int .u64 0, .int .u64 0, .int .u64 0, .int .u64 0, .int .u64 0, .int .u64 0, .int .u64 0, .int .u64 0, .int .u64 0, .int .u64 0, .int .u64 0, .int .u64 0, .int .u64 0, .int .u64 0, .int .u64 0, .int .u64 0, .int .u64 0]⟩ := by kernel_rfl
theorem Ti_26 : tiOf Tryd.prog 26 = some ⟨.struct [(3, 0, 1), (24, 1, 40)], 41, 328, [.int .i64 0, .int .u64 0, .int .u64 0, .int .u64 0, .int .u64 0, .int .u64 0, .int .u64 0, .int .u64 0, .int .u64 0, .int .u64 0, .int .u64 0, .int .u64 0, .int .u64 0, .int .u64 0, .int .u64 0, .int .u64 0, .int .u64 0, .int .u64 0, .int .u64 0, .int .u64 0, .int .u64 0, .int .u64 0, .int .u64 0, .int .u64 0, .int .u64 0, .int .u64 0, .int .u64 0, .int .u64 0, .int .u64 0, .int .u64 0, .int .u64 0, .int .u64 0, .int .u64 0, .int .u64 0, .int .u64 0, .int .u64 0, .int .u64 0, .int .u64 0, .int .u64 0, .int .u64 0, .int .u64 0]⟩ := by kernel_rfl
theorem Ti_27 : tiOf Tryd.prog 27 = some ⟨.func, 1, 8, [.nilFunc]⟩ := by kernel_rfl
theorem Ti_29 : tiOf Tryd.prog 29 = some ⟨.slice 26, 1, 24, [.slice none 0 0]⟩ := by kernel_rfl
theorem Ti_32 : tiOf Tryd.prog 32 = some ⟨.slice 106, 1, 24, [.slice none 0 0]⟩ := by kernel_rfl
theorem Ti_33 : tiOf Tryd.prog 33 = some ⟨.slice 107, 1, 24, [.slice none 0 0]⟩ := by kernel_rfl
theorem Ti_34 : tiOf Tryd.prog 34 = some ⟨.slice 114, 1, 24, [.slice none 0 0]⟩ := by kernel_rfl
theorem Ti_35 : tiOf Tryd.prog 35 = some ⟨.struct [(32, 0, 1), (33, 1, 1), (34, 2, 1)], 3, 72, [.slice none 0 0, .slice none 0 0, .slice none 0 0]⟩ := by kernel_rfl
theorem Ti_36 : tiOf Tryd.prog 36 = some ⟨.struct [(32, 0, 1), (33, 1, 1), (34, 2, 1)], 3, 72, [.slice none 0 0, .slice none 0 0, .slice none 0 0]⟩ := by kernel_rfl
theorem Ti_37 : tiOf Tryd.prog 37 = some ⟨.slice 23, 1, 24, [.slice none 0 0]⟩ := by kernel_rfl
theorem Ti_39 : tiOf Tryd.prog 39 = some ⟨.int .i64, 1, 8, [.int .i64 0]⟩ := by kernel_rfl
theorem Ti_41 : tiOf Tryd.prog 41 = some ⟨.slice 117, 1, 24, [.slice none 0 0]⟩ := by kernel_rfl
theorem Ti_42 : tiOf Tryd.prog 42 = some ⟨.slice 118, 1, 24, [.slice none 0 0]⟩ := by kernel_rfl
theorem Ti_43 : tiOf Tryd.prog 43 = some ⟨.slice 123, 1, 24, [.slice none 0 0]⟩ := by kernel_rfl
theorem Ti_44 : tiOf Tryd.prog 44 = some ⟨.struct [(41, 0, 1), (42, 1, 1), (43, 2, 1)], 3, 72, [.slice none 0 0, .slice none 0 0, .slice none 0 0]⟩ := by kernel_rfl
theorem Ti_45 : tiOf Tryd.prog 45 = some ⟨.struct [(41, 0, 1), (42, 1, 1), (43, 2, 1)], 3, 72, [.slice none 0 0, .slice none 0 0, .slice none 0 0]⟩ := by kernel_rfl
theorem Ti_46 : tiOf Tryd.prog 46 = some ⟨.func, 1, 8, [.nilFunc]⟩ := by kernel_rfl
theorem Ti_47 : tiOf Tryd.prog 47 = some ⟨.slice 49, 1, 24, [.slice none 0 0]⟩ := by kernel_rfl
theorem Ti_48 : tiOf Tryd.prog 48 = some ⟨.slice 37, 1, 24, [.slice none 0 0]⟩ := by kernel_rfl
theorem Ti_49 : tiOf Tryd.prog 49 = some ⟨.array 8 23, 8, 64, [.int .u64 0, .int .u64 0, .int .u64 0, .int .u64 0, .int .u64 0, .int .u64 0, .int .u64 0, .int .u64 0]⟩ := by kernel_rfl
theorem Ti_50 : tiOf Tryd.prog 50 = some ⟨.func, 1, 8, [.nilFunc]⟩ := by kernel_rfl
theorem Ti_51 : tiOf Tryd.prog 51 = some ⟨.pointer 36, 1, 8, [.pointer none]⟩ := by kernel_rfl
theorem Ti_52 : tiOf Tryd.prog 52 = some ⟨.func, 1, 8, [.nilFunc]⟩ := by kernel_rfl
theorem Ti_53 : tiOf Tryd.prog 53 = some ⟨.slice 59, 1, 24, [.slice none 0 0]⟩ := by kernel_rfl
theorem Ti_54 : tiOf Tryd.prog 54 = some ⟨.func, 1, 8, [.nilFunc]⟩ := by kernel_rfl
theorem Ti_55 : tiOf Tryd.prog 55 = some ⟨.slice 58, 1, 24, [.slice none 0 0]⟩ := by kernel_rfl
theorem Ti_56 : tiOf Tryd.prog 56 = some ⟨.func, 1, 8, [.nilFunc]⟩ := by kernel_rfl
theorem Ti_57 : tiOf Tryd.prog 57 = some ⟨.struct [(3, 0, 1), (3, 1, 1)], 2, 16, [.int .i64 0, .int .i64 0]⟩ := by kernel_rfl
theorem Ti_58 : tiOf Tryd.prog 58 = some ⟨.struct [(3, 0, 1), (3, 1, 1)], 2, 16, [.int .i64 0, .int .i64 0]⟩ := by kernel_rfl
theorem Ti_59 : tiOf Tryd.prog 59 = some ⟨.struct [(3, 0, 1), (3, 1, 1)], 2, 16, [.int .i64 0, .int .i64 0]⟩ := by kernel_rfl
theorem Ti_61 : tiOf Tryd.prog 61 = some ⟨.func, 1, 8, [.nilFunc]⟩ := by kernel_rfl
theorem Ti_65 : tiOf Tryd.prog 65 = some ⟨.array 32 5, 32, 32, [.int .u8 0, .int .u8 0, .int .u8 0, .int .u8 0, .int .u8 0, .int .u8 0, .int .u8 0, .int .u8 0, .int .u8 0, .int .u8 0, .int .u8 0, .int .u8 0, .int .u8 0, .int .u8 0, .int .u8 0, .int .u8 0, .int .u8 0, .int .u8 0, .int .u8 0, .int .u8 0, .int .u8 0, .int .u8 0, .int .u8 0, .int .u8 0, .int .u8 0, .int .u8 0, .int .u8 0, .int .u8 0, .int .u8 0, .int .u8 0, .int .u8 0, .int .u8 0]⟩ := by kernel_rfl
theorem Ti_66 : tiOf Tryd.prog 66 = some ⟨.array 32 5, 32, 32, [.int .u8 0, .int .u8 0, .int .u8 0, .int .u8 0, .int .u8 0, .int .u8 0, .int .u8 0, .int .u8 0, .int .u8 0, .int .u8 0, .int .u8 0, .int .u8 0, .int .u8 0, .int .u8 0, .int .u8 0, .int .u8 0, .int .u8 0, .int .u8 0, .int .u8 0, .int .u8 0, .int .u8 0, .int .u8 0, .int .u8 0, .int .u8 0, .int .u8 0, .int .u8 0, .int .u8 0, .int .u8 0, .int .u8 0, .int .u8 0, .int .u8 0, .int .u8 0]⟩ := by kernel_rfl
theorem Ti_70 : tiOf Tryd.prog 70 = some ⟨.func, 1, 8, [.nilFunc]⟩ := by kernel_rfl
theorem Ti_71 : tiOf Tryd.prog 71 = some ⟨.func, 1, 8, [.nilFunc]⟩ := by kernel_rfl
theorem Ti_73 : tiOf Tryd.prog 73 = some ⟨.func, 1, 8, [.nilFunc]⟩ := by kernel_rfl
theorem Ti_74 : tiOf Tryd.prog 74 = some ⟨.func, 1, 8, [.nilFunc]⟩ := by kernel_rfl
theorem Ti_80 : tiOf Tryd.prog 80 = some ⟨.slice 5, 1, 24, [.slice none 0 0]⟩ := by kernel_rfl
theorem Ti_81 : tiOf Tryd.prog 81 = some ⟨.struct [(80, 0, 1)], 1, 24, [.slice none 0 0]⟩ := by kernel_rfl
theorem Ti_82 : tiOf Tryd.prog 82 = some ⟨.struct [(80, 0, 1)], 1, 24, [.slice none 0 0]⟩ := by kernel_rfl
theorem Ti_87 : tiOf Tryd.prog 87 = some ⟨.int .u32, 1, 4, [.int .u32 0]⟩ := by kernel_rfl
theorem Ti_90 : tiOf Tryd.prog 90 = some ⟨.pointer 141, 1, 8, [.pointer none]⟩ := by kernel_rfl
theorem Ti_94 : tiOf Tryd.prog 94 = some ⟨.array 8 87, 8, 32, [.int .u32 0, .int .u32 0, .int .u32 0, .int .u32 0, .int .u32 0, .int .u32 0, .int .u32 0, .int .u32 0]⟩ := by kernel_rfl
theorem Ti_95 : tiOf Tryd.prog 95 = some ⟨.struct [(4, 0, 1), (94, 1, 8), (80, 9, 1), (23, 10, 1)], 11, 72, [.bool false, .int .u32 0, .int .u32 0, .int .u32 0, .int .u32 0, .int .u32 0, .int .u32 0, .int .u32 0, .int .u32 0, .slice none 0 0, .int .u64 0]⟩ := by kernel_rfl
theorem Ti_96 : tiOf Tryd.prog 96 = some ⟨.struct [(4, 0, 1), (94, 1, 8), (80, 9, 1), (23, 10, 1)], 11, 72, [.bool false, .int .u32 0, .int .u32 0, .int .u32 0, .int .u32 0, .int .u32 0, .int .u32 0, .int .u32 0, .int .u32 0, .slice none 0 0, .int .u64 0]⟩ := by kernel_rfl
theorem Ti_97 : tiOf Tryd.prog 97 = some ⟨.func, 1, 8, [.nilFunc]⟩ := by kernel_rfl
theorem Ti_98 : tiOf Tryd.prog 98 = some ⟨.func, 1, 8, [.nilFunc]⟩ := by kernel_rfl
theorem Ti_99 : tiOf Tryd.prog 99 = some ⟨.func, 1, 8, [.nilFunc]⟩ := by kernel_rfl
theorem Ti_100 : tiOf Tryd.prog 100 = some ⟨.func, 1, 8, [.nilFunc]⟩ := by kernel_rfl
theorem Ti_101 : tiOf Tryd.prog 101 = some ⟨.func, 1, 8, [.nilFunc]⟩ := by kernel_rfl
theorem Ti_102 : tiOf Tryd.prog 102 = some ⟨.func, 1, 8, [.nilFunc]⟩ := by kernel_rfl
theorem Ti_103 : tiOf Tryd.prog 103 = some ⟨.func, 1, 8, [.nilFunc]⟩ := by kernel_rfl
theorem Ti_104 : tiOf Tryd.prog 104 = some ⟨.func, 1, 8, [.nilFunc]⟩ := by kernel_rfl
theorem Ti_105 : tiOf Tryd.prog 105 = some ⟨.struct [(9, 0, 1), (23, 1, 1)], 2, 24, [.string ⟨#[]⟩, .int .u64 0]⟩ := by kernel_rfl
theorem Ti_106 : tiOf Tryd.prog 106 = some ⟨.struct [(9, 0, 1), (23, 1, 1)], 2, 24, [.string ⟨#[]⟩, .int .u64 0]⟩ := by kernel_rfl
theorem Ti_107 : tiOf Tryd.prog 107 = some ⟨.slice 111, 1, 24, [.slice none 0 0]⟩ := by kernel_rfl
theorem Ti_108 : tiOf Tryd.prog 108 = some ⟨.struct [(4, 0, 1), (23, 1, 1)], 2, 16, [.bool false, .int .u64 0]⟩ := by kernel_rfl
theorem Ti_109 : tiOf Tryd.prog 109 = some ⟨.struct [(4, 0, 1), (23, 1, 1)], 2, 16, [.bool false, .int .u64 0]⟩ := by kernel_rfl
theorem Ti_110 : tiOf Tryd.prog 110 = some ⟨.struct [(3, 0, 1), (3, 1, 1), (3, 2, 1), (109, 3, 2), (109, 5, 2), (4, 7, 1), (4, 8, 1), (3, 9, 1), (3, 10, 1), (3, 11, 1), (3, 12, 1)], 13, 96, [.int .i64 0, .int .i64 0, .int .i64 0, .bool false, .int .u64 0, .bool false, .int .u64 0, .bool false, .bool false, .int .i64 0, .int .i64 0, .int .i64 0, .int .i64 0]⟩ := by kernel_rfl
theorem Ti_111 : tiOf Tryd.prog 111 = some ⟨.struct [(3, 0, 1), (3, 1, 1), (3, 2, 1), (109, 3, 2), (109, 5, 2), (4, 7, 1), (4, 8, 1), (3, 9, 1), (3, 10, 1), (3, 11, 1), (3, 12, 1)], 13, 96, [.int .i64 0, .int .i64 0, .int .i64 0, .bool false, .int .u64 0, .bool false, .int .u64 0, .bool false, .bool false, .int .i64 0, .int .i64 0, .int .i64 0, .int .i64 0]⟩ := by kernel_rfl
theorem Ti_112 : tiOf Tryd.prog 112 = some ⟨.func, 1, 8, [.nilFunc]⟩ := by kernel_rfl
theorem Ti_113 : tiOf Tryd.prog 113 = some ⟨.struct [(3, 0, 1), (3, 1, 1), (23, 2, 1)], 3, 24, [.int .i64 0, .int .i64 0, .int .u64 0]⟩ := by kernel_rfl
theorem Ti_114 : tiOf Tryd.prog 114 = some ⟨.struct [(3, 0, 1), (3, 1, 1), (23, 2, 1)], 3, 24, [.int .i64 0, .int .i64 0, .int .u64 0]⟩ := by kernel_rfl
theorem Ti_115 : tiOf Tryd.prog 115 = some ⟨.func, 1, 8, [.nilFunc]⟩ := by kernel_rfl
theorem Ti_116 : tiOf Tryd.prog 116 = some ⟨.func, 1, 8, [.nilFunc]⟩ := by kernel_rfl
theorem Ti_117 : tiOf Tryd.prog 117 = some ⟨.struct [(9, 0, 1), (23, 1, 1)], 2, 24, [.string ⟨#[]⟩, .int .u64 0]⟩ := by kernel_rfl
theorem Ti_118 : tiOf Tryd.prog 118 = some ⟨.slice 121, 1, 24, [.slice none 0 0]⟩ := by kernel_rfl
theorem Ti_119 : tiOf Tryd.prog 119 = some ⟨.struct [(4, 0, 1), (23, 1, 1)], 2, 16, [.bool false, .int .u64 0]⟩ := by kernel_rfl
theorem Ti_120 : tiOf Tryd.prog 120 = some ⟨.struct [(3, 0, 1), (3, 1, 1), (3, 2, 1), (119, 3, 2), (119, 5, 2), (4, 7, 1), (4, 8, 1), (3, 9, 1), (3, 10, 1), (3, 11, 1), (3, 12, 1)], 13, 96, [.int .i64 0, .int .i64 0, .int .i64 0, .bool false, .int .u64 0, .bool false, .int .u64 0, .bool false, .bool false, .int .i64 0, .int .i64 0, .int .i64 0, .int .i64 0]⟩ := by kernel_rfl
theorem Ti_121 : tiOf Tryd.prog 121 = some ⟨.struct [(3, 0, 1), (3, 1, 1), (3, 2, 1), (119, 3, 2), (119, 5, 2), (4, 7, 1), (4, 8, 1), (3, 9, 1), (3, 10, 1), (3, 11, 1), (3, 12, 1)], 13, 96, [.int .i64 0, .int .i64 0, .int .i64 0, .bool false, .int .u64 0, .bool false, .int .u64 0, .bool false, .bool false, .int .i64 0, .int .i64 0, .int .i64 0, .int .i64 0]⟩ := by kernel_rfl
theorem Ti_122 : tiOf Tryd.prog 122 = some ⟨.func, 1, 8, [.nilFunc]⟩ := by kernel_rfl
theorem Ti_123 : tiOf Tryd.prog 123 = some ⟨.struct [(3, 0, 1), (3, 1, 1), (23, 2, 1)], 3, 24, [.int .i64 0, .int .i64 0, .int .u64 0]⟩ := by kernel_rfl
theorem Ti_124 : tiOf Tryd.prog 124 = some ⟨.slice 3, 1, 24, [.slice none 0 0]⟩ := by kernel_rfl
theorem Ti_127 : tiOf Tryd.prog 127 = some ⟨.slice 9, 1, 24, [.slice none 0 0]⟩ := by kernel_rfl
theorem Ti_131 : tiOf Tryd.prog 131 = some ⟨.int .u64, 1, 8, [.int .u64 0]⟩ := by kernel_rfl
theorem Ti_134 : tiOf Tryd.prog 134 = some ⟨.map 26 4, 1, 8, [.map none]⟩ := by kernel_rfl
theorem Ti_139 : tiOf Tryd.prog 139 = some ⟨.pointer 82, 1, 8, [.pointer none]⟩ := by kernel_rfl
theorem Ti_140 : tiOf Tryd.prog 140 = some ⟨.struct [(9, 0, 1), (3, 1, 1), (39, 2, 1)], 3, 32, [.string ⟨#[]⟩, .int .i64 0, .int .i64 0]⟩ := by kernel_rfl
theorem Ti_141 : tiOf Tryd.prog 141 = some ⟨.struct [(9, 0, 1), (3, 1, 1), (39, 2, 1)], 3, 32, [.string ⟨#[]⟩, .int .i64 0, .int .i64 0]⟩ := by kernel_rfl
theorem Ti_142 : tiOf Tryd.prog 142 = some ⟨.pointer 96, 1, 8, [.pointer none]⟩ := by kernel_rfl
theorem Ti_146 : tiOf Tryd.prog 146 = some ⟨.array 16 87, 16, 64, [.int .u32 0, .int .u32 0, .int .u32 0, .int .u32 0, .int .u32 0, .int .u32 0, .int .u32 0, .int .u32 0, .int .u32 0, .int .u32 0, .int .u32 0, .int .u32 0, .int .u32 0, .int .u32 0, .int .u32 0, .int .u32 0]⟩ := by kernel_rfl
theorem Ti_151 : tiOf Tryd.prog 151 = some ⟨.struct [(4, 0, 1), (4, 1, 1)], 2, 2, [.bool false, .bool false]⟩ := by kernel_rfl
theorem Ti_152 : tiOf Tryd.prog 152 = some ⟨.struct [(4, 0, 1), (4, 1, 1)], 2, 2, [.bool false, .bool false]⟩ := by kernel_rfl
theorem Ti_154 : tiOf Tryd.prog 154 = some ⟨.array 8 4, 8, 8, [.bool false, .bool false, .bool false, .bool false, .bool false, .bool false, .bool false, .bool false]⟩ := by kernel_rfl
theorem Ti_155 : tiOf Tryd.prog 155 = some ⟨.pointer 157, 1, 8, [.pointer none]⟩ := by kernel_rfl
theorem Ti_156 : tiOf Tryd.prog 156 = some ⟨.struct [(155, 0, 1), (80, 1, 1)], 2, 32, [.pointer none, .slice none 0 0]⟩ := by kernel_rfl
theorem Ti_157 : tiOf Tryd.prog 157 = some ⟨.struct [(155, 0, 1), (80, 1, 1)], 2, 32, [.pointer none, .slice none 0 0]⟩ := by kernel_rfl
theorem Ti_165 : tiOf Tryd.prog 165 = some ⟨.array 64 87, 64, 256, [.int .u32 0, .int .u32 0, .int .u32 0, .int .u32 0, .int .u32 0, .int .u32 0, .int .u32 0, .int .u32 0, .int .u32 0, .int .u32 0, .int .u32 0, .int .u32 0, .int .u32 0, .int .u32 0, .int .u32 0, .int .u32 0, .int .u32 0, .int .u32 0, .int .u32 0, .int .u32 0, .int .u32 0, .int .u32 0, .int .u32 0, .int .u32 0, .int .u32 0, .int .u32 0, .int .u32 0, .int .u32 0, .int .u32 0, .int .u32 0, .int .u32 0, .int .u32 0, .int .u32 0, .int .u32 0, .int .u32 0, .int .u32 0, .int .u32 0, .int .u32 0, .int .u32 0, .int .u32 0, .int .u32 0, .int .u32 0, .int .u32 0, .int .u32 0, .int .u32 0, .int .u32 0, .int .u32 0, .int .u32 0, .int .u32 0, .int .u32 0, .int .u32 0, .int .u32 0, .int .u32 0, .int .u32 0, .int .u32 0, .int .u32 0, .int .u32 0, .int .u32 0, .int .u32 0, .int .u32 0, .int .u32 0, .int .u32 0, .int .u32 0, .int .u32 0]⟩ := by kernel_rfl
theorem Ti_170 : tiOf Tryd.prog 170 = some ⟨.array 24 5, 24, 24, [.int .u8 0, .int .u8 0, .int .u8 0, .int .u8 0, .int .u8 0, .int .u8 0, .int .u8 0, .int .u8 0, .int .u8 0, .int .u8 0, .int .u8 0, .int .u8 0, .int .u8 0, .int .u8 0, .int .u8 0, .int .u8 0, .int .u8 0, .int .u8 0, .int .u8 0, .int .u8 0, .int .u8 0, .int .u8 0, .int .u8 0, .int .u8 0]⟩ := by kernel_rfl
theorem Ti_174 : tiOf Tryd.prog 174 = some ⟨.pointer 5, 1, 8, [.pointer none]⟩ := by kernel_rfl
theorem Ti_176 : tiOf Tryd.prog 176 = some ⟨.int .i64, 1, 8, [.int .i64 0]⟩ := by kernel_rfl
theorem Ti_185 : tiOf Tryd.prog 185 = some ⟨.array 20 23, 20, 160, [.int .u64 0, .int .u64 0, .int .u64 0, .int .u64 0, .int .u64 0, .int .u64 0, .int .u64 0, .int .u64 0, .int .u64 0, .int .u64 0, .int .u64 0, .int .u64 0, .int .u64 0, .int .u64 0, .int .u64 0, .int .u64 0, .int .u64 0, .int .u64 0, .int .u64 0, .int .u64 0]⟩ := by kernel_rfl
theorem Ti_186 : tiOf Tryd.prog 186 = some ⟨.array 65 5, 65, 65, [.int .u8 0, .int .u8 0, .int .u8 0, .int .u8 0, .int .u8 0, .int .u8 0, .int .u8 0, .int .u8 0, .int .u8 0, .int .u8 0, .int .u8 0, .int .u8 0, .int .u8 0, .int .u8 0, .int .u8 0, .int .u8 0, .int .u8 0, .int .u8 0, .int .u8 0, .int .u8 0, .int .u8 0, .int .u8 0, .int .u8 0, .int .u8 0, .int .u8 0, .int .u8 0, .int .u8 0, .int .u8 0, .int .u8 0, .int .u8 0, .int .u8 0, .int .u8 0, .int .u8 0, .int .u8 0, .int .u8 0, .int .u8 0, .int .u8 0, .int .u8 0, .int .u8 0, .int .u8 0, .int .u8 0, .int .u8 0, .int .u8 0, .int .u8 0, .int .u8 0, .int .u8 0, .int .u8 0, .int .u8 0, .int .u8 0, .int .u8 0, .int .u8 0, .int .u8 0, .int .u8 0, .int .u8 0, .int .u8 0, .int .u8 0, .int .u8 0, .int .u8 0, .int .u8 0, .int .u8 0, .int .u8 0, .int .u8 0, .int .u8 0, .int .u8 0, .int .u8 0]⟩ := by kernel_rfl
theorem Ti_190 : tiOf Tryd.prog 190 = some ⟨.int .u64, 1, 8, [.int .u64 0]⟩ := by kernel_rfl
theorem Ti_193 : tiOf Tryd.prog 193 = some ⟨.pointer 3, 1, 8, [.pointer none]⟩ := by kernel_rfl
theorem mem_lookup {t : Nat} {ti : TI} : ∀ {l : List (Nat × TI)}, l.lookup t = some ti → (t, ti) ∈ l
 | [], h => by simp at h
 | (s, x) :: r, h => by
  rw [List.lookup_cons] at h
  split at h
  ·rename_i e
   cases h
   rw [eq_of_beq e]; simp
  ·exact List.mem_cons_of_mem _ (mem_lookup h)
theorem all_cons {Q : Nat × TI → Prop} {x : Nat × TI} {l : List (Nat × TI)} (h : Q x) (hs : ∀ p ∈ l, Q p) : ∀ p ∈ x :: l, Q p := fun p hp => by
 rcases List.mem_cons.1 hp with rfl | hp
 ·exact h
 ·exact hs p hp
theorem all_nil {Q : Nat × TI → Prop} : ∀ p ∈ ([] : List (Nat × TI)), Q p := fun p hp => by simp at hp
set_option maxRecDepth 100000 in
theorem Tl_ok : ∀ p ∈ Tl, tiOf Tryd.prog p.1 = some p.2 :=
 all_cons Ti_1 <| all_cons Ti_2 <| all_cons Ti_3 <| all_cons Ti_4 <| all_cons Ti_5 <| all_cons Ti_9 <| all_cons Ti_22 <| all_cons Ti_23 <| all_cons Ti_24 <| all_cons Ti_25 <| all_cons Ti_26 <| all_cons Ti_27 <| all_cons Ti_29 <| all_cons Ti_32 <| all_cons Ti_33 <| all_cons Ti_34 <| all_cons Ti_35 <| all_cons Ti_36 <| all_cons Ti_37 <| all_cons Ti_39 <| all_cons Ti_41 <| all_cons Ti_42 <| all_cons Ti_43 <| all_cons Ti_44 <| all_cons Ti_45 <| all_cons Ti_46 <| all_cons Ti_47 <| all_cons Ti_48 <| all_cons Ti_49 <| all_cons Ti_50 <| all_cons Ti_51 <| all_cons Ti_52 <| all_cons Ti_53 <| all_cons Ti_54 <| all_cons Ti_55 <| all_cons Ti_56 <| all_cons Ti_57 <| all_cons Ti_58 <| all_cons Ti_59 <| all_cons Ti_61 <| all_cons Ti_65 <| all_cons Ti_66 <| all_cons Ti_70 <| all_cons Ti_71 <| all_cons Ti_73 <| all_cons Ti_74 <| all_cons Ti_80 <| all_cons Ti_81 <| all_cons Ti_82 <| all_cons Ti_87 <| all_cons Ti_90 <| all_cons Ti_94 <| all_cons Ti_95 <| all_cons Ti_96 <| all_cons Ti_97 <| all_cons Ti_98 <| all_cons Ti_99 <| all_cons Ti_100 <| all_cons Ti_101 <| all_cons Ti_102 <| all_cons Ti_103 <| all_cons Ti_104 <| all_cons Ti_105 <| all_cons Ti_106 <| all_cons Ti_107 <| all_cons Ti_108 <| all_cons Ti_109 <| all_cons Ti_110 <| all_cons Ti_111 <| all_cons Ti_112 <| all_cons Ti_113 <| all_cons Ti_114 <| all_cons Ti_115 <| all_cons Ti_116 <| all_cons Ti_117 <| all_cons Ti_118 <| all_cons Ti_119 <| all_cons Ti_120 <| all_cons Ti_121 <| all_cons Ti_122 <| all_cons Ti_123 <| all_cons Ti_124 <| all_cons Ti_127 <| all_cons Ti_131 <| all_cons Ti_134 <| all_cons Ti_139 <| all_cons Ti_140 <| all_cons Ti_141 <| all_cons Ti_142 <| all_cons Ti_146 <| all_cons Ti_151 <| all_cons Ti_152 <| all_cons Ti_154 <| all_cons Ti_155 <| all_cons Ti_156 <| all_cons Ti_157 <| all_cons Ti_165 <| all_cons Ti_170 <| all_cons Ti_174 <| all_cons Ti_176 <| all_cons Ti_185 <| all_cons Ti_186 <| all_cons Ti_190 <| all_cons Ti_193 <| all_nil
theorem T_ok : TabOk Tryd.prog T := fun t ti h => Tl_ok (t, ti) (mem_lookup h)
end Go.Proofs.Tryd
namespace Go.Sl
variable [Md]
section
variable {F : Nat → Prop} {ι ι' : Names} {O : Nat → Prop} {H H' : Heap} {σ σ' : St} {a a' : Act} {w w' : World} {P : Program} {T : Tab} {Q : Exit → St → Prop}
theorem seq_k {x y : Code} (h : ∀ K : St → Prop, (∀ σ', Tr P y Q σ' → K σ') → Tr P x (Then K Q) σ) : Tr P (.seq x y) Q σ := tr_seq (h _ fun _ h => h)
theorem region_k (hT : TabOk P T) {id : Nat} {l : List Oper} {y : Code} {N k : Nat} {t : List (Nat × V)} {H : Heap} (hN : dstsLt l N = true)
    (h : ∀ K : St → Prop, (∀ σ', Tr P y Q σ' → K σ') → vcL T P l N l K t H k) : Tr P (.seq (.region id l.toArray false) y) Q ⟨N, t, H, k⟩ :=
  tr_seq (tr_region hT hN (h _ fun _ h => h))
theorem cond_k {c : Operand} {x y : Code} {b : Bool} (hc : evalV σ.t c = .val (.bool b)) (ht : b = true → Tr P x Q σ) (hf : b = false → Tr P y Q σ) : Tr P (.cond c x y) Q σ := tr_cond hc ht hf
theorem fn_in (hT : TabOk P T) {f : FuncId} {fn : Func} {c : Code} {args : List V} {k : Nat} {K : V → Heap → Nat → Prop} {rs : List ResultVar} {N : Nat} (hf : P.funcs[f]? = some fn) (hb : fn.body = some c) (hname : (fn.name == "runtime.NumGoroutine") = false) (hNn : fn.ntmps = N) (hr : fn.results = rs.toArray)
    (hN : args.length ≤ N) (h : Tr P c (Ends T rs K) ⟨N, initT 0 args, H, k⟩) : Fn P f args H k K := by
  subst hNn
  refine fn_intro hT hf hb hname hN ?_
  rw [hr]; exact h
end
section
variable {H H' : Heap} {ti ti' : TI} {x x' y y' : V} {K : V → Prop} {KH : Heap → Prop} {KA : V → Heap → Nat → Prop} {d d' : D} {T : Tab}
omit [Md] in
@[congr] theorem loadV_congr (h1 : H = H') (h3 : x = x') : loadV H ti x K = loadV H' ti x' K := by rw [h1, h3]
omit [Md] in
@[congr] theorem storeV_congr (h1 : H = H') (h3 : x = x') (h4 : y = y') : storeV H ti x y KH = storeV H' ti x' y' KH := by rw [h1, h3, h4]
omit [Md] in
@[congr] theorem indexAddrV_congr (h1 : H = H') (h2 : d = d') (h3 : x = x') (h4 : y = y') : indexAddrV T H d x y K = indexAddrV T H' d' x' y' K := by rw [h1, h2, h3, h4]
omit [Md] in
@[congr] theorem indexV_congr (h2 : d = d') (h3 : x = x') (h4 : y = y') : indexV T d x y K = indexV T d' x' y' K := by rw [h2, h3, h4]
omit [Md] in
@[congr] theorem fieldAddrV_congr {f : Nat} (h2 : d = d') (h3 : x = x') : fieldAddrV T d x f K = fieldAddrV T d' x' f K := by rw [h2, h3]
omit [Md] in
@[congr] theorem fieldV_congr {f : Nat} (h2 : d = d') (h3 : x = x') : fieldV T d x f K = fieldV T d' x' f K := by rw [h2, h3]
omit [Md] in
@[congr] theorem binIV_congr {op : BinOp} {k : IntKind} {m m' n n' : Int} (h3 : m = m') (h4 : n = n') : binIV op k m n K = binIV op k m' n' K := by rw [h3, h4]
omit [Md] in
@[congr] theorem shIV_congr {op : BinOp} {k : IntKind} {m m' n n' : Int} (h3 : m = m') (h4 : n = n') : shIV op k m n K = shIV op k m' n' K := by rw [h3, h4]
omit [Md] in
@[congr] theorem binV_congr {op : BinOp} {t : TypeId} (h3 : x = x') (h4 : y = y') : binV T op t x y K = binV T op t x' y' K := by rw [h3, h4]
omit [Md] in
@[congr] theorem eqV_congr {op : BinOp} {sp sp' : Option (List EK)} {cs cs' ds ds' : List V} (h1 : sp = sp') (h2 : cs = cs') (h3 : ds = ds') : eqV sp op cs ds K = eqV sp' op cs' ds' K := by rw [h1, h2, h3]
omit [Md] in
@[congr] theorem ptrV_congr {op : BinOp} {t : TypeId} : ptrV T op t K = ptrV T op t K := rfl
omit [Md] in
@[congr] theorem makeV_congr {ty : TypeId} {k k' : Nat} (h1 : x = x') (h2 : y = y') (h3 : H = H') (h4 : k = k') : makeV T ty x y k H KA = makeV T ty x' y' k' H' KA := by rw [h1, h2, h3, h4]
omit [Md] in
@[congr] theorem sliceV_congr {lo hi : Nat → Option Int} (h1 : H = H') (h3 : x = x') : sliceV H ti x lo hi K = sliceV H' ti x' lo hi K := by rw [h1, h3]
omit [Md] in
@[congr] theorem appendV_congr {k : Nat} (h1 : H = H') (h3 : x = x') (h4 : y = y') : appendV H k ti x y KA = appendV H' k ti x' y' KA := by rw [h1, h3, h4]
omit [Md] in
@[congr] theorem runW_congr {r r' : Option (V × Heap × Nat)} (h : r = r') : runW r KA = runW r' KA := by rw [h]
omit [Md] in
@[go_sem] theorem runW_some {v : V} {H : Heap} {k : Nat} : runW (some (v, H, k)) KA = KA v H k := Eq.trans rfl rfl
omit [Md] in
@[congr] theorem fillP_congr {pl : Nat → Option (Nat × Nat)} {cs cs' : List V} {r r' : List (Nat × V)} {KL : List V → Prop} (h1 : cs = cs') (h2 : r = r') : fillP pl cs r KL = fillP pl cs' r' KL := by rw [h1, h2]
@[congr] theorem opV_congr {P : Program} {t t' : List (Nat × V)} {k k' : Nat} {op : Op} (h1 : t = t') (h2 : H = H') (h3 : k = k') : opV T P t H k op KA = opV T P t' H' k' op KA := by rw [h1, h2, h3]
@[congr] theorem vcL_congr {P : Program} {ops l : List Oper} {N k k' : Nat} {KS : St → Prop} {t t' : List (Nat × V)} (h1 : t = t') (h2 : H = H') (h3 : k = k') : vcL T P ops N l KS t H k = vcL T P ops N l KS t' H' k' := by rw [h1, h2, h3]
omit [Md] in
@[congr] theorem guardV_congr {ops : List Oper} {t : List (Nat × V)} {g : Option (Nat × Bool)} {p q : Prop} : guardV ops t g p q = guardV ops t g p q := rfl
omit [Md] in
@[congr] theorem retV_congr {t : List (Nat × V)} {rs : List ResultVar} {acc : List V} : retV T t H rs acc K = retV T t H rs acc K := rfl
theorem call_pf {P : Program} {f : FuncId} {args : List V} {r : V} {k : Nat} {K : V → Heap → Nat → Prop} (h : Pf P f args r) (hk : K r H k) : @callF _ P f args H k ⟨K⟩ := h.fn hk
theorem call_fn {P : Program} {f : FuncId} {args : List V} {k : Nat} {K : V → Heap → Nat → Prop} (h : Sl.Fn P f args H k K) : @callF _ P f args H k ⟨K⟩ := h
@[congr] theorem fn_congr {P : Program} {f : FuncId} {args args' : List V} {k : Nat} (h1 : args = args') (h2 : H = H') : Sl.Fn P f args H k KA = Sl.Fn P f args' H' k KA := by rw [h1, h2]
end
omit [Md] in
@[go_sem] theorem indexV_arr {T : Tab} {len : Nat} {e : TypeId} {cs : List V} {kd : IntKind} {m : Int} {K : V → Prop} : indexV T (.array len e) (.agg cs) (.val (.int kd m)) K =
    (match T e with | some te => 0 ≤ m ∧ m < len ∧ m.toNat * te.size + te.size ≤ cs.length ∧ K (partV te.agg te.size cs (m.toNat * te.size)) | none => False) := Eq.trans rfl rfl
omit [Md] in
@[go_sem low] theorem indexV_s {T : Tab} {s : ByteArray} {kd : IntKind} {m : Int} {K : V → Prop} : indexV T .string (.val (.string s)) (.val (.int kd m)) K =
    (0 ≤ m ∧ m < s.size ∧ K (.val (.int .u8 ((s.data.toList.getD m.toNat 0).toNat : Int)))) := Eq.trans rfl rfl
attribute [go_sem ↓] guardV
attribute [go_sem] vcL opV
omit [Md] in
@[go_sem] theorem evalV_tmp (t : List (Nat × V)) (i : Nat) : evalV t (.tmp i) = get t i := Eq.trans rfl rfl
omit [Md] in
@[go_sem] theorem evalV_const (t : List (Nat × V)) (v : Value) : evalV t (.const v) = constV v := Eq.trans rfl rfl
omit [Md] in
@[go_sem] theorem evalV_global (t : List (Nat × V)) (g : Nat) : evalV t (.global g) = .val (.pointer (some ⟨g, 0, none⟩)) := Eq.trans rfl rfl
omit [Md] in
@[go_sem] theorem evalV_func (t : List (Nat × V)) (f : FuncId) : evalV t (.func f) = .fn (.func f) [] [] := Eq.trans rfl rfl
attribute [go_sem] stepW lookupR mapUpdR rangeR entryR copyR sliceAR srcV findV insV
attribute [go_sem] V.cells dstLt constV get setT loadV storeV indexAddrV fieldAddrV fieldV isSh V.isAddr ptrV makeV binV eqV eqSpec eqSpecF eqCells sliceV appendV look put del fillP initT retV oneOrTup Then InBlock boundV lenV lenD newsV TI.agg
end Go.Sl
namespace Go.Sl
variable [Md]
def Pt1 (O : (V → Prop) → Prop) : Prop := ∀ K0, O K0 → ∃ v, K0 v ∧ ∀ K : V → Prop, K v → O K
def PtH (O : (Heap → Prop) → Prop) : Prop := ∀ K0, O K0 → ∃ v, K0 v ∧ ∀ K : Heap → Prop, K v → O K
def PtL (O : (List V → Prop) → Prop) : Prop := ∀ K0, O K0 → ∃ v, K0 v ∧ ∀ K : List V → Prop, K v → O K
def Pt (O : (V → Heap → Nat → Prop) → Prop) : Prop := ∀ K0, O K0 → ∃ v H k, K0 v H k ∧ ∀ K : V → Heap → Nat → Prop, K v H k → O K
section
variable {H : Heap} {ti : TI} {x y : V} {T : Tab} {d : D} {f k : Nat} {op : BinOp} {kd : IntKind} {m n : Int}
omit [Md] in
theorem loadV_pt : Pt1 (loadV H ti x) := by
 intro K0 h
 unfold loadV at h ⊢
 split at h
 ·split at h
  ·rename_i hn; exact ⟨_, h.2.2, fun K hK => by first | exact ⟨h.1, h.2.1, hK⟩ | (simp only [hn]; exact ⟨h.1, h.2.1, hK⟩)⟩
  ·exact h.elim
 ·exact ⟨_, h.2, fun K hK => ⟨h.1, hK⟩⟩
 ·exact h.elim
omit [Md] in
theorem storeV_pt : PtH (storeV H ti x y) := by
 intro K0 h
 unfold storeV at h ⊢
 split at h
 ·split at h
  ·rename_i hn; exact ⟨_, h.2.2.2.2, fun K hK => by first | exact ⟨h.1, h.2.1, h.2.2.1, h.2.2.2.1, hK⟩ | (simp only [hn]; exact ⟨h.1, h.2.1, h.2.2.1, h.2.2.2.1, hK⟩)⟩
  ·exact h.elim
 ·exact h.elim
omit [Md] in
theorem indexAddrV_pt : Pt1 (indexAddrV T H d x y) := by
 intro K0 h
 unfold indexAddrV at h ⊢
 split at h
 ·split at h
  ·split at h
   ·rename_i ht
    split at h
    ·exact ⟨_, h.2.2, fun K hK => by first | exact ⟨h.1, h.2.1, hK⟩ | (simp only [ht]; exact ⟨h.1, h.2.1, hK⟩)⟩
    ·exact ⟨_, h.2.2, fun K hK => by first | exact ⟨h.1, h.2.1, hK⟩ | (simp only [ht]; exact ⟨h.1, h.2.1, hK⟩)⟩
    ·exact h.elim
   ·exact h.elim
  ·split at h
   ·rename_i ht
    split at h
    ·split at h
     ·rename_i hn; exact ⟨_, h.2.2.2, fun K hK => by first | exact ⟨h.1, h.2.1, h.2.2.1, hK⟩ | (simp only [ht, hn]; exact ⟨h.1, h.2.1, h.2.2.1, hK⟩)⟩
     ·exact h.elim
    ·exact ⟨_, h.2.2.2, fun K hK => by first | exact ⟨h.1, h.2.1, h.2.2.1, hK⟩ | (simp only [ht]; exact ⟨h.1, h.2.1, h.2.2.1, hK⟩)⟩
    ·exact h.elim
   ·exact h.elim
  ·exact h.elim
 ·exact h.elim
omit [Md] in
theorem indexV_pt : Pt1 (indexV T d x y) := by
 intro K0 h
 unfold indexV at h ⊢
 split at h
 ·split at h
  ·split at h
   ·rename_i ht
    split at h
    ·exact ⟨_, h.2.2.2, fun K hK => by first | exact ⟨h.1, h.2.1, h.2.2.1, hK⟩ | (simp only [ht]; exact ⟨h.1, h.2.1, h.2.2.1, hK⟩)⟩
    ·exact h.elim
   ·exact h.elim
  ·split at h
   ·exact ⟨_, h.2.2, fun K hK => ⟨h.1, h.2.1, hK⟩⟩
   ·exact h.elim
  ·exact h.elim
 ·exact h.elim
omit [Md] in
theorem fieldAddrV_pt : Pt1 (fieldAddrV T d x f) := by
 intro K0 h
 unfold fieldAddrV at h ⊢
 split at h
 ·split at h
  ·rename_i hf
   split at h
   ·rename_i ht
    split at h
    ·exact ⟨_, h.2, fun K hK => by first | exact ⟨h.1, hK⟩ | (simp only [hf, ht]; exact ⟨h.1, hK⟩)⟩
    ·exact ⟨_, h.2, fun K hK => by first | exact ⟨h.1, hK⟩ | (simp only [hf, ht]; exact ⟨h.1, hK⟩)⟩
    ·exact h.elim
   ·exact h.elim
  ·exact h.elim
 ·exact h.elim
omit [Md] in
theorem fieldV_pt : Pt1 (fieldV T d x f) := by
 intro K0 h
 unfold fieldV at h ⊢
 split at h
 ·split at h
  ·rename_i hf
   split at h
   ·rename_i ht
    split at h
    ·exact ⟨_, h.2, fun K hK => by first | exact ⟨h.1, hK⟩ | (simp only [hf, ht]; exact ⟨h.1, hK⟩)⟩
    ·exact h.elim
   ·exact h.elim
  ·exact h.elim
 ·exact h.elim
omit [Md] in
theorem binIV_pt : Pt1 (binIV op kd m n) := by
 intro K0 h
 unfold binIV at h ⊢
 cases op <;> simp only [] at h ⊢ <;> first | exact ⟨_, h, fun K hK => hK⟩ | exact ⟨_, h.2, fun K hK => ⟨h.1, hK⟩⟩ | exact h.elim
omit [Md] in
theorem shIV_pt : Pt1 (shIV op kd m n) := by
 intro K0 h
 unfold shIV at h ⊢
 cases op <;> simp only [] at h ⊢ <;> first | exact ⟨_, h.2, fun K hK => ⟨h.1, hK⟩⟩ | exact h.elim
omit [Md] in
theorem eqV_pt {sp : Option (List EK)} {cs ds : List V} : Pt1 (eqV sp op cs ds) := by
 intro K0 h
 unfold eqV at h ⊢
 split at h
 ·split at h
  ·rename_i hb
   cases op <;> simp only [] at h ⊢ <;> first | exact ⟨_, h, fun K hK => hK⟩ | exact ⟨_, h, fun K hK => by simp only [hb]; exact hK⟩ | exact h.elim
  ·exact h.elim
 ·exact h.elim
omit [Md] in
theorem ptrV_pt {t : TypeId} : Pt1 (ptrV T op t) := by
 intro K0 h
 unfold ptrV at h ⊢
 split at h
 ·rename_i ht
  split at h
  ·rename_i hd
   cases op <;> simp only [] at h <;> first | exact ⟨_, h, fun K hK => by simp only [ht, hd]; exact hK⟩ | exact h.elim
  ·exact h.elim
 ·exact h.elim
omit [Md] in
theorem makeV_pt {ty : TypeId} : Pt (makeV T ty x y k H) := by
 intro K0 h
 unfold makeV at h ⊢
 split at h
 ·split at h
  ·rename_i ht
   split at h
   ·rename_i hd
    split at h
    ·rename_i hte
     exact ⟨_, _, _, h.2.2.2.2, fun K hK => by first | exact ⟨h.1, h.2.1, h.2.2.1, h.2.2.2.1, hK⟩ | (simp only [ht, hd, hte]; exact ⟨h.1, h.2.1, h.2.2.1, h.2.2.2.1, hK⟩)⟩
    ·exact h.elim
   ·exact h.elim
  ·exact h.elim
 ·exact h.elim
omit [Md] in
theorem binV_pt {t : TypeId} : Pt1 (binV T op t x y) := by
 intro K0 h
 unfold binV at h ⊢
 split at h
 ·split at h
  ·rename_i ht
   obtain ⟨v, h1, h2⟩ := eqV_pt _ h.2
   exact ⟨v, h1, fun K hK => by first | exact ⟨h.1, h2 K hK⟩ | (simp only [ht]; exact ⟨h.1, h2 K hK⟩)⟩
  ·exact h.elim
 ·obtain ⟨v, h1, h2⟩ := ptrV_pt _ h; exact ⟨v, h1, fun K hK => h2 K hK⟩
 ·obtain ⟨v, h1, h2⟩ := ptrV_pt _ h; exact ⟨v, h1, fun K hK => h2 K hK⟩
 ·split at h
  ·rename_i hs
   obtain ⟨v, h1, h2⟩ := shIV_pt K0 h
   exact ⟨v, h1, fun K hK => by first | exact h2 K hK | (simp only [hs, if_true]; exact h2 K hK)⟩
  ·rename_i hs
   obtain ⟨v, h1, h2⟩ := binIV_pt K0 h.2
   exact ⟨v, h1, fun K hK => by first | exact ⟨h.1, h2 K hK⟩ | (simp only [hs, if_false]; exact ⟨h.1, h2 K hK⟩)⟩
 ·cases op <;> simp only [] at h ⊢ <;> first | exact ⟨_, h, fun K hK => hK⟩ | exact ⟨_, h.2, fun K hK => ⟨h.1, hK⟩⟩ | exact h.elim
 ·split at h
  ·rename_i ht
   split at h
   ·rename_i hd
    cases op <;> simp only [] at h <;> first | exact ⟨_, h, fun K hK => by simp only [ht, hd]; exact hK⟩ | exact h.elim
   ·exact h.elim
  ·exact h.elim
 ·exact h.elim
omit [Md] in
theorem sliceV_pt {lo hi : Nat → Option Int} : Pt1 (sliceV H ti x lo hi) := by
 intro K0 h
 unfold sliceV at h ⊢
 split at h
 ·split at h
  ·rename_i h1 h2; exact ⟨_, h.2.2, fun K hK => by first | exact ⟨h.1, h.2.1, hK⟩ | (simp only [h1, h2]; exact ⟨h.1, h.2.1, hK⟩)⟩
  ·exact h.elim
 ·split at h
  ·rename_i hn
   split at h
   ·rename_i h1 h2; exact ⟨_, h.2.2.2.2, fun K hK => by first | exact ⟨h.1, h.2.1, h.2.2.1, h.2.2.2.1, hK⟩ | (simp only [hn, h1, h2]; exact ⟨h.1, h.2.1, h.2.2.1, h.2.2.2.1, hK⟩)⟩
   ·exact h.elim
  ·exact h.elim
 ·split at h
  ·rename_i h1 h2; exact ⟨_, h.2.2.2.2, fun K hK => by first | exact ⟨h.1, h.2.1, h.2.2.1, h.2.2.2.1, hK⟩ | (simp only [h1, h2]; exact ⟨h.1, h.2.1, h.2.2.1, h.2.2.2.1, hK⟩)⟩
  ·exact h.elim
 ·exact h.elim
omit [Md] in
theorem appendV_pt : Pt (appendV H k ti x y) := by
 intro K0 h
 unfold appendV at h ⊢
 split at h
 ·rename_i hnw
  split at h
  ·exact ⟨_, _, _, h.2.2.2, fun K hK => by first | exact ⟨h.1, h.2.1, h.2.2.1, hK⟩ | (simp only [hnw]; exact ⟨h.1, h.2.1, h.2.2.1, hK⟩)⟩
  ·split at h
   ·rename_i hn; exact ⟨_, _, _, h.2.2.2.2.2, fun K hK => by first | exact ⟨h.1, h.2.1, h.2.2.1, h.2.2.2.1, h.2.2.2.2.1, hK⟩ | (simp only [hnw, hn]; exact ⟨h.1, h.2.1, h.2.2.1, h.2.2.2.1, h.2.2.2.2.1, hK⟩)⟩
   ·exact h.elim
  ·exact h.elim
 ·exact h.elim
omit [Md] in
theorem fillP_pt {pl : Nat → Option (Nat × Nat)} : ∀ (ps : List (Nat × V)) (cs : List V), PtL (fillP pl cs ps)
 | [], cs => fun K0 h => ⟨cs, h, fun K hK => hK⟩
 | (i, v) :: r, cs => fun K0 h => by
  simp only [fillP] at h ⊢
  split at h
  ·rename_i hp
   obtain ⟨cs', h1, h2⟩ := fillP_pt r _ K0 h.2.2.2
   exact ⟨cs', h1, fun K hK => by first | exact ⟨h.1, h.2.1, h.2.2.1, h2 K hK⟩ | (simp only [hp]; exact ⟨h.1, h.2.1, h.2.2.1, h2 K hK⟩)⟩
  ·exact h.elim
theorem opV_pt {P : Program} {t : List (Nat × V)} {op : Op} (hc : isCall op = false) : Pt (opV T P t H k op) := by
 intro K0 h
 unfold opV at h ⊢
 split at h
 ·exact ⟨_, _, _, h, fun K hK => hK⟩
 ·exact ⟨_, _, _, h, fun K hK => hK⟩
 ·split at h
  ·rename_i b hb
   cases b with
   | true => exact ⟨_, _, _, (by simpa using h : K0 _ _ _), fun K hK => by first | simpa using hK | (simp only [hb]; simpa using hK)⟩
   | false => exact ⟨_, _, _, (by simpa using h : K0 _ _ _), fun K hK => by first | simpa using hK | (simp only [hb]; simpa using hK)⟩
  ·exact h.elim
 ·split at h
  ·rename_i ht; exact ⟨_, _, _, h.2, fun K hK => by first | exact ⟨h.1, hK⟩ | (simp only [ht]; exact ⟨h.1, hK⟩)⟩
  ·exact h.elim
 ·split at h
  ·rename_i ht; exact ⟨_, _, _, h, fun K hK => by first | exact hK | (simp only [ht]; exact hK)⟩
  ·exact h.elim
 ·split at h
  ·rename_i ht; obtain ⟨v, h1, h2⟩ := loadV_pt _ h; exact ⟨_, _, _, h1, fun K hK => by first | exact h2 _ hK | (simp only [ht]; exact h2 _ hK)⟩
  ·exact h.elim
 ·split at h
  ·rename_i ht; obtain ⟨v, h1, h2⟩ := storeV_pt _ h; exact ⟨_, _, _, h1, fun K hK => by first | exact h2 _ hK | (simp only [ht]; exact h2 _ hK)⟩
  ·exact h.elim
 ·split at h
  ·rename_i ht; obtain ⟨v, h1, h2⟩ := indexAddrV_pt _ h; exact ⟨_, _, _, h1, fun K hK => by first | exact h2 _ hK | (simp only [ht]; exact h2 _ hK)⟩
  ·exact h.elim
 ·split at h
  ·rename_i ht; obtain ⟨v, h1, h2⟩ := indexV_pt _ h; exact ⟨_, _, _, h1, fun K hK => by first | exact h2 _ hK | (simp only [ht]; exact h2 _ hK)⟩
  ·exact h.elim
 ·split at h
  ·rename_i ht; obtain ⟨v, h1, h2⟩ := fieldAddrV_pt _ h; exact ⟨_, _, _, h1, fun K hK => by first | exact h2 _ hK | (simp only [ht]; exact h2 _ hK)⟩
  ·exact h.elim
 ·split at h
  ·rename_i ht; obtain ⟨v, h1, h2⟩ := fieldV_pt _ h; exact ⟨_, _, _, h1, fun K hK => by first | exact h2 _ hK | (simp only [ht]; exact h2 _ hK)⟩
  ·exact h.elim
 ·split at h
  ·rename_i ht; exact ⟨_, _, _, h.2, fun K hK => by first | exact ⟨h.1, hK⟩ | (simp only [ht]; exact ⟨h.1, hK⟩)⟩
  ·exact h.elim
 ·obtain ⟨v, h1, h2⟩ := binV_pt _ h; exact ⟨_, _, _, h1, fun K hK => h2 _ hK⟩
 ·split at h
  ·rename_i hx; exact ⟨_, _, _, h, fun K hK => by first | exact hK | (simp only [hx]; exact hK)⟩
  ·rename_i hx; exact ⟨_, _, _, h, fun K hK => by first | exact hK | (simp only [hx]; exact hK)⟩
  ·rename_i hx; exact ⟨_, _, _, h, fun K hK => by first | exact hK | (simp only [hx]; exact hK)⟩
  ·exact h.elim
 ·split at h
  ·rename_i h1 h2 h3
   split at h
   ·rename_i h4 h5; exact ⟨_, _, _, h.2, fun K hK => by first | exact ⟨h.1, hK⟩ | (simp only [h1, h2, h3, h4, h5]; exact ⟨h.1, hK⟩)⟩
   ·exact h.elim
  ·exact h.elim
 ·split at h
  ·rename_i ht
   split at h
   ·rename_i hd
    obtain ⟨cs, h1, h2⟩ := fillP_pt _ _ _ h.2
    exact ⟨_, _, _, h1, fun K hK => by first | exact ⟨h.1, h2 _ hK⟩ | (simp only [ht, hd]; exact ⟨h.1, h2 _ hK⟩)⟩
   ·rename_i hd
    split at h
    ·rename_i he
     obtain ⟨cs, h1, h2⟩ := fillP_pt _ _ _ h
     exact ⟨_, _, _, h1, fun K hK => by first | exact h2 _ hK | (simp only [ht, hd, he]; exact h2 _ hK)⟩
    ·exact h.elim
   ·exact h.elim
  ·exact h.elim
 ·split at h
  ·rename_i ht
   split at h
   ·rename_i hd
    split at h
    ·rename_i he; exact ⟨_, _, _, h.2.2.2.2, fun K hK => by first | exact ⟨h.1, h.2.1, h.2.2.1, h.2.2.2.1, hK⟩ | (simp only [ht, hd, he]; exact ⟨h.1, h.2.1, h.2.2.1, h.2.2.2.1, hK⟩)⟩
    ·exact h.elim
   ·exact h.elim
  ·exact h.elim
 ·split at h
  ·rename_i ht
   split at h
   ·rename_i hd
    split at h
    ·rename_i hx
     split at h
     ·rename_i h1 h2; exact ⟨_, _, _, h.2.2.2, fun K hK => by first | exact ⟨h.1, h.2.1, h.2.2.1, hK⟩ | (simp only [ht, hd, hx, h1, h2]; exact ⟨h.1, h.2.1, h.2.2.1, hK⟩)⟩
     ·exact h.elim
    ·exact h.elim
   ·rename_i hd
    split at h
    ·rename_i he
     obtain ⟨v, h1, h2⟩ := sliceV_pt _ h
     exact ⟨_, _, _, h1, fun K hK => by first | exact h2 _ hK | (simp only [ht, hd, he]; exact h2 _ hK)⟩
    ·exact h.elim
   ·rename_i hd
    obtain ⟨v, H', k', h1, h2⟩ := runW_iff h
    exact ⟨_, _, _, h2, fun K hK => by first | exact runW_of h1 hK | (simp only [ht, hd]; exact runW_of h1 hK)⟩
   ·exact h.elim
  ·exact h.elim
 ·exact ⟨_, _, _, h.2, fun K hK => ⟨h.1, hK⟩⟩
 ·obtain ⟨v, H', k', h1, h2⟩ := makeV_pt _ h; exact ⟨_, _, _, h1, fun K hK => h2 _ hK⟩
 ·exact ⟨_, _, _, h, fun K hK => hK⟩
 ·simp [isCall] at hc
 ·split at h
  ·rename_i h1 h2
   split at h
   ·rename_i h3
    split at h
    ·rename_i h4; exact ⟨_, _, _, h.2, fun K hK => by first | exact ⟨h.1, hK⟩ | (simp only [h1, h2, h3, h4]; exact ⟨h.1, hK⟩)⟩
    ·exact h.elim
   ·exact h.elim
  ·exact h.elim
 ·split at h
  ·rename_i h1
   split at h
   ·rename_i h2 h3; exact ⟨_, _, _, h, fun K hK => by first | exact hK | (simp only [h1, h2, h3]; exact hK)⟩
   ·exact h.elim
  ·exact h.elim
 ·split at h
  ·rename_i h1
   split at h
   ·rename_i h2 h3; exact ⟨_, _, _, h, fun K hK => by first | exact hK | (simp only [h1, h2, h3]; exact hK)⟩
   ·exact h.elim
  ·exact h.elim
 ·split at h
  ·rename_i h1 h2
   split at h
   ·rename_i h3 h4
    split at h
    ·rename_i h5 h6
     split at h
     ·rename_i h7
      obtain ⟨v, H', k', e1, e2⟩ := appendV_pt _ h
      exact ⟨_, _, _, e1, fun K hK => by first | exact e2 _ hK | (simp only [h1, h2, h3, h4, h5, h6, h7]; exact e2 _ hK)⟩
     ·exact h.elim
    ·exact h.elim
   ·exact h.elim
  ·exact h.elim
 ·obtain ⟨v, H', k', h1, h2⟩ := runW_iff h
  exact ⟨_, _, _, h2, fun K hK => runW_of h1 hK⟩
end
end Go.Sl
