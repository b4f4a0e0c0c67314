/- Values built, slices made, cut, lengthened; calls. -/
import Derived.Test.YtokdphmnlcmbbaaSl6
import Derived.Great.FillDense
set_option linter.unusedVariables false
set_option linter.unusedSimpArgs false
namespace Go.Sl

section
variable {fr : Nat → Prop} {F : Nat → Prop} {ι ι' : Names} {O : Nat → Prop} {H : Heap} {σ σ' : St} {a a' : Act} {w w' : World} {P : Program} {T : Tab}

/-! ## composite values -/

theorem foldl_set_get (off : Nat) : ∀ (l : List Value) (s : Nat) (cs : Array Value), off + s + l.length ≤ cs.size →
    ((l.zipIdx s).foldl (fun cs (x : Value × Nat) => cs.setIfInBounds (off + x.2) x.1) cs).toList = splice cs.toList (off + s) l
  | [], s, cs, h => by simp [splice]
  | v :: l, s, cs, h => by
    simp only [List.zipIdx_cons, List.foldl_cons, List.length_cons] at h ⊢
    rw [foldl_set_get off l (s + 1) _ (by simp; omega)]
    apply List.ext_getElem?
    intro q
    rw [getElem?_splice _ _ _ _ (by simp; omega), getElem?_splice _ _ _ _ (by simp; omega)]
    simp only [Array.getElem?_toList, Array.getElem?_setIfInBounds, List.length_cons]
    by_cases h1 : q = off + s
    · subst h1
      rw [if_neg (by omega), if_pos (by omega), Nat.sub_self]
      simp; omega
    · by_cases h2 : off + (s + 1) ≤ q ∧ q < off + (s + 1) + l.length
      · rw [if_pos h2, if_pos (by omega)]
        rw [show q - (off + s) = (q - (off + (s + 1))) + 1 by omega, List.getElem?_cons_succ]
      · rw [if_neg h2, if_neg (by omega), if_neg (by omega)]

/-- parts into their places -/
def fillP (pl : Nat → Option (Nat × Nat)) : List V → List (Nat × V) → (List V → Prop) → Prop
  | cs, [], K => K cs
  | cs, (i, v) :: r, K =>
    match pl i with
    | some (off, sz) => v.cells.length = sz ∧ v.isAny = false ∧ off + sz ≤ cs.length ∧ fillP pl (splice cs off v.cells) r K
    | none => False

theorem fillP_sound {pl : Nat → Option (Nat × Nat)} : ∀ (parts : List (Nat × V)) (cparts : List (Nat × Value)) (cs : List V) (ccs : Array Value) (K : List V → Prop), fillP pl cs parts K → VRels ι O w cs ccs.toList →
    parts.map Prod.fst = cparts.map Prod.fst → VRels ι O w (parts.map Prod.snd) (cparts.map Prod.snd) → ∃ cs' ccs', Instr.fill pl ccs cparts = some ccs' ∧ VRels ι O w cs' ccs'.toList ∧ K cs'
  | [], cparts, cs, ccs, K, h, hv, hf, _ => by
    cases cparts with
    | nil => exact ⟨cs, ccs, rfl, hv, h⟩
    | cons => simp at hf
  | (i, v) :: r, cparts, cs, ccs, K, h, hv, hf, hs => by
    cases cparts with
    | nil => simp at hf
    | cons cp cr =>
      obtain ⟨i', x⟩ := cp
      simp only [List.map_cons, List.cons.injEq] at hf
      obtain ⟨hi, hf⟩ := hf
      subst hi
      simp only [List.map_cons] at hs
      cases hs with
      | cons hx hs =>
        simp only [fillP] at h
        cases hpl : pl i with
        | none => rw [hpl] at h; exact h.elim
        | some p =>
          obtain ⟨off, sz⟩ := p
          rw [hpl] at h
          obtain ⟨h1, h2, h3, h4⟩ := h
          have hxc := hx.cells h2
          have hxl : x.cells.size = sz := by rw [← Array.length_toList, ← hxc.length, h1]
          have hcl : ccs.size = cs.length := by rw [← Array.length_toList, hv.length]
          have e := foldl_set_get off x.cells.toList 0 ccs (by rw [Array.length_toList, hxl]; omega)
          obtain ⟨cs', ccs', e1, e2, e3⟩ := fillP_sound r cr (splice cs off v.cells) _ K h4 (by rw [e]; exact hv.splice hxc _) hf hs
          refine ⟨cs', ccs', ?_, e2, e3⟩
          rw [← e1]
          simp only [Instr.fill, hpl, hxl]
          rw [if_neg (by simp; omega)]
          congr 1
          rw [← Array.foldl_toList]
          congr 1
          simp

theorem op_build {o : Oper} {K : V → Heap → Nat → Prop} (t : TypeId) (parts : Array (Nat × Operand)) (ho : o.op = .build t parts) {ti : TI} (hti : tiOf P t = some ti) {fs : List (TypeId × Nat × Nat)} (hd : ti.d = .struct fs)
    (hfs : ∀ f ∈ fs, ∃ tf, tiOf P f.1 = some tf) (h : fillP (fun i => (fs[i]?).map fun f => (f.2.1, f.2.2)) (ti.zero.map .val) (parts.toList.map fun p => (p.1, evalV σ.t p.2)) (fun cs => K (.agg cs) σ.H σ.k)) : OpT fr P o σ K :=
  opT_run fun F ι a w hh => by
    obtain ⟨gs, hr, hm⟩ := run_und_struct hti hd w
    obtain ⟨z, hz, hzc, hzs⟩ := run_zeroValue hti w
    have hz' : VRels ι (Own F ι σ.H) w (ti.zero.map .val) z.cells.toList := by rw [hzc]; exact VRels.vals (zero_oneCell hti).1
    have hpv : ∀ ps : List (Nat × Operand), VRels ι (Own F ι σ.H) w ((ps.map fun p => (p.1, evalV σ.t p.2)).map Prod.snd) ((ps.map fun p => (p.1, a.eval p.2)).map Prod.snd) := by
      intro ps
      induction ps with
      | nil => exact .nil
      | cons p ps ih => exact .cons (hh.eval p.2) ih
    obtain ⟨cs', ccs', e1, e2, e3⟩ := fillP_sound (ι := ι) (O := Own F ι σ.H) (w := w) (parts.toList.map fun p => (p.1, evalV σ.t p.2)) (parts.toList.map fun p => (p.1, a.eval p.2)) _ z.cells _ h hz' (by simp [Function.comp_def]) (hpv _)
    have hpl : (gs.toList.mapM fun f => (P.info? f.type).map fun i => (f.offset, i.size)) = some (gs.toList.map fun f => (f.offset, P.cellsOf f.type)) := by
      have : ∀ l : List Field, (∀ f ∈ l, ∃ tf, tiOf P f.type = some tf) → (l.mapM fun f => (P.info? f.type).map fun i => (f.offset, i.size)) = some (l.map fun f => (f.offset, P.cellsOf f.type)) := by
        intro l
        induction l with
        | nil => intro _; rfl
        | cons f l ih =>
          intro hl
          obtain ⟨tf, htf⟩ := hl f (by simp)
          obtain ⟨d, i, z, hd, hi, hz, hs, ha, h1, h2, _⟩ := tiOf_spec htf
          simp [List.mapM_cons, ih (fun f hf => hl f (by simp [hf])), hi, Program.cellsOf]
      refine this _ fun f hf => hfs (f.type, f.offset, P.cellsOf f.type) ?_
      rw [← hm]; exact List.mem_map.2 ⟨f, hf, rfl⟩
    have hrp := run_places w gs.toList _ hpl
    have hfun : (fun i : Nat => (gs.toList.map fun f : Field => (f.offset, P.cellsOf f.type)).toArray[i]?) = (fun i => (fs[i]?).map fun (f : TypeId × Nat × Nat) => (f.2.1, f.2.2)) := by
      funext i
      rw [← hm]
      simp [Function.comp_def]
    refine ⟨ι, .agg cs', .agg ccs', σ.H, σ.k, w, ?_, e3, hh.same ?_⟩
    · unfold execOp; rw [ho]
      have hrp' : (gs.mapM fun f => Prod.mk f.offset <$> sizeOf f.type).run P w = .ok (gs.toList.map fun f => (f.offset, P.cellsOf f.type)).toArray w := by
        rw [Array.mapM_eq_mapM_toList]
        simp [hrp]
      have e1' : Instr.fill (fun i : Nat => (gs.toList.map fun f : Field => (f.offset, P.cellsOf f.type)).toArray[i]?) z.cells (parts.toList.map fun p => (p.1, a.eval p.2)) = some ccs' := by rw [hfun]; exact e1
      simp [Instr.build, hz, hr, hrp', Array.toList_map]
      simp at e1'
      rw [e1']
      rfl
    · exact .agg e2

/-- an array, all of whose elements are given, or none -/
theorem op_build_arr {o : Oper} {K : V → Heap → Nat → Prop} (t : TypeId) (parts : Array (Nat × Operand)) (ho : o.op = .build t parts) {ti te : TI} (hti : tiOf P t = some ti) {n : Nat} {e : TypeId} (hd : ti.d = .array n e) (hte : tiOf P e = some te)
    (h : fillP (fun i => some (i * te.size, te.size)) (ti.zero.map .val) (parts.toList.map fun p => (p.1, evalV σ.t p.2)) (fun cs => K (.agg cs) σ.H σ.k)) : OpT fr P o σ K :=
  opT_run fun F ι a w hh => by
    obtain ⟨z, hz, hzc, hzs⟩ := run_zeroValue hti w
    have hz' : VRels ι (Own F ι σ.H) w (ti.zero.map .val) z.cells.toList := by rw [hzc]; exact VRels.vals (zero_oneCell hti).1
    have hpv : ∀ ps : List (Nat × Operand), VRels ι (Own F ι σ.H) w ((ps.map fun p => (p.1, evalV σ.t p.2)).map Prod.snd) ((ps.map fun p => (p.1, a.eval p.2)).map Prod.snd) := by
      intro ps
      induction ps with
      | nil => exact .nil
      | cons p ps ih => exact .cons (hh.eval p.2) ih
    obtain ⟨cs', ccs', e1, e2, e3⟩ := fillP_sound (ι := ι) (O := Own F ι σ.H) (w := w) (parts.toList.map fun p => (p.1, evalV σ.t p.2)) (parts.toList.map fun p => (p.1, a.eval p.2)) _ z.cells _ h hz' (by simp [Function.comp_def]) (hpv _)
    refine ⟨ι, .agg cs', .agg ccs', σ.H, σ.k, w, ?_, e3, hh.same (.agg e2)⟩
    unfold execOp; rw [ho]
    simp [Instr.build, hz, run_und_array hti hd, run_sizeOf hte, Array.toList_map]
    rw [e1]
    rfl

/-- a slice, all of whose elements are given in order -/
theorem op_buildSlice (hfr : fr σ.k) {o : Oper} {K : V → Heap → Nat → Prop} (t : TypeId) (len : Nat) (parts : Array (Nat × Operand)) (ho : o.op = .buildSlice t len parts) {ti te : TI} (hti : tiOf P t = some ti) {e : TypeId} (hd : ti.d = .slice e) (hte : tiOf P e = some te)
    (hs : 0 < te.size) (hidx : parts.toList.map Prod.fst = List.range len) (hbig : len * te.size ≤ 16777216) (hfit : ∀ p ∈ parts.toList, (evalV σ.t p.2).fits te.size = true)
    (hk : K (.sl σ.k 0 len) ((σ.k, .rows te.size (parts.toList.map fun p => evalV σ.t p.2)) :: σ.H) (σ.k + 1)) : OpT fr P o σ K :=
  opT_run fun F ι a w hh => by
    obtain ⟨z, hz, hzc, hzs⟩ := run_zeroValue hte w
    have hlen : parts.toList.length = len := by have := congrArg List.length hidx; simpa using this
    have hvals : VRels ι (Own F ι σ.H) w ((parts.toList.map fun p => evalV σ.t p.2).flatMap V.cells) ((parts.toList.map fun p => a.eval p.2).flatMap fun v => v.cells.toList) ∧ (∀ v ∈ parts.toList.map fun p => a.eval p.2, v.cells.size = te.size) := by
      have : ∀ ps : List (Nat × Operand), (∀ p ∈ ps, (evalV σ.t p.2).fits te.size = true) → VRels ι (Own F ι σ.H) w ((ps.map fun p => evalV σ.t p.2).flatMap V.cells) ((ps.map fun p => a.eval p.2).flatMap fun v => v.cells.toList) ∧ (∀ v ∈ ps.map fun p => a.eval p.2, v.cells.size = te.size) := by
        intro ps
        induction ps with
        | nil => intro _; exact ⟨.nil, by simp⟩
        | cons p ps ih =>
          intro hp
          have hf := fits_iff.1 (hp p (by simp))
          have hany : (evalV σ.t p.2).isAny = false := by
            cases h : evalV σ.t p.2 <;> simp_all [V.isAny, V.cells, V.one]
          have hc := (hh.eval p.2).cells hany
          obtain ⟨i1, i2⟩ := ih fun q hq => hp q (by simp [hq])
          refine ⟨by simpa using hc.append i1, ?_⟩
          intro v hv
          simp only [List.map_cons, List.mem_cons] at hv
          rcases hv with rfl | hv
          · rw [← Array.length_toList, ← hc.length, hf.1]
          · exact i2 v hv
      exact this _ hfit
    have hzip : (parts.toList.map fun p => (p.1, a.eval p.2)) = (((parts.toList.map fun p => a.eval p.2).zipIdx 0).map fun x => (x.2, x.1)) := by
      apply List.ext_getElem?
      intro q
      simp only [List.getElem?_map, List.getElem?_zipIdx]
      cases hq : parts.toList[q]? with
      | none => simp
      | some p =>
        have := congrArg (·[q]?) hidx
        simp only [List.getElem?_map, hq, Option.map_some] at this
        have hql : q < len := by rw [← hlen]; exact (List.getElem?_eq_some_iff.1 hq).1
        rw [List.getElem?_range hql] at this
        simp at this
        simp [this]
    have hfl : ((parts.toList.map fun p => a.eval p.2).flatMap fun v => v.cells.toList).length = len * te.size := by
      rw [← hvals.1.length, length_flatMap_cells (sz := te.size)]
      · simp [hlen]
      · intro v hv
        obtain ⟨p, hp, rfl⟩ := List.mem_map.1 hv
        exact (fits_iff.1 (hfit p hp)).1
    have hfill := Great.fill_whole hs (parts.toList.map fun p => a.eval p.2) ((Array.range (len * te.size)).map (z.cells[· % z.cells.size]!)) hvals.2 (by simp [hlen])
    have hrun : (Instr.buildSlice t len (parts.map fun (i, x) => (i, a.eval x))).run P w =
        .ok (.slice (some ⟨w.heap.size, 0, none⟩) len len) (w.alloc (.cells ((parts.toList.map fun p => a.eval p.2).flatMap fun v => v.cells.toList).toArray e)) := by
      have hb : ¬ (len * te.size > 2 ^ 24) := by omega
      have hzip' : ((parts.map fun x : Nat × Operand => (x.1, a.eval x.2)).toList) = (((parts.toList.map fun p => a.eval p.2).zipIdx 0).map fun x => (x.2, x.1)) := by
        rw [Array.toList_map]; exact hzip
      by_cases h0 : len * te.size = 0
      · have hl0 : len = 0 := by
          rcases Nat.mul_eq_zero.1 h0 with h | h
          · exact h
          · omega
        subst hl0
        have hp0 : parts.toList = [] := List.eq_nil_of_length_eq_zero hlen
        have hp0' : parts = #[] := by cases parts; simp at hp0; subst hp0; rfl
        subst hp0'
        simp [Instr.buildSlice, run_und_slice hti hd, run_sizeOf hte, Instr.fill, newRow, Array.range_zero']
      · simp only [Instr.buildSlice, Sem.run_bind, run_und_slice hti hd, run_sizeOf hte, Result.andThen_ok, hb, if_false, h0, hz, Sem.run_pure, hzip', hfill, newRow, run_newObj, World.alloc_eq]
    refine ⟨_, .sl σ.k 0 len, .slice (some ⟨w.heap.size, 0, none⟩) len len, _, _, w.alloc (.cells ((parts.toList.map fun p => a.eval p.2).flatMap fun v => v.cells.toList).toArray e), ?_, hk, out_newRow hfr hh e te.size _ ?_ ((parts.toList.map fun p => a.eval p.2).flatMap fun v => v.cells.toList).toArray ?_ ?_ w rfl rfl rfl rfl ?_⟩
    · unfold execOp; rw [ho]
      simp only [Sem.run_bind, hrun, Result.andThen_ok, Sem.run_pure]
    · intro v hv
      obtain ⟨p, hp, rfl⟩ := List.mem_map.1 hv
      exact hfit p hp
    · simp only [List.size_toArray, hfl, List.length_map, hlen]; exact Nat.le_refl _
    · simp only [List.length_map, hlen]
      rw [List.take_of_length_le (by simp only [hfl]; exact Nat.le_refl _)]
      exact hvals.1
    · intro ι' h
      by_cases h0 : len = 0
      · subst h0; exact .sl0 h
      · refine .sl h rfl rfl (by simp) (by omega) (Nat.le_refl _) ?_ ?_
        · have : len ≤ len * te.size := Nat.le_mul_of_pos_right len hs
          simp only [maxLen]; omega
        · simp only [List.size_toArray, hfl, Nat.zero_add]; exact Nat.le_refl _

/-! ## calls -/

theorem VRels.evals (hh : Holds fr F ι σ a w) (xs : List Operand) : VRels ι (Own F ι σ.H) w (xs.map (evalV σ.t)) (xs.map a.eval) := by
  induction xs with
  | nil => exact .nil
  | cons x xs ih => exact .cons (hh.eval x) ih

theorem op_call {o : Oper} {K : V → Heap → Nat → Prop} (f : Operand) (args : Array Operand) (ts : Array TypeId) (ho : o.op = .call ⟨.value f, args, ts⟩) {g : FuncId} {fs cs : List V} (hf : evalV σ.t f = .fn (.func g) fs cs)
    (h : Fn P g (fs ++ args.toList.map (evalV σ.t) ++ cs) σ.H σ.k K) : OpT All P o σ K := by
  intro F ι a w hh next Q hn
  have he := hh.eval f
  rw [hf] at he
  generalize hcv : a.eval f = cv at he
  cases he with
  | fn h1 h2 =>
    rename_i fs' cs'
    obtain ⟨fn, hg, hnm, hbody⟩ := h.enters
    have hargs := (h1.append (VRels.evals hh args.toList)).append h2
    have hc := h.calls F ι w _ hargs hh.rep (fun n => hh.fresh n trivial)
    have hrun : (execOp a.eval o).run P w = .ok (.enter g (fs' ++ args.toList.map a.eval ++ cs').toArray) w := by
      unfold execOp; rw [ho]
      have e1 : fs'.toArray ++ args.map a.eval ++ cs'.toArray = (fs' ++ args.toList.map a.eval ++ cs').toArray := by
        apply Array.ext'; simp
      simp only [resolve, hcv, Deferred.ofValue, invoke, callFunc, Sem.run_bind, Sem.run_pure, Result.andThen_ok, run_program, hg, hnm, hbody, Bool.false_eq_true, if_false, e1]
    unfold Oper.wp
    rw [hrun]
    refine Calls.mono hc ?_
    rintro e w' ⟨ι', v, cv', H', k', rfl, hk, hO⟩
    exact hn ι' v cv' H' k' w' hk hO

end
end Go.Sl
