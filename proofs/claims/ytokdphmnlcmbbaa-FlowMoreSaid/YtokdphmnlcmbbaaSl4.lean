/- The type table; the operations that only compute, read, write or make variables: what each asks, and that it holds. -/
import Derived.Test.YtokdphmnlcmbbaaSl3
set_option linter.unusedVariables false
set_option linter.unusedSimpArgs false
namespace Go.Sl

/-! ## types -/
inductive D where
  | int (k : IntKind)
  | bool
  | string
  | slice (e : TypeId)
  | array (n : Nat) (e : TypeId)
  | struct (fs : List (TypeId × Nat × Nat))
  | pointer (e : TypeId)
  | map (k e : TypeId)
  | func
  | tuple
  | other

def D.of (P : Program) : TypeDesc → D
  | .int k => .int k
  | .bool => .bool
  | .string => .string
  | .slice e => .slice e
  | .array n e => .array n e
  | .struct fs => .struct (fs.toList.map fun f => (f.type, f.offset, P.cellsOf f.type))
  | .pointer e => .pointer e
  | .map k e => .map k e
  | .func _ _ _ => .func
  | .tuple _ => .tuple
  | _ => .other

structure TI where
  d : D
  size : Nat
  bytes : Nat
  zero : List Value

abbrev Tab := Nat → Option TI

def valAgg : Value → Bool
  | .agg _ => true
  | _ => false

def descAgg : TypeDesc → Bool
  | .struct _ | .array .. => true
  | _ => false

/-- a struct that is not the model's own, each of its fields named -/
def plainD (P : Program) (t : TypeId) : TypeDesc → Bool
  | .struct fs => !P.stoodInHeld t && fs.toList.all fun f => f.name != "_"
  | _ => true

def tiOf (P : Program) (t : TypeId) : Option TI :=
  match P.underlying t, P.info? t with
  | some d, some i =>
    match i.zero with
    | some z => if (z.cells.size == i.size && z.cells.all (·.oneCell') && (valAgg z == descAgg d) && plainD P t d) = true then some ⟨D.of P d, i.size, i.bytes, z.cells.toList⟩ else none
    | none => none
  | _, _ => none

def TabOk (P : Program) (T : Tab) : Prop := ∀ t ti, T t = some ti → tiOf P t = some ti

def TI.agg (ti : TI) : Bool := match ti.d with | .struct _ | .array .. => true | _ => false

def TI.zeroV (ti : TI) : V := if ti.agg then .agg (ti.zero.map .val) else (ti.zero.map V.val).headD .any

theorem tiOf_spec {P : Program} {t : TypeId} {ti : TI} (h : tiOf P t = some ti) : ∃ d i z, P.underlying t = some d ∧ P.info? t = some i ∧ i.zero = some z ∧ z.cells.size = i.size ∧ z.cells.all (·.oneCell') = true ∧
    ti.d = D.of P d ∧ ti.size = i.size ∧ ti.bytes = i.bytes ∧ ti.zero = z.cells.toList ∧ valAgg z = descAgg d := by
  unfold tiOf at h
  split at h
  · rename_i d i hd hi
    split at h
    · rename_i z hz
      split at h
      · rename_i hc
        simp only [Bool.and_eq_true, beq_iff_eq] at hc
        cases h
        exact ⟨d, i, z, hd, hi, hz, hc.1.1.1, hc.1.1.2, rfl, rfl, rfl, rfl, hc.1.2⟩
      · cases h
    · cases h
  · cases h

theorem tiOf_plain {P : Program} {t : TypeId} {ti : TI} (h : tiOf P t = some ti) {d : TypeDesc} (hd : P.underlying t = some d) : plainD P t d = true := by
  unfold tiOf at h
  rw [hd] at h
  split at h
  · rename_i d' i hd' hi
    cases hd'
    split at h
    · split at h
      · rename_i hc
        simp only [Bool.and_eq_true, beq_iff_eq] at hc
        exact hc.2
      · cases h
    · cases h
  · cases h

section
variable {fr : Nat → Prop} {F : Nat → Prop} {ι ι' : Names} {O : Nat → Prop} {σ σ' : St} {a a' : Act} {w w' : World} {P : Program} {T : Tab}

theorem run_isAgg {t : TypeId} {ti : TI} (h : tiOf P t = some ti) (w : World) : (isAgg t).run P w = .ok ti.agg w := by
  obtain ⟨d, i, z, hd, hi, hz, _, _, h1, _⟩ := tiOf_spec h
  unfold isAgg TI.agg
  rw [h1]
  cases d <;> simp [run_underlying hd, D.of]

theorem run_sizeOf {t : TypeId} {ti : TI} (h : tiOf P t = some ti) (w : World) : (sizeOf t).run P w = .ok ti.size w := by
  obtain ⟨d, i, z, hd, hi, hz, _, _, h1, h2, _⟩ := tiOf_spec h
  simp [sizeOf, typeInfo, hi, h2]

theorem run_typeInfo {t : TypeId} {ti : TI} (h : tiOf P t = some ti) (w : World) : ∃ i z, (typeInfo t).run P w = .ok i w ∧ P.info? t = some i ∧ i.size = ti.size ∧ i.bytes = ti.bytes ∧ i.zero = some z ∧ z.cells.toList = ti.zero := by
  obtain ⟨d, i, z, hd, hi, hz, _, _, h1, h2, h3, h4, _⟩ := tiOf_spec h
  exact ⟨i, z, by simp [typeInfo, hi], hi, h2.symm, h3.symm, hz, h4.symm⟩

theorem run_zeroValue {t : TypeId} {ti : TI} (h : tiOf P t = some ti) (w : World) : ∃ z, (zeroValue t).run P w = .ok z w ∧ z.cells.toList = ti.zero ∧ z.cells.size = ti.size := by
  obtain ⟨d, i, z, hd, hi, hz, hs, _, h1, h2, h3, h4, _⟩ := tiOf_spec h
  exact ⟨z, by simp [zeroValue, typeInfo, hi, hz], h4.symm, by rw [hs, h2]⟩

theorem zero_oneCell {t : TypeId} {ti : TI} (h : tiOf P t = some ti) : (∀ v ∈ ti.zero, v.oneCell' = true) ∧ ti.zero.length = ti.size := by
  obtain ⟨d, i, z, hd, hi, hz, hs, ha, h1, h2, h3, h4, _⟩ := tiOf_spec h
  rw [h4, h2]
  refine ⟨fun v hv => ?_, by simpa using hs⟩
  rw [Array.all_eq_true_iff_forall_mem] at ha
  exact ha v (by simpa using hv)

theorem VRels.vals : ∀ {xs : List Value}, (∀ v ∈ xs, v.oneCell' = true) → VRels ι O w (xs.map .val) xs
  | [], _ => .nil
  | x :: xs, h => .cons (.val x (h x (by simp))) (VRels.vals fun v hv => h v (by simp [hv]))

theorem zeroV_cells {t : TypeId} {ti : TI} (h : tiOf P t = some ti) : ti.zeroV.cells = ti.zero.map .val := by
  obtain ⟨d, i, z, hd, hi, hz, hs, ha, h1, h2, h3, h4, h5⟩ := tiOf_spec h
  unfold TI.zeroV
  by_cases hg : ti.agg = true
  · rw [if_pos hg]; rfl
  · rw [if_neg hg]
    have hz' : valAgg z = false := by
      rw [h5]
      unfold TI.agg at hg
      rw [h1] at hg
      cases d <;> simp_all [D.of, descAgg]
    have : z.cells = #[z] := by cases z <;> simp_all [Value.cells, valAgg]
    rw [h4, this]
    rfl

theorem zeroV_fits {t : TypeId} {ti : TI} (h : tiOf P t = some ti) : ti.zeroV.fits ti.size = true := by
  unfold V.fits
  rw [zeroV_cells h]
  rw [List.length_map, (zero_oneCell h).2]
  simp [V.one]

/-! ## helpers -/

theorem fits_iff {sz : Nat} {v : V} : v.fits sz = true ↔ v.cells.length = sz ∧ ∀ c ∈ v.cells, c.one = true := by simp [V.fits]

theorem oneCells {vs : List V} {xs : List Value} (h : VRels ι O w vs xs) (h1 : ∀ c ∈ vs, c.one = true) : ∀ x ∈ xs, x.oneCell' = true := by
  induction vs generalizing xs with
  | nil => cases h; simp
  | cons v vs ih =>
    cases h with
    | cons h hs =>
      intro x hx
      cases hx with
      | head => exact h.oneCell (h1 v (by simp))
      | tail _ hx => exact ih hs (fun c hc => h1 c (by simp [hc])) x hx

theorem opT_run {o : Oper} {K : V → Heap → Nat → Prop} (h : ∀ F ι a w, Holds fr F ι σ a w → ∃ ι' v cv H' k' w', (execOp a.eval o).run P w = .ok (.value cv) w' ∧ K v H' k' ∧ Out fr F ι σ.H σ.k w ι' v cv H' k' w') : OpT fr P o σ K := by
  intro F ι a w hh next Q hn
  obtain ⟨ι', v, cv, H', k', w', hr, hk, hO⟩ := h F ι a w hh
  unfold Oper.wp
  rw [hr]
  exact hn ι' v cv H' k' w' hk hO

theorem opT_skip {o : Oper} {K : V → Heap → Nat → Prop} (h : ∀ F ι a w, Holds fr F ι σ a w → ∃ ι' v H' k' w', (execOp a.eval o).run P w = .ok .skip w' ∧ K v H' k' ∧ Out fr F ι σ.H σ.k w ι' v undef H' k' w') : OpT fr P o σ K := by
  intro F ι a w hh next Q hn
  obtain ⟨ι', v, H', k', w', hr, hk, hO⟩ := h F ι a w hh
  unfold Oper.wp
  rw [hr]
  exact hn ι' v undef H' k' w' hk hO

theorem Holds.same (h : Holds fr F ι σ a w) {v : V} {cv : Value} (hv : VRel ι (Own F ι σ.H) w v cv) : Out fr F ι σ.H σ.k w ι v cv σ.H σ.k w :=
  ⟨Ext.refl _ _ _ _ _, h.rep, h.fresh, hv⟩

/-- an operation that looks at no memory -/
theorem opT_pure {o : Oper} {K : V → Heap → Nat → Prop} {v : V} (hk : K v σ.H σ.k)
    (h : ∀ F ι a w, Holds fr F ι σ a w → ∃ cv, (execOp a.eval o).run P w = .ok (.value cv) w ∧ VRel ι (Own F ι σ.H) w v cv) : OpT fr P o σ K :=
  opT_run fun F ι a w hh => by
    obtain ⟨cv, hr, hv⟩ := h F ι a w hh
    exact ⟨ι, v, cv, σ.H, σ.k, w, hr, hk, hh.same hv⟩

theorem VRel.inv_bool {b : Bool} {x : Value} (h : VRel ι O w (.val (.bool b)) x) : x = .bool b := by cases h; rfl
theorem VRel.inv_val {u x : Value} (h : VRel ι O w (.val u) x) : x = u := by cases h; rfl

theorem op_move {o : Oper} {K : V → Heap → Nat → Prop} (x : Operand) (ho : o.op = .move x ∨ o.op = .assign x) (hk : K (evalV σ.t x) σ.H σ.k) : OpT fr P o σ K :=
  opT_pure hk fun F ι a w hh => ⟨a.eval x, by unfold execOp; rcases ho with ho | ho <;> rw [ho] <;> rfl, hh.eval x⟩

theorem op_pick {o : Oper} {K : V → Heap → Nat → Prop} (c x y : Operand) (ho : o.op = .pick c x y) {b : Bool} (hc : evalV σ.t c = .val (.bool b)) (ht : b = true → K (evalV σ.t x) σ.H σ.k) (hf : b = false → K (evalV σ.t y) σ.H σ.k) : OpT fr P o σ K := by
  cases b with
  | true => exact opT_pure (ht rfl) fun F ι a w hh => ⟨a.eval x, by
      have := hh.eval c; rw [hc] at this
      unfold execOp; rw [ho]; simp [this.inv_bool, asBool], hh.eval x⟩
  | false => exact opT_pure (hf rfl) fun F ι a w hh => ⟨a.eval y, by
      have := hh.eval c; rw [hc] at this
      unfold execOp; rw [ho]; simp [this.inv_bool, asBool], hh.eval y⟩

/-! a new variable, a new row -/

theorem out_newRow (hfr : fr σ.k) (hh : Holds fr F ι σ a w) (e : TypeId) (sz : Nat) (es : List V) (hfit : ∀ v ∈ es, v.fits sz = true) (c : Array Value) (hc : es.length * sz ≤ c.size)
    (hv : VRels ι (Own F ι σ.H) w (es.flatMap V.cells) (c.toList.take (es.length * sz))) (w0 : World) (hw0 : w0.heap = w.heap) (hos : w0.os = w.os) (htp : w0.tape = w.tape) (hou : w0.output = w.output)
    {v : V} {cv : Value} (hcv : ∀ ι', ι' σ.k = some ⟨w.heap.size, 0, sz, c.size, false, false⟩ → VRel ι' (Own F ι' ((σ.k, .rows sz es) :: σ.H)) (w0.alloc (.cells c e)) v cv) :
    Out fr F ι σ.H σ.k w (upd ι σ.k ⟨w.heap.size, 0, sz, c.size, false, false⟩) v cv ((σ.k, .rows sz es) :: σ.H) (σ.k + 1) (w0.alloc (.cells c e)) := by
  have hk := hh.fresh σ.k hfr (Nat.le_refl _)
  have hhp : ∀ i, i < w.heap.size → (w0.alloc (.cells c e)).heap[i]? = w.heap[i]? := fun i hi => by
    rw [← hw0] at hi ⊢; exact heap_alloc_old w0 _ i hi
  have hsz : (w0.alloc (.cells c e)).heap.size = w.heap.size + 1 := by rw [World.size_alloc, hw0]
  refine ⟨⟨kept_alloc hh.rep hk _ _ rfl hos htp hou (by omega) hhp, Nat.le_succ _, fun n hn => upd_other _ _ _ _ (fun e => by subst e; have := hn hfr; omega), ?_⟩, ?_, ?_, hcv _ (upd_same _ _ _)⟩
  · intro n hn
    simp only [List.map_cons, List.mem_cons] at hn
    rcases hn with hn | hn
    · subst hn; exact .inr ⟨hfr, by omega⟩
    · exact .inl hn
  · refine hh.rep.alloc hk _ _ rfl hos htp hou (by omega) hhp fun ι' O' S => ⟨rfl, rfl, hfit, .inr ⟨rfl, c, e, ?_, rfl, by simpa using hc, ?_⟩⟩
    · show (w0.alloc _).heap[w.heap.size]? = _
      rw [← hw0]; exact heap_alloc_new w0 _
    · simpa using hv.stays S
  · intro n hf hn
    rw [upd_other _ _ _ _ (by omega)]
    exact hh.fresh n hf (by omega)

theorem flatMap_one (v : V) : [v].flatMap V.cells = v.cells := by simp

theorem out_newVar (hfr : fr σ.k) (hh : Holds fr F ι σ a w) (e : TypeId) (sz : Nat) (v : V) (x : Value) (hfit : v.fits sz = true) (hv : VRel ι (Own F ι σ.H) w v x) :
    Out fr F ι σ.H σ.k w (upd ι σ.k ⟨w.heap.size, 0, sz, x.cells.size, false, false⟩) (.ptr σ.k 0 0) (.pointer (some ⟨w.heap.size, 0, none⟩)) ((σ.k, .rows sz [v]) :: σ.H) (σ.k + 1) (w.alloc (.cells x.cells e)) := by
  have hf := fits_iff.1 hfit
  have hany : v.isAny = false := by
    cases v <;> simp_all [V.isAny, V.cells, V.one]
  have hc := hv.cells hany
  have hl := hc.length
  have hsz : x.cells.size = sz := by rw [← Array.length_toList, ← hl, hf.1]
  refine out_newRow hfr hh e sz [v] (by simpa using hfit) x.cells (by simp [hsz]) ?_ w rfl rfl rfl rfl ?_
  · simpa [hsz, List.take_of_length_le (show x.cells.toList.length ≤ sz by simp [hsz])] using hc
  · intro ι' h; exact .ptr h rfl rfl (by simp)

theorem op_box (hfr : fr σ.k) {o : Oper} {K : V → Heap → Nat → Prop} (e : TypeId) (x : Operand) (ho : o.op = .box e x) {ti : TI} (hti : tiOf P e = some ti) (hfit : (evalV σ.t x).fits ti.size = true)
    (hk : K (.ptr σ.k 0 0) ((σ.k, .rows ti.size [evalV σ.t x]) :: σ.H) (σ.k + 1)) : OpT fr P o σ K :=
  opT_run fun F ι a w hh => ⟨_, _, _, _, _, _, by
    unfold execOp; rw [ho]
    simp [Instr.box, newVar, newRow], hk, out_newVar hfr hh e ti.size _ _ hfit (hh.eval x)⟩

theorem op_alloc (hfr : fr σ.k) {o : Oper} {K : V → Heap → Nat → Prop} (e : TypeId) (ho : o.op = .alloc e) {ti : TI} (hti : tiOf P e = some ti)
    (hk : K (.ptr σ.k 0 0) ((σ.k, .rows ti.size [ti.zeroV]) :: σ.H) (σ.k + 1)) : OpT fr P o σ K :=
  opT_run fun F ι a w hh => by
    obtain ⟨z, hz, hzc, hzs⟩ := run_zeroValue hti w
    have hv : VRels ι (Own F ι σ.H) w ti.zeroV.cells z.cells.toList := by
      rw [zeroV_cells hti, hzc]; exact VRels.vals (zero_oneCell hti).1
    refine ⟨_, _, _, _, _, _, ?_, hk, out_newRow hfr hh e ti.size [ti.zeroV] (by simpa using zeroV_fits hti) z.cells (by simp [hzs]) (cv := .pointer (some ⟨w.heap.size, 0, none⟩)) ?_ w rfl rfl rfl rfl ?_⟩
    · unfold execOp; rw [ho]
      simp [Instr.alloc, newVar, newRow, hz]
    · simpa [hzs, List.take_of_length_le (show z.cells.toList.length ≤ ti.size by simp [hzs])] using hv
    · intro ι' h; exact .ptr h rfl rfl (by simp)

end
end Go.Sl
