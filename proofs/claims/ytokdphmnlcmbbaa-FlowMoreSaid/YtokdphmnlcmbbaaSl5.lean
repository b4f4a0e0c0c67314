/- Reading and writing: fields, elements, loads, stores, values by part. -/
import Derived.Test.YtokdphmnlcmbbaaSl4
set_option linter.unusedVariables false
set_option linter.unusedSimpArgs false
namespace Go.Sl

/-- n cells from j on -/
def cut (j n : Nat) (cs : List V) : List V := (cs.drop j).take n

theorem cut_all {cs : List V} {n : Nat} (h : cs.length = n) : cut 0 n cs = cs := by simp [cut, List.take_of_length_le (Nat.le_of_eq h)]

def partV (agg : Bool) (n : Nat) (cs : List V) (j : Nat) : V := if agg then .agg (cut j n cs) else cs.getD j .any

/-- us in the place of what was there from o on -/
def splice {α : Type} (cs : List α) (o : Nat) (us : List α) : List α := cs.take o ++ (us ++ cs.drop (o + us.length))

theorem length_splice {α : Type} (cs : List α) (o : Nat) (us : List α) (h : o + us.length ≤ cs.length) : (splice cs o us).length = cs.length := by
  simp only [splice, List.length_append, List.length_take, List.length_drop]; omega

theorem splice_all {α : Type} {cs us : List α} (h : us.length = cs.length) : splice cs 0 us = us := by
  simp [splice, List.drop_of_length_le (Nat.le_of_eq h.symm)]

theorem mem_splice {α : Type} {cs us : List α} {o : Nat} {x : α} (h : x ∈ splice cs o us) : x ∈ cs ∨ x ∈ us := by
  simp only [splice, List.mem_append] at h
  rcases h with h | h | h
  · exact .inl (List.mem_of_mem_take h)
  · exact .inr h
  · exact .inl (List.mem_of_mem_drop h)

theorem getElem?_splice {α : Type} (cs us : List α) (o q : Nat) (h : o + us.length ≤ cs.length) : (splice cs o us)[q]? = if o ≤ q ∧ q < o + us.length then us[q - o]? else cs[q]? := by
  unfold splice
  have hl : (cs.take o).length = o := by rw [List.length_take]; omega
  by_cases h1 : q < o
  · rw [List.getElem?_append_left (by omega), List.getElem?_take, if_pos h1, if_neg (by omega)]
  · rw [List.getElem?_append_right (by omega), hl]
    by_cases h2 : q < o + us.length
    · rw [List.getElem?_append_left (by omega), if_pos ⟨by omega, h2⟩]
    · rw [List.getElem?_append_right (by omega), List.getElem?_drop, if_neg (by omega)]
      congr 1; omega

theorem splice_window {α : Type} (c ys : List α) (o m q off : Nat) (h : off = o + q) (h1 : q + ys.length ≤ m) (h2 : o + m ≤ c.length) : ((splice c off ys).drop o).take m = splice ((c.drop o).take m) q ys := by
  have hl : ((c.drop o).take m).length = m := by rw [List.length_take, List.length_drop]; omega
  apply List.ext_getElem?
  intro r
  rw [getElem?_splice ((c.drop o).take m) ys q r (by rw [hl]; exact h1)]
  simp only [List.getElem?_take, List.getElem?_drop]
  rw [getElem?_splice c ys off (o + r) (by omega)]
  by_cases hr : r < m
  · simp only [hr, if_true]
    by_cases hr2 : q ≤ r ∧ r < q + ys.length
    · rw [if_pos (by omega), if_pos hr2]; congr 1; omega
    · rw [if_neg (by omega), if_neg hr2]
  · simp only [hr, if_false]
    rw [if_neg (by omega)]

def putPart (v : V) (j : Nat) (u : V) : V :=
  match v with
  | .agg cs => .agg (splice cs j u.cells)
  | _ => u

section
variable {fr : Nat → Prop} {F : Nat → Prop} {ι ι' : Names} {O : Nat → Prop} {H : Heap} {σ σ' : St} {a a' : Act} {w w' : World} {P : Program} {T : Tab}

theorem VRels.splice {cs us : List V} {xs ys : List Value} (h : VRels ι O w cs xs) (h' : VRels ι O w us ys) (o : Nat) : VRels ι O w (splice cs o us) (splice xs o ys) := by
  unfold Sl.splice
  rw [h'.length]
  exact (h.take o).append (h'.append (h.drop _))

theorem flatMap_drop {es : List V} {sz : Nat} (h : ∀ v ∈ es, v.cells.length = sz) (i : Nat) : (es.flatMap V.cells).drop (i * sz) = (es.drop i).flatMap V.cells := by
  induction es generalizing i with
  | nil => simp
  | cons v es ih =>
    cases i with
    | zero => simp
    | succ i =>
      have hv := h v (by simp)
      rw [List.flatMap_cons, List.drop_append, hv, List.drop_succ_cons, ← ih (fun v hv => h v (by simp [hv])) i]
      rw [List.drop_of_length_le (by rw [hv, Nat.add_mul]; omega), List.nil_append]
      congr 1
      rw [Nat.add_mul]; omega

theorem length_flatMap_cells {es : List V} {sz : Nat} (h : ∀ v ∈ es, v.cells.length = sz) : (es.flatMap V.cells).length = es.length * sz := by
  induction es with
  | nil => simp
  | cons v es ih => rw [List.flatMap_cons, List.length_append, h v (by simp), ih (fun v hv => h v (by simp [hv])), List.length_cons, Nat.add_mul]; omega

theorem flatMap_take {es : List V} {sz : Nat} (h : ∀ v ∈ es, v.cells.length = sz) (i : Nat) : (es.flatMap V.cells).take (i * sz) = (es.take i).flatMap V.cells := by
  induction es generalizing i with
  | nil => simp
  | cons v es ih =>
    cases i with
    | zero => simp
    | succ i =>
      have hv := h v (by simp)
      rw [List.flatMap_cons, List.take_append, hv, List.take_succ_cons, List.flatMap_cons, ← ih (fun v hv => h v (by simp [hv])) i]
      rw [List.take_of_length_le (by rw [hv, Nat.add_mul]; omega)]
      congr 2
      rw [Nat.add_mul]; omega

theorem flatMap_elem {es : List V} {sz i : Nat} {v : V} (h : ∀ v ∈ es, v.cells.length = sz) (hv : es[i]? = some v) : ((es.flatMap V.cells).drop (i * sz)).take sz = v.cells := by
  rw [flatMap_drop h]
  have hlt := (List.getElem?_eq_some_iff.1 hv).1
  have e : es.drop i = v :: es.drop (i + 1) := by
    rw [List.drop_eq_getElem_cons hlt]
    congr 1
    exact (List.getElem?_eq_some_iff.1 hv).2
  rw [e, List.flatMap_cons, List.take_append, h v (List.mem_of_getElem? hv)]
  simp [List.take_of_length_le (Nat.le_of_eq (h v (List.mem_of_getElem? hv)))]

theorem flatMap_set {es : List V} {sz i : Nat} {v : V} (h : ∀ v ∈ es, v.cells.length = sz) (hi : i < es.length) (hv : v.cells.length = sz) :
    (es.set i v).flatMap V.cells = splice (es.flatMap V.cells) (i * sz) v.cells := by
  unfold splice
  rw [hv, ← Nat.succ_mul, flatMap_drop h, flatMap_take h]
  rw [List.set_eq_take_append_cons_drop, if_pos hi]
  simp

/-- a name's block -/
theorem Rep.block (R : Rep F ι H w) {n sz : Nat} {es : List V} (h : look n H = some (.rows sz es)) {l : Loc} (hl : ι n = some l) (hg : l.ghost = false) :
    l.sz = sz ∧ l.map = false ∧ (∀ v ∈ es, v.fits sz = true) ∧ l.b < w.heap.size ∧ ¬ F l.b ∧ ∃ c e, w.heap[l.b]? = some (.cells c e (0, 0)) ∧ c.size = l.size ∧ l.o + es.length * sz ≤ c.size ∧
      VRels ι (Own F ι H) w (es.flatMap V.cells) ((c.toList.drop l.o).take (es.length * sz)) := by
  obtain ⟨l', hl', ⟨h1, h2, h3, h4⟩, h5⟩ := R.known h
  rw [hl] at hl'; cases hl'
  rcases h4 with ⟨h4, _⟩ | ⟨_, c, e, hw, hc, ho, hv⟩
  · rw [hg] at h4; cases h4
  · exact ⟨h1, h2, h3, (h5 hg).1, (h5 hg).2, c, e, hw, hc, ho, hv⟩

theorem cell_of_block {b off : Nat} {c : Array Value} {e : TypeId} {fr : Nat × Nat} (hw : w.heap[b]? = some (.cells c e fr)) (q : Nat) : w.cell? ((⟨b, off, none⟩ : Addr).add q) = c[off + q]? := by
  rw [Addr.add_lit, cell_of_row w b (off + q) c e fr hw]

theorem cells_at {b off n : Nat} {c : Array Value} {e : TypeId} {fr : Nat × Nat} (hw : w.heap[b]? = some (.cells c e fr)) : ∀ q v, ((c.toList.drop off).take n)[q]? = some v → w.cell? ((⟨b, off, none⟩ : Addr).add q) = some v := by
  intro q v h
  rw [cell_of_block hw]
  rw [List.getElem?_take] at h
  split at h
  · rw [List.getElem?_drop] at h; simpa using h
  · cases h

theorem run_loadVar_at {t : TypeId} {ti : TI} (hti : tiOf P t = some ti) {b off : Nat} {c : Array Value} {e : TypeId} {fr : Nat × Nat} (hw : w.heap[b]? = some (.cells c e fr)) (hin : off + ti.size ≤ c.size)
    {cs : List V} (hv : VRels ι O w cs ((c.toList.drop off).take ti.size)) : ∃ x, (loadVar t ⟨b, off, none⟩).run P w = .ok x w ∧ VRel ι O w (partV ti.agg ti.size cs 0) x := by
  have hl : ((c.toList.drop off).take ti.size).length = ti.size := by simp; omega
  unfold loadVar partV
  by_cases hg : ti.agg = true
  · refine ⟨.agg ((c.toList.drop off).take ti.size).toArray, ?_, ?_⟩
    · have := run_loadCells_list (P := P) w ⟨b, off, none⟩ ((c.toList.drop off).take ti.size) (cells_at hw)
      rw [hl] at this
      simp [run_isAgg hti, run_sizeOf hti, hg, this]
    · rw [if_pos hg, cut_all (by rw [hv.length, hl])]
      exact .agg hv
  · have h1 : ti.size = 1 := by
      have := zeroV_cells hti
      have h2 := (zero_oneCell hti).2
      unfold TI.zeroV at this
      rw [if_neg hg] at this
      cases hz : ti.zero with
      | nil => rw [hz] at this; simp [V.cells] at this
      | cons z zs =>
        rw [hz] at this h2
        simp [V.cells] at this
        rw [this] at h2
        simpa using h2.symm
    rw [if_neg hg]
    obtain ⟨x, hx⟩ : ∃ x, c[off]? = some x := ⟨_, Array.getElem?_eq_getElem (by omega)⟩
    have hc0 := cell_of_block (off := off) hw 0
    rw [Addr.add_zero', Nat.add_zero, hx] at hc0
    refine ⟨x, by simp [run_isAgg hti, hg, hc0], ?_⟩
    have hxs : ((c.toList.drop off).take ti.size)[0]? = some x := by
      rw [List.getElem?_take, if_pos (by omega), List.getElem?_drop]; simpa using hx
    have h0 : cs.length = 1 := by rw [hv.length, hl, h1]
    obtain ⟨u, hu⟩ : ∃ u, cs[0]? = some u := ⟨_, List.getElem?_eq_getElem (by omega)⟩
    obtain ⟨y, hy, hvy⟩ := hv.get 0 u hu
    rw [hxs] at hy; cases hy
    simpa [List.getD, hu] using hvy

theorem size_pos_of_scalar {t : TypeId} {ti : TI} (hti : tiOf P t = some ti) (hg : ¬ ti.agg = true) : 0 < ti.size := by
  have h2 := (zero_oneCell hti).2
  rcases Nat.eq_zero_or_pos ti.size with h0 | h0
  · exfalso
    have := zeroV_cells hti
    unfold TI.zeroV at this; rw [if_neg hg] at this
    rw [h0] at h2
    rw [List.eq_nil_of_length_eq_zero h2] at this
    simp [V.cells] at this
  · exact h0

theorem partV_of {t : TypeId} {ti : TI} (hti : tiOf P t = some ti) {cs : List V} {j : Nat} {y : Value} (h : VRel ι O w (partV ti.agg ti.size ((cs.drop j).take ti.size) 0) y) : VRel ι O w (partV ti.agg ti.size cs j) y := by
  unfold partV at h ⊢
  split
  · rename_i hg'; rw [if_pos hg'] at h; simpa [cut, List.take_take] using h
  · rename_i hg'; rw [if_neg hg'] at h
    have := size_pos_of_scalar hti hg'
    simpa [List.getD, List.getElem?_take, List.getElem?_drop, this] using h

theorem run_load_ptr (R : Rep F ι H w) {t : TypeId} {ti : TI} (hti : tiOf P t = some ti) {n i j sz : Nat} {es : List V} {cx : Value} (hx : VRel ι (Own F ι H) w (.ptr n i j) cx)
    (hn : look n H = some (.rows sz es)) (hi : i < es.length) (hj : j + ti.size ≤ sz) :
    ∃ ad y, cx = .pointer (some ad) ∧ (loadVar t ad).run P w = .ok y w ∧ VRel ι (Own F ι H) w (partV ti.agg ti.size (es.getD i .any).cells j) y := by
  cases hx with
  | ptr hl hg hm hoff =>
    rename_i off l
    obtain ⟨h1, h2, h3, h4, h5, c, e, hw, hc, hlen, hv⟩ := R.block hn hl hg
    have hcl : ∀ v ∈ es, v.cells.length = sz := fun v hv => (fits_iff.1 (h3 v hv)).1
    obtain ⟨v, hvi⟩ : ∃ v, es[i]? = some v := ⟨_, List.getElem?_eq_getElem hi⟩
    have hd : es.getD i .any = v := by simp [List.getD, hvi]
    have hmul : i * sz + sz ≤ es.length * sz := by rw [← Nat.succ_mul]; exact Nat.mul_le_mul_right _ hi
    have hel := (hv.drop (i * sz)).take sz
    rw [flatMap_elem hcl hvi] at hel
    have hpart := (hel.drop j).take ti.size
    have hin : off + ti.size ≤ c.size := by rw [hoff, h1]; omega
    have hlist : (((((c.toList.drop l.o).take (es.length * sz)).drop (i * sz)).take sz).drop j).take ti.size = (c.toList.drop off).take ti.size := by
      apply List.ext_getElem?
      intro q
      simp only [List.getElem?_take, List.getElem?_drop]
      by_cases hq : q < ti.size
      · simp only [hq, if_true, show j + q < sz by omega, show i * sz + (j + q) < es.length * sz by omega]
        congr 1; rw [hoff, h1]; omega
      · simp [hq]
    rw [hlist] at hpart
    obtain ⟨y, hy, hvy⟩ := run_loadVar_at hti hw hin hpart
    exact ⟨_, y, rfl, hy, by rw [hd]; exact partV_of hti hvy⟩

theorem run_load_rp {t : TypeId} {ti : TI} (hti : tiOf P t = some ti) {j : Nat} {cs : List V} {cx : Value} (hx : VRel ι O w (.rp cs j) cx) (hj : j + ti.size ≤ cs.length) :
    ∃ ad y, cx = .pointer (some ad) ∧ (loadVar t ad).run P w = .ok y w ∧ VRel ι O w (partV ti.agg ti.size cs j) y := by
  cases hx with
  | rp hb hO hw hsz hin hvs hv hoff =>
    rename_i b off off' c e fr vs
    subst hvs
    have hpart := (hv.drop j).take ti.size
    have hlist : (((c.toList.drop off).take cs.length).drop j).take ti.size = (c.toList.drop off').take ti.size := by
      apply List.ext_getElem?
      intro q
      simp only [List.getElem?_take, List.getElem?_drop]
      by_cases hq : q < ti.size
      · simp only [hq, if_true, show j + q < cs.length by omega]
        congr 1; rw [hoff]; omega
      · simp [hq]
    rw [hlist] at hpart
    obtain ⟨y, hy, hvy⟩ := run_loadVar_at hti hw (by omega) hpart
    exact ⟨_, y, rfl, hy, partV_of hti hvy⟩

theorem op_load_ptr {o : Oper} {K : V → Heap → Nat → Prop} (t : TypeId) (x : Operand) (ho : o.op = .load t x) {ti : TI} (hti : tiOf P t = some ti) {n i j sz : Nat} {es : List V} (hx : evalV σ.t x = .ptr n i j)
    (hn : look n σ.H = some (.rows sz es)) (hi : i < es.length) (hj : j + ti.size ≤ sz) (hk : K (partV ti.agg ti.size (es.getD i .any).cells j) σ.H σ.k) : OpT fr P o σ K :=
  opT_pure hk fun F ι a w hh => by
    have he := hh.eval x
    rw [hx] at he
    obtain ⟨ad, y, h1, h2, h3⟩ := run_load_ptr (P := P) hh.rep hti he hn hi hj
    refine ⟨y, ?_, h3⟩
    unfold execOp; rw [ho]; simp [h1, Instr.loadAt, Instr.sureAddr, h2]

theorem op_load_rp {o : Oper} {K : V → Heap → Nat → Prop} (t : TypeId) (x : Operand) (ho : o.op = .load t x) {ti : TI} (hti : tiOf P t = some ti) {j : Nat} {cs : List V} (hx : evalV σ.t x = .rp cs j)
    (hj : j + ti.size ≤ cs.length) (hk : K (partV ti.agg ti.size cs j) σ.H σ.k) : OpT fr P o σ K :=
  opT_pure hk fun F ι a w hh => by
    have he := hh.eval x
    rw [hx] at he
    obtain ⟨ad, y, h1, h2, h3⟩ := run_load_rp (P := P) hti he hj
    refine ⟨y, ?_, h3⟩
    unfold execOp; rw [ho]; simp [h1, Instr.loadAt, Instr.sureAddr, h2]

theorem splice_one (x : V) {j : Nat} {us : List V} (h : j + us.length ≤ 1) (h0 : 0 < us.length) : us = splice [x] j us := by
  have hj : j = 0 := by omega
  subst hj
  rw [splice_all (by simp; omega)]

theorem putPart_cells {v u : V} {j : Nat} (h : j + u.cells.length ≤ v.cells.length) (h0 : 0 < u.cells.length) : (putPart v j u).cells = splice v.cells j u.cells := by
  cases v with
  | agg cs => rfl
  | _ => exact splice_one _ h h0

theorem op_store_ptr {o : Oper} {K : V → Heap → Nat → Prop} (t : TypeId) (x y : Operand) (ho : o.op = .store t x y) {ti : TI} (hti : tiOf P t = some ti) {n i j sz : Nat} {es : List V} (hx : evalV σ.t x = .ptr n i j)
    (hn : look n σ.H = some (.rows sz es)) (hi : i < es.length) (h0 : 0 < ti.size) (hj : j + ti.size ≤ sz) (hfit : (evalV σ.t y).fits ti.size = true)
    (hk : K (.tup []) (put n (.rows sz (es.set i (putPart (es.getD i .any) j (evalV σ.t y)))) σ.H) σ.k) : OpT fr P o σ K :=
  opT_skip fun F ι a w hh => by
    have he := hh.eval x
    have hy := hh.eval y
    rw [hx] at he
    generalize hcv : a.eval x = cv at he
    generalize hcy : a.eval y = cy at hy
    generalize evalV σ.t y = u at hfit hk hy
    have hf := fits_iff.1 hfit
    have hany : u.isAny = false := by cases u <;> simp_all [V.isAny, V.cells, V.one]
    have hyc := hy.cells hany
    have hyl : cy.cells.size = ti.size := by rw [← Array.length_toList, ← hyc.length, hf.1]
    have hy1 := oneCells hyc hf.2
    cases he with
    | ptr hl hg hm hoff =>
      rename_i off l
      obtain ⟨h1, h2, h3, h4, h5, c, e, hw, hc, hlen, hv⟩ := hh.rep.block hn hl hg
      have hcl : ∀ v ∈ es, v.cells.length = sz := fun v hv => (fits_iff.1 (h3 v hv)).1
      obtain ⟨v, hvi⟩ : ∃ v, es[i]? = some v := ⟨_, List.getElem?_eq_getElem hi⟩
      have hd : es.getD i .any = v := by simp [List.getD, hvi]
      rw [hd] at hk
      have hvm := List.mem_of_getElem? hvi
      have hvf := fits_iff.1 (h3 v hvm)
      have hpc : (putPart v j u).cells = splice v.cells j u.cells := putPart_cells (by rw [hf.1, hvf.1]; exact hj) (by rw [hf.1]; exact h0)
      have hpl : (putPart v j u).cells.length = sz := by rw [hpc, length_splice _ _ _ (by rw [hf.1, hvf.1]; exact hj), hvf.1]
      have hmul : i * sz + sz ≤ es.length * sz := by rw [← Nat.succ_mul]; exact Nat.mul_le_mul_right _ hi
      have hrun := run_storeCells_at P l.b off e cy.cells.toList 0 c w hw (by rw [Array.length_toList, hyl, hoff, h1]; omega) hy1
      rw [Nat.add_zero] at hrun
      refine ⟨ι, .tup [], _, σ.k, w.setRow l.b (c.toList.take off ++ cy.cells.toList ++ c.toList.drop (off + cy.cells.toList.length)).toArray, ?_, hk, ?_⟩
      · unfold execOp; rw [ho]
        simp [hcv, hcy, Instr.storeAt, Instr.sureAddr, storeVar, run_sizeOf hti, hyl, hrun]
      · have hsz : (c.toList.take off ++ cy.cells.toList ++ c.toList.drop (off + cy.cells.toList.length)).toArray.size = c.size := by
          simp only [List.size_toArray, List.length_append, List.length_take, List.length_drop, Array.length_toList, hyl]
          rw [hoff, h1]; omega
        have hcs : (w.setRow l.b (c.toList.take off ++ cy.cells.toList ++ c.toList.drop (off + cy.cells.toList.length)).toArray).heap[l.b]? = some (.cells _ e (0, 0)) := setRow_heap w l.b c _ e (0, 0) hw
        have hoth : ∀ q, q < w.heap.size → q ≠ l.b → (w.setRow l.b (c.toList.take off ++ cy.cells.toList ++ c.toList.drop (off + cy.cells.toList.length)).toArray).heap[q]? = w.heap[q]? := fun q _ hq => setRow_other w l.b q _ hq
        have hmem := look_mem hn
        have hrel : VRels ι (Own F ι σ.H) w ((es.set i (putPart v j u)).flatMap V.cells) ((((c.toList.take off ++ cy.cells.toList ++ c.toList.drop (off + cy.cells.toList.length)).toArray).toList.drop l.o).take (es.length * sz)) := by
          have e1 : (es.set i (putPart v j u)).flatMap V.cells = splice (es.flatMap V.cells) (i * sz + j) u.cells := by
            rw [flatMap_set hcl hi hpl, hpc]
            apply List.ext_getElem?
            intro q
            have hL := length_flatMap_cells hcl
            rw [getElem?_splice (es.flatMap V.cells) (splice v.cells j u.cells) (i * sz) q (by rw [length_splice _ _ _ (by rw [hf.1, hvf.1]; exact hj), hvf.1, hL]; exact hmul), getElem?_splice (es.flatMap V.cells) u.cells (i * sz + j) q (by rw [hf.1, hL]; omega)]
            rw [length_splice v.cells j u.cells (by rw [hf.1, hvf.1]; exact hj), hvf.1, hf.1]
            by_cases hq : i * sz ≤ q ∧ q < i * sz + sz
            · rw [if_pos hq, getElem?_splice _ _ _ _ (by rw [hf.1, hvf.1]; exact hj), hf.1]
              by_cases hq2 : i * sz + j ≤ q ∧ q < i * sz + j + ti.size
              · rw [if_pos (by omega), if_pos hq2]; congr 1; omega
              · rw [if_neg (by omega), if_neg hq2]
                have := congrArg (·[q - i * sz]?) (flatMap_elem hcl hvi)
                simp only [List.getElem?_take, List.getElem?_drop] at this
                rw [if_pos (by omega)] at this
                rw [← this]; congr 1; omega
            · rw [if_neg hq, if_neg (by omega)]
          rw [e1]
          have h' := hv.splice hyc (i * sz + j)
          have e2 : ((((c.toList.take off ++ cy.cells.toList ++ c.toList.drop (off + cy.cells.toList.length)).toArray).toList.drop l.o).take (es.length * sz)) = splice ((c.toList.drop l.o).take (es.length * sz)) (i * sz + j) cy.cells.toList := by
            have hs : c.toList.take off ++ cy.cells.toList ++ c.toList.drop (off + cy.cells.toList.length) = splice c.toList off cy.cells.toList := by simp [splice]
            have hyl' : cy.cells.toList.length = ti.size := by simpa using hyl
            show ((c.toList.take off ++ cy.cells.toList ++ c.toList.drop (off + cy.cells.toList.length)).drop l.o).take (es.length * sz) = _
            rw [hs]
            exact splice_window _ _ _ _ _ _ (by rw [hoff, h1]; omega) (by rw [hyl']; omega) (by simpa using hlen)
          rw [e2]; exact h'
        refine ⟨⟨kept_put hmem hl hg hh.rep.names rfl rfl rfl (by simp) hoth, Nat.le_refl _, fun _ _ => rfl, fun m hm => .inl (by rw [names_put] at hm; exact hm)⟩, hh.rep.put hmem hl hg rfl rfl rfl (by simp) hoth fun O' S => ⟨h1, h2, ?_, .inr ⟨hg, _, e, hcs, by rw [hsz, hc], by rw [List.length_set, hsz]; exact hlen, ?_⟩⟩, hh.fresh, ?_⟩
        · intro v' hv'
          rcases List.mem_or_eq_of_mem_set hv' with h | h
          · exact h3 v' h
          · subst h
            refine fits_iff.2 ⟨hpl, fun c' hc' => ?_⟩
            rw [hpc] at hc'
            exact (mem_splice hc').elim (hvf.2 c') (hf.2 c')
        · rw [List.length_set]; exact hrel.stays S
        · exact VRel.tup .nil

end
end Go.Sl
