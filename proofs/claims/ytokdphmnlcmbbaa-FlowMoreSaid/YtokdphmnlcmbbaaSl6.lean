/- Addresses of parts, parts of values, arithmetic, comparisons. -/
import Derived.Test.YtokdphmnlcmbbaaSl5
import Derived.Laws.Small
import Derived.Laws.StructEq
set_option linter.unusedVariables false
set_option linter.unusedSimpArgs false
namespace Go.Sl

section
variable {fr : Nat → Prop} {F : Nat → Prop} {ι ι' : Names} {O : Nat → Prop} {H : Heap} {σ σ' : St} {a a' : Act} {w w' : World} {P : Program} {T : Tab}

theorem D.of_array {d : TypeDesc} {n : Nat} {e : TypeId} (h : D.of P d = .array n e) : d = .array n e := by cases d <;> simp_all [D.of]
theorem D.of_slice {d : TypeDesc} {e : TypeId} (h : D.of P d = .slice e) : d = .slice e := by cases d <;> simp_all [D.of]
theorem D.of_int {d : TypeDesc} {k : IntKind} (h : D.of P d = .int k) : d = .int k := by cases d <;> simp_all [D.of]
theorem D.of_bool {d : TypeDesc} (h : D.of P d = .bool) : d = .bool := by cases d <;> simp_all [D.of]
theorem D.of_string {d : TypeDesc} (h : D.of P d = .string) : d = .string := by cases d <;> simp_all [D.of]
theorem D.of_pointer {d : TypeDesc} {e : TypeId} (h : D.of P d = .pointer e) : d = .pointer e := by cases d <;> simp_all [D.of]
theorem D.of_map {d : TypeDesc} {k e : TypeId} (h : D.of P d = .map k e) : d = .map k e := by cases d <;> simp_all [D.of]
theorem D.of_struct {d : TypeDesc} {fs : List (TypeId × Nat × Nat)} (h : D.of P d = .struct fs) : ∃ gs, d = .struct gs ∧ gs.toList.map (fun f => (f.type, f.offset, P.cellsOf f.type)) = fs := by
  cases d <;> simp_all [D.of]

theorem run_und {t : TypeId} {ti : TI} (h : tiOf P t = some ti) (w : World) : ∃ d, (underlying t).run P w = .ok d w ∧ P.underlying t = some d ∧ ti.d = D.of P d := by
  obtain ⟨d, i, z, hd, hi, hz, hs, ha, h1, _⟩ := tiOf_spec h
  exact ⟨d, run_underlying hd w, hd, h1⟩

theorem run_und_array {t : TypeId} {ti : TI} (h : tiOf P t = some ti) {n : Nat} {e : TypeId} (hd : ti.d = .array n e) (w : World) : (underlying t).run P w = .ok (.array n e) w := by
  obtain ⟨d, hr, _, h1⟩ := run_und h w
  rw [hr, D.of_array (h1.symm.trans hd)]
theorem run_und_slice {t : TypeId} {ti : TI} (h : tiOf P t = some ti) {e : TypeId} (hd : ti.d = .slice e) (w : World) : (underlying t).run P w = .ok (.slice e) w := by
  obtain ⟨d, hr, _, h1⟩ := run_und h w
  rw [hr, D.of_slice (h1.symm.trans hd)]
theorem run_und_string {t : TypeId} {ti : TI} (h : tiOf P t = some ti) (hd : ti.d = .string) (w : World) : (underlying t).run P w = .ok .string w := by
  obtain ⟨d, hr, _, h1⟩ := run_und h w
  rw [hr, D.of_string (h1.symm.trans hd)]
theorem run_und_int {t : TypeId} {ti : TI} (h : tiOf P t = some ti) {k : IntKind} (hd : ti.d = .int k) (w : World) : (underlying t).run P w = .ok (.int k) w := by
  obtain ⟨d, hr, _, h1⟩ := run_und h w
  rw [hr, D.of_int (h1.symm.trans hd)]
theorem run_und_bool {t : TypeId} {ti : TI} (h : tiOf P t = some ti) (hd : ti.d = .bool) (w : World) : (underlying t).run P w = .ok .bool w := by
  obtain ⟨d, hr, _, h1⟩ := run_und h w
  rw [hr, D.of_bool (h1.symm.trans hd)]
theorem run_und_pointer {t : TypeId} {ti : TI} (h : tiOf P t = some ti) {e : TypeId} (hd : ti.d = .pointer e) (w : World) : (underlying t).run P w = .ok (.pointer e) w := by
  obtain ⟨d, hr, _, h1⟩ := run_und h w
  rw [hr, D.of_pointer (h1.symm.trans hd)]
theorem run_und_map {t : TypeId} {ti : TI} (h : tiOf P t = some ti) {k e : TypeId} (hd : ti.d = .map k e) (w : World) : (underlying t).run P w = .ok (.map k e) w := by
  obtain ⟨d, hr, _, h1⟩ := run_und h w
  rw [hr, D.of_map (h1.symm.trans hd)]

/-- a field of a struct type: its type, its place, its cells -/
theorem run_und_struct {t : TypeId} {ti : TI} (h : tiOf P t = some ti) {fs : List (TypeId × Nat × Nat)} (hd : ti.d = .struct fs) (w : World) :
    ∃ gs, (underlying t).run P w = .ok (.struct gs) w ∧ gs.toList.map (fun f => (f.type, f.offset, P.cellsOf f.type)) = fs := by
  obtain ⟨d, hr, _, h1⟩ := run_und h w
  obtain ⟨gs, hg, hm⟩ := D.of_struct (h1.symm.trans hd)
  exact ⟨gs, by rw [hr, hg], hm⟩

theorem field_at {gs : Array Field} {fs : List (TypeId × Nat × Nat)} (hm : gs.toList.map (fun f => (f.type, f.offset, P.cellsOf f.type)) = fs) {i : Nat} {ft : TypeId} {off sz : Nat} (h : fs[i]? = some (ft, off, sz)) :
    ∃ f, gs[i]? = some f ∧ f.type = ft ∧ f.offset = off ∧ P.cellsOf ft = sz := by
  subst hm
  simp only [List.getElem?_map, Array.getElem?_toList, Option.map_eq_some_iff, Prod.mk.injEq] at h
  obtain ⟨f, hf, h1, h2, h3⟩ := h
  exact ⟨f, hf, h1, h2, h1 ▸ h3⟩

theorem cellsOf_of {t : TypeId} {ti : TI} (h : tiOf P t = some ti) : P.cellsOf t = ti.size := by
  obtain ⟨d, i, z, hd, hi, hz, hs, ha, h1, h2, _⟩ := tiOf_spec h
  simp [Program.cellsOf, hi, h2]

/-! addresses -/

theorem op_indexAddr_arr_ptr {o : Oper} {K : V → Heap → Nat → Prop} (t : TypeId) (x y : Operand) (ho : o.op = .indexAddr t x y) {ti te : TI} {len : Nat} {e : TypeId} (hti : tiOf P t = some ti) (hd : ti.d = .array len e) (hte : tiOf P e = some te)
    {n i j : Nat} {kd : IntKind} {m : Int} (hx : evalV σ.t x = .ptr n i j) (hy : evalV σ.t y = .val (.int kd m)) (h0 : 0 ≤ m) (h1 : m < len) (hk : K (.ptr n i (j + m.toNat * te.size)) σ.H σ.k) : OpT fr P o σ K :=
  opT_pure hk fun F ι a w hh => by
    have he := hh.eval x
    have hi := (hh.eval y)
    rw [hx] at he; rw [hy] at hi
    have hi := hi.inv_val
    generalize hcv : a.eval x = cv at he
    cases he with
    | ptr hl hg hm hoff =>
      rename_i off l
      refine ⟨.pointer (some ⟨l.b, off + m.toNat * te.size, none⟩), ?_, .ptr hl hg hm (by omega)⟩
      unfold execOp; rw [ho]
      simp [hcv, hi, Instr.indexAt, asIntOf, run_und_array hti hd, Instr.sureAddr, h0, h1, run_sizeOf hte, Addr.add_lit]

theorem op_indexAddr_arr_rp {o : Oper} {K : V → Heap → Nat → Prop} (t : TypeId) (x y : Operand) (ho : o.op = .indexAddr t x y) {ti te : TI} {len : Nat} {e : TypeId} (hti : tiOf P t = some ti) (hd : ti.d = .array len e) (hte : tiOf P e = some te)
    {j : Nat} {cs : List V} {kd : IntKind} {m : Int} (hx : evalV σ.t x = .rp cs j) (hy : evalV σ.t y = .val (.int kd m)) (h0 : 0 ≤ m) (h1 : m < len) (hk : K (.rp cs (j + m.toNat * te.size)) σ.H σ.k) : OpT fr P o σ K :=
  opT_pure hk fun F ι a w hh => by
    have he := hh.eval x
    have hi := (hh.eval y)
    rw [hx] at he; rw [hy] at hi
    have hi := hi.inv_val
    generalize hcv : a.eval x = cv at he
    cases he with
    | rp hb hO hw hsz hin hvs hv hoff =>
      rename_i b off off' c e fr vs
      refine ⟨.pointer (some ⟨b, off' + m.toNat * te.size, none⟩), ?_, .rp hb hO hw hsz hin hvs hv (by omega)⟩
      unfold execOp; rw [ho]
      simp [hcv, hi, Instr.indexAt, asIntOf, run_und_array hti hd, Instr.sureAddr, h0, h1, run_sizeOf hte, Addr.add_lit]

theorem op_indexAddr_sl {o : Oper} {K : V → Heap → Nat → Prop} (t : TypeId) (x y : Operand) (ho : o.op = .indexAddr t x y) {ti te : TI} {e : TypeId} (hti : tiOf P t = some ti) (hd : ti.d = .slice e) (hte : tiOf P e = some te)
    {n i len : Nat} {es : List V} {kd : IntKind} {m : Int} (hx : evalV σ.t x = .sl n i len) (hy : evalV σ.t y = .val (.int kd m)) (hn : look n σ.H = some (.rows te.size es)) (h0 : 0 ≤ m) (h1 : m < len) (hk : K (.ptr n (i + m.toNat) 0) σ.H σ.k) : OpT fr P o σ K :=
  opT_pure hk fun F ι a w hh => by
    have he := hh.eval x
    have hi := (hh.eval y)
    rw [hx] at he; rw [hy] at hi
    have hi := hi.inv_val
    generalize hcv : a.eval x = cv at he
    cases he with
    | sl hl hg hm hoff hc0 hlc hcm hs =>
      rename_i off cap l
      obtain ⟨e1, _⟩ := hh.rep.block hn hl hg
      refine ⟨.pointer (some ⟨l.b, off + m.toNat * te.size, none⟩), ?_, .ptr hl hg hm (by rw [hoff, e1, Nat.add_mul]; omega)⟩
      unfold execOp; rw [ho]
      simp [hcv, hi, Instr.indexAt, asIntOf, run_und_slice hti hd, h0, h1, run_sizeOf hte, Addr.add_lit]
    | sl0 hl => exfalso; omega

theorem op_indexAddr_ro {o : Oper} {K : V → Heap → Nat → Prop} (t : TypeId) (x y : Operand) (ho : o.op = .indexAddr t x y) {ti te : TI} {e : TypeId} (hti : tiOf P t = some ti) (hd : ti.d = .slice e) (hte : tiOf P e = some te)
    {es : List V} {kd : IntKind} {m : Int} (hx : evalV σ.t x = .ro te.size es) (hy : evalV σ.t y = .val (.int kd m)) (h0 : 0 ≤ m) (h1 : m < es.length) (hk : K (.rp (es.getD m.toNat .any).cells 0) σ.H σ.k) : OpT fr P o σ K :=
  opT_pure hk fun F ι a w hh => by
    have he := hh.eval x
    have hi := (hh.eval y)
    rw [hx] at he; rw [hy] at hi
    have hi := hi.inv_val
    generalize hcv : a.eval x = cv at he
    cases he with
    | ro0 => exfalso; simp at h1; omega
    | ro hb hO hw hsz hlen hlc hin hvs hv =>
      rename_i b off len cap c e fr vs
      subst hvs
      have hcl : ∀ v ∈ es, v.cells.length = te.size := fun v hv => (fits_iff.1 (hsz v hv)).1
      obtain ⟨v, hvi⟩ : ∃ v, es[m.toNat]? = some v := ⟨_, List.getElem?_eq_getElem (by omega)⟩
      have hgd : es.getD m.toNat .any = v := by simp [List.getD, hvi]
      have hel := (hv.drop (m.toNat * te.size)).take te.size
      rw [flatMap_elem hcl hvi] at hel
      have hmul : m.toNat * te.size + te.size ≤ es.length * te.size := by rw [← Nat.succ_mul]; exact Nat.mul_le_mul_right _ (by omega)
      have hlist : (((c.toList.drop off).take (es.length * te.size)).drop (m.toNat * te.size)).take te.size = (c.toList.drop (off + m.toNat * te.size)).take v.cells.length := by
        rw [hcl v (List.mem_of_getElem? hvi)]
        apply List.ext_getElem?
        intro q
        simp only [List.getElem?_take, List.getElem?_drop]
        by_cases hq : q < te.size
        · simp only [hq, if_true, show m.toNat * te.size + q < es.length * te.size by omega]
          congr 1; omega
        · simp [hq]
      rw [hlist] at hel
      have hvf := fits_iff.1 (hsz v (List.mem_of_getElem? hvi))
      refine ⟨.pointer (some ⟨b, off + m.toNat * te.size, none⟩), ?_, ?_⟩
      · unfold execOp; rw [ho]
        have h1' : m < len := by omega
        simp [hcv, hi, Instr.indexAt, asIntOf, run_und_slice hti hd, h0, h1', run_sizeOf hte, Addr.add_lit]
      · rw [hgd]
        exact .rp hb hO hw (by simpa using hvf.2) (by rw [hvf.1]; omega) rfl hel rfl

theorem op_fieldAddr_ptr {o : Oper} {K : V → Heap → Nat → Prop} (t : TypeId) (x : Operand) (f : Nat) (ho : o.op = .fieldAddr t x f) {ti tf : TI} {fs : List (TypeId × Nat × Nat)} (hti : tiOf P t = some ti) (hd : ti.d = .struct fs)
    {ft off sz : Nat} (hf : fs[f]? = some (ft, off, sz)) (htf : tiOf P ft = some tf) (hsz : 0 < tf.size) {n i j : Nat} (hx : evalV σ.t x = .ptr n i j) (hk : K (.ptr n i (j + off)) σ.H σ.k) : OpT fr P o σ K :=
  opT_pure hk fun F ι a w hh => by
    have he := hh.eval x
    rw [hx] at he
    generalize hcv : a.eval x = cv at he
    obtain ⟨gs, hr, hm⟩ := run_und_struct hti hd w
    obtain ⟨g, hg, h1, h2, h3⟩ := field_at hm hf
    cases he with
    | ptr hl hgh hmp hoff =>
      rename_i off' l
      refine ⟨.pointer (some ⟨l.b, off' + off, none⟩), ?_, .ptr hl hgh hmp (by omega)⟩
      unfold execOp; rw [ho]
      have : ¬ tf.size = 0 := by omega
      simp [hcv, Instr.fieldAt, hr, hg, Instr.sureAddr, fieldPlace, h1, run_sizeOf htf, this, h2, Addr.add_lit]

theorem op_fieldAddr_rp {o : Oper} {K : V → Heap → Nat → Prop} (t : TypeId) (x : Operand) (f : Nat) (ho : o.op = .fieldAddr t x f) {ti tf : TI} {fs : List (TypeId × Nat × Nat)} (hti : tiOf P t = some ti) (hd : ti.d = .struct fs)
    {ft off sz : Nat} (hf : fs[f]? = some (ft, off, sz)) (htf : tiOf P ft = some tf) (hsz : 0 < tf.size) {cs : List V} {j : Nat} (hx : evalV σ.t x = .rp cs j) (hk : K (.rp cs (j + off)) σ.H σ.k) : OpT fr P o σ K :=
  opT_pure hk fun F ι a w hh => by
    have he := hh.eval x
    rw [hx] at he
    generalize hcv : a.eval x = cv at he
    obtain ⟨gs, hr, hm⟩ := run_und_struct hti hd w
    obtain ⟨g, hg, h1, h2, h3⟩ := field_at hm hf
    cases he with
    | rp hb hO hw hs hin hvs hv hoff =>
      rename_i b off0 off' c e fr vs
      refine ⟨.pointer (some ⟨b, off' + off, none⟩), ?_, .rp hb hO hw hs hin hvs hv (by omega)⟩
      unfold execOp; rw [ho]
      have : ¬ tf.size = 0 := by omega
      simp [hcv, Instr.fieldAt, hr, hg, Instr.sureAddr, fieldPlace, h1, run_sizeOf htf, this, h2, Addr.add_lit]

/-! parts of values -/

theorem run_part {t : TypeId} {ti : TI} (hti : tiOf P t = some ti) {cs : List V} {vs : List Value} (hv : VRels ι O w cs vs) {off : Nat} (hin : off + ti.size ≤ cs.length) (w' : World) :
    ∃ x, (part t vs.toArray off).run P w' = .ok x w' ∧ VRel ι O w (partV ti.agg ti.size cs off) x := by
  unfold part partV
  by_cases hg : ti.agg = true
  · refine ⟨.agg ((vs.drop off).take ti.size).toArray, ?_, ?_⟩
    · simp [run_isAgg hti, run_sizeOf hti, hg, List.extract_eq_take_drop]
    · rw [if_pos hg]; exact .agg ((hv.drop off).take ti.size)
  · have h1 : 0 < ti.size := by
      have := zeroV_cells hti
      have h2 := (zero_oneCell hti).2
      unfold TI.zeroV at this
      rw [if_neg hg] at this
      rcases Nat.eq_zero_or_pos ti.size with h0 | h0
      · exfalso
        rw [h0] at h2
        rw [List.eq_nil_of_length_eq_zero h2] at this
        simp [V.cells] at this
      · exact h0
    rw [if_neg hg]
    obtain ⟨u, hu⟩ : ∃ u, cs[off]? = some u := ⟨_, List.getElem?_eq_getElem (by omega)⟩
    obtain ⟨x, hx, hvx⟩ := hv.get off u hu
    exact ⟨x, by simp [run_isAgg hti, hg, hx], by simpa [List.getD, hu] using hvx⟩

theorem op_field {o : Oper} {K : V → Heap → Nat → Prop} (t : TypeId) (x : Operand) (f : Nat) (ho : o.op = .field t x f) {ti tf : TI} {fs : List (TypeId × Nat × Nat)} (hti : tiOf P t = some ti) (hd : ti.d = .struct fs)
    {ft off sz : Nat} (hf : fs[f]? = some (ft, off, sz)) (htf : tiOf P ft = some tf) {cs : List V} (hx : evalV σ.t x = .agg cs) (hin : off + tf.size ≤ cs.length) (hk : K (partV tf.agg tf.size cs off) σ.H σ.k) : OpT fr P o σ K :=
  opT_pure hk fun F ι a w hh => by
    have he := hh.eval x
    rw [hx] at he
    generalize hcv : a.eval x = cv at he
    obtain ⟨gs, hr, hm⟩ := run_und_struct hti hd w
    obtain ⟨g, hg, h1, h2, h3⟩ := field_at hm hf
    cases he with
    | agg hv =>
      obtain ⟨y, hy, hvy⟩ := run_part htf hv hin w
      refine ⟨y, ?_, hvy⟩
      unfold execOp; rw [ho]
      simp [hcv, Instr.field, hr, hg, asAgg, h1, h2, hy]

theorem op_index_arr {o : Oper} {K : V → Heap → Nat → Prop} (t : TypeId) (x y : Operand) (ho : o.op = .index t x y) {ti te : TI} {len : Nat} {e : TypeId} (hti : tiOf P t = some ti) (hd : ti.d = .array len e) (hte : tiOf P e = some te)
    {cs : List V} {kd : IntKind} {m : Int} (hx : evalV σ.t x = .agg cs) (hy : evalV σ.t y = .val (.int kd m)) (h0 : 0 ≤ m) (h1 : m < len) (hin : m.toNat * te.size + te.size ≤ cs.length)
    (hk : K (partV te.agg te.size cs (m.toNat * te.size)) σ.H σ.k) : OpT fr P o σ K :=
  opT_pure hk fun F ι a w hh => by
    have he := hh.eval x
    have hi := (hh.eval y)
    rw [hx] at he; rw [hy] at hi
    have hi := hi.inv_val
    generalize hcv : a.eval x = cv at he
    cases he with
    | agg hv =>
      obtain ⟨y, hy, hvy⟩ := run_part hte hv hin w
      refine ⟨y, ?_, hvy⟩
      unfold execOp; rw [ho]
      simp [hcv, hi, Instr.index, asIntOf, run_und_array hti hd, h0, h1, run_sizeOf hte, hy]

theorem op_index_str {o : Oper} {K : V → Heap → Nat → Prop} (t : TypeId) (x y : Operand) (ho : o.op = .index t x y) {ti : TI} (hti : tiOf P t = some ti) (hd : ti.d = .string)
    {s : ByteArray} {kd : IntKind} {m : Int} (hx : evalV σ.t x = .val (.string s)) (hy : evalV σ.t y = .val (.int kd m)) (h0 : 0 ≤ m) (h1 : m < s.size)
    (hk : K (.val (.int .u8 ((s.data.toList.getD m.toNat 0).toNat : Int))) σ.H σ.k) : OpT fr P o σ K :=
  opT_pure hk fun F ι a w hh => by
    have he := (hh.eval x)
    have hi := (hh.eval y)
    rw [hx] at he; rw [hy] at hi
    have hi := hi.inv_val
    have he := he.inv_val
    refine ⟨_, ?_, .val _ rfl⟩
    have hlt : m.toNat < s.size := by omega
    have hs : s[m.toNat]? = some (s.data.toList.getD m.toNat 0) := by
      rw [getElem?_pos s m.toNat hlt]
      have : m.toNat < s.data.toList.length := by simpa using hlt
      simp [List.getD, List.getElem?_eq_getElem this]; rfl
    unfold execOp; rw [ho]
    simp [he, hi, Instr.index, asIntOf, run_und_string hti hd, h0, hs]

theorem op_extract {o : Oper} {K : V → Heap → Nat → Prop} (x : Operand) (i : Nat) (ho : o.op = .extract x i) {vs : List V} (hx : evalV σ.t x = .tup vs) (hi : i < vs.length) (hk : K (vs.getD i .any) σ.H σ.k) : OpT fr P o σ K :=
  opT_pure hk fun F ι a w hh => by
    have he := hh.eval x
    rw [hx] at he
    generalize hcv : a.eval x = cv at he
    cases he with
    | tup hv =>
      obtain ⟨u, hu⟩ : ∃ u, vs[i]? = some u := ⟨_, List.getElem?_eq_getElem hi⟩
      obtain ⟨y, hy, hvy⟩ := hv.get i u hu
      refine ⟨y, ?_, by simpa [List.getD, hu] using hvy⟩
      unfold execOp; rw [ho]
      simp [hcv, Instr.extract, hy]

/-! numbers -/

/-- what two numbers come to -/
def binI (op : BinOp) (k : IntKind) (x y : Int) : Option Value :=
  match op with
  | .add => some (.int k (k.wrap (x + y)))
  | .sub => some (.int k (k.wrap (x - y)))
  | .mul => some (.int k (k.wrap (x * y)))
  | .quo => if y = 0 then none else some (.int k (k.wrap (x.tdiv y)))
  | .rem => if y = 0 then none else some (.int k (x.tmod y))
  | .and => some (.int k (k.wrap (BitVec.ofInt k.bits x &&& BitVec.ofInt k.bits y).toNat))
  | .or => some (.int k (k.wrap (BitVec.ofInt k.bits x ||| BitVec.ofInt k.bits y).toNat))
  | .xor => some (.int k (k.wrap (BitVec.ofInt k.bits x ^^^ BitVec.ofInt k.bits y).toNat))
  | .andNot => some (.int k (k.wrap (BitVec.ofInt k.bits x &&& ~~~BitVec.ofInt k.bits y).toNat))
  | .eql => some (.bool (x == y))
  | .neq => some (.bool (x != y))
  | .lss => some (.bool (decide (x < y)))
  | .leq => some (.bool (decide (x ≤ y)))
  | .gtr => some (.bool (decide (x > y)))
  | .geq => some (.bool (decide (x ≥ y)))
  | _ => none

def shI (op : BinOp) (k : IntKind) (x y : Int) : Option Value :=
  if y < 0 then none else
  match op with
  | .shl => some (.int k (k.wrap (x * 2 ^ (min y.toNat k.bits))))
  | .shr => some (.int k (x.fdiv (2 ^ (min y.toNat k.bits))))
  | _ => none

theorem binI_oneCell {op : BinOp} {k : IntKind} {x y : Int} {v : Value} (h : binI op k x y = some v) : v.oneCell' = true := by
  unfold binI at h
  cases op <;> simp only [] at h <;> (first | (split at h <;> first | (cases h; done) | (cases h; rfl)) | (cases h; rfl) | cases h)

theorem shI_oneCell {op : BinOp} {k : IntKind} {x y : Int} {v : Value} (h : shI op k x y = some v) : v.oneCell' = true := by
  unfold shI at h
  split at h
  · cases h
  · cases op <;> simp only [] at h <;> first | (cases h; rfl) | cases h

theorem run_binI {op : BinOp} {k : IntKind} {x y : Int} {v : Value} (h : binI op k x y = some v) (t : TypeId) (p q : Operand) : ((do eqGuard op t p q (.int k x) (.int k y); binOp op t (.int k x) (.int k y)) : Sem Value).run P w = .ok v w := by
  unfold binI at h
  cases op <;> simp only [] at h <;>
    first
    | (cases h; done)
    | (cases h; simp [eqGuard, binOp, Op.intArith, Op.intBits, Op.intCmp]; done)
    | (split at h
       · cases h
       · cases h; rename_i hy; simp [eqGuard, binOp, Op.intDiv, hy])

theorem run_shI {op : BinOp} {k k' : IntKind} {x y : Int} {v : Value} (h : shI op k x y = some v) (t : TypeId) (p q : Operand) : ((do eqGuard op t p q (.int k x) (.int k' y); binOp op t (.int k x) (.int k' y)) : Sem Value).run P w = .ok v w := by
  unfold shI at h
  split at h
  · cases h
  · rename_i hy
    cases op <;> simp only [] at h <;>
      first
      | (cases h; done)
      | (cases h; simp [eqGuard, binOp, Op.shift, hy])

theorem op_binI {o : Oper} {K : V → Heap → Nat → Prop} (op : BinOp) (t u : TypeId) (x y : Operand) (ho : o.op = .binOp op t x y u) {k : IntKind} {m n : Int} (hx : evalV σ.t x = .val (.int k m)) (hy : evalV σ.t y = .val (.int k n)) {v : Value}
    (h : binI op k m n = some v) (hk : K (.val v) σ.H σ.k) : OpT fr P o σ K :=
  opT_pure hk fun F ι a w hh => by
    have he := hh.eval x
    have hi := hh.eval y
    rw [hx] at he; rw [hy] at hi
    have hi := hi.inv_val
    have he := he.inv_val
    refine ⟨v, ?_, .val v (binI_oneCell h)⟩
    have hr := run_binI (P := P) (w := w) h t x y
    unfold execOp; rw [ho]
    simp only [he, hi, Sem.run_bind, hr, Result.andThen_ok, Sem.run_pure]

theorem op_shI {o : Oper} {K : V → Heap → Nat → Prop} (op : BinOp) (t u : TypeId) (x y : Operand) (ho : o.op = .binOp op t x y u) {k k' : IntKind} {m n : Int} (hx : evalV σ.t x = .val (.int k m)) (hy : evalV σ.t y = .val (.int k' n)) {v : Value}
    (h : shI op k m n = some v) (hk : K (.val v) σ.H σ.k) : OpT fr P o σ K :=
  opT_pure hk fun F ι a w hh => by
    have he := hh.eval x
    have hi := hh.eval y
    rw [hx] at he; rw [hy] at hi
    have hi := hi.inv_val
    have he := he.inv_val
    refine ⟨v, ?_, .val v (shI_oneCell h)⟩
    have hr := run_shI (P := P) (w := w) (k' := k') h t x y
    unfold execOp; rw [ho]
    simp only [he, hi, Sem.run_bind, hr, Result.andThen_ok, Sem.run_pure]

/-- strings -/
def binS (op : BinOp) (x y : ByteArray) : Option Value :=
  match op with
  | .add => if ((x.size + y.size : Nat) : Int) > 9223372036854775807 then none else some (.string (x ++ y))
  | .eql => some (.bool (x.toList == y.toList))
  | .neq => some (.bool !(x.toList == y.toList))
  | .lss => some (.bool (Op.bytesLess x.toList y.toList))
  | .leq => some (.bool (Op.bytesLess x.toList y.toList || x.toList == y.toList))
  | .gtr => some (.bool !(Op.bytesLess x.toList y.toList || x.toList == y.toList))
  | .geq => some (.bool !(Op.bytesLess x.toList y.toList))
  | _ => none

theorem op_binS {o : Oper} {K : V → Heap → Nat → Prop} (op : BinOp) (t u : TypeId) (x y : Operand) (ho : o.op = .binOp op t x y u) {m n : ByteArray} (hx : evalV σ.t x = .val (.string m)) (hy : evalV σ.t y = .val (.string n)) {v : Value}
    (h : binS op m n = some v) (hk : K (.val v) σ.H σ.k) : OpT fr P o σ K :=
  opT_pure hk fun F ι a w hh => by
    have he := hh.eval x
    have hi := hh.eval y
    rw [hx] at he; rw [hy] at hi
    have hi := hi.inv_val
    have he := he.inv_val
    have h1 : v.oneCell' = true := by
      unfold binS at h
      cases op <;> simp only [] at h <;> first | (cases h; rfl) | (split at h <;> first | (cases h; done) | (cases h; rfl)) | cases h
    refine ⟨v, ?_, .val v h1⟩
    have hr : ((do eqGuard op t x y (.string m) (.string n); binOp op t (.string m) (.string n)) : Sem Value).run P w = .ok v w := by
      unfold binS at h
      cases op <;> simp only [] at h <;>
        first
        | (cases h; done)
        | (cases h; simp [eqGuard, binOp, Op.stringOp]; done)
        | (split at h
           · cases h
           · cases h
             rename_i hy
             simp [eqGuard, binOp, Op.stringOp, IntKind.max_i64]
             omega)
    unfold execOp; rw [ho]
    simp only [he, hi, Sem.run_bind, hr, Result.andThen_ok, Sem.run_pure]

theorem op_eqB {o : Oper} {K : V → Heap → Nat → Prop} (op : BinOp) (t u : TypeId) (x y : Operand) (ho : o.op = .binOp op t x y u) {ti : TI} (hti : tiOf P t = some ti) (hd : ti.d = .bool) {m n : Bool} (hx : evalV σ.t x = .val (.bool m)) (hy : evalV σ.t y = .val (.bool n))
    (h : op = .eql ∧ K (.val (.bool (m == n))) σ.H σ.k ∨ op = .neq ∧ K (.val (.bool (m != n))) σ.H σ.k) : OpT fr P o σ K := by
  rcases h with ⟨rfl, hk⟩ | ⟨rfl, hk⟩ <;>
  · refine opT_pure hk fun F ι a w hh => ?_
    have he := hh.eval x
    have hi := hh.eval y
    rw [hx] at he; rw [hy] at hi
    have hi := hi.inv_val
    have he := he.inv_val
    obtain ⟨d, hr, hu, h1⟩ := run_und hti w
    have hu' : P.underlying t = some .bool := by rw [hu, D.of_bool (h1.symm.trans hd)]
    have hq := run_equal_bool (P := P) w t m n hu'
    refine ⟨_, ?_, .val _ rfl⟩
    unfold execOp; rw [ho]
    simp only [he, hi, eqGuard_at_bool, binOp, Sem.run_bind, Sem.run_pure, Result.andThen_ok, hq]
    try rfl

theorem op_not {o : Oper} {K : V → Heap → Nat → Prop} (t : TypeId) (x : Operand) (ho : o.op = .unOp .not t x) {b : Bool} (hx : evalV σ.t x = .val (.bool b)) (hk : K (.val (.bool (!b))) σ.H σ.k) : OpT fr P o σ K :=
  opT_pure hk fun F ι a w hh => by
    have he := hh.eval x
    rw [hx] at he
    have he := he.inv_val
    refine ⟨_, ?_, .val _ rfl⟩
    unfold execOp; rw [ho]
    simp [he, Op.unary]

theorem op_neg {o : Oper} {K : V → Heap → Nat → Prop} (t : TypeId) (x : Operand) (ho : o.op = .unOp .neg t x) {k : IntKind} {n : Int} (hx : evalV σ.t x = .val (.int k n)) (hk : K (.val (.int k (k.wrap (0 - n)))) σ.H σ.k) : OpT fr P o σ K :=
  opT_pure hk fun F ι a w hh => by
    have he := hh.eval x
    rw [hx] at he
    have he := he.inv_val
    refine ⟨_, ?_, .val _ rfl⟩
    unfold execOp; rw [ho]
    simp [he, Op.unary, Op.intArith]

theorem op_com {o : Oper} {K : V → Heap → Nat → Prop} (t : TypeId) (x : Operand) (ho : o.op = .unOp .xor t x) {k : IntKind} {n : Int} (hx : evalV σ.t x = .val (.int k n))
    (hk : K (.val (.int k (k.wrap (BitVec.ofInt k.bits (if k.signed then -1 else k.max) ^^^ BitVec.ofInt k.bits n).toNat))) σ.H σ.k) : OpT fr P o σ K :=
  opT_pure hk fun F ι a w hh => by
    have he := hh.eval x
    rw [hx] at he
    have he := he.inv_val
    refine ⟨_, ?_, .val _ rfl⟩
    unfold execOp; rw [ho]
    simp [he, Op.unary, Op.intBits]

theorem op_convI {o : Oper} {K : V → Heap → Nat → Prop} (s t : TypeId) (x : Operand) (ho : o.op = .convert s t x) {ti tj : TI} (hti : tiOf P t = some ti) (htj : tiOf P s = some tj) {k k' : IntKind} (hd : ti.d = .int k) (hs : tj.d = .int k') {n : Int} (hx : evalV σ.t x = .val (.int k' n))
    (hk : K (.val (.int k (k.wrap n))) σ.H σ.k) : OpT fr P o σ K :=
  opT_pure hk fun F ι a w hh => by
    have he := hh.eval x
    rw [hx] at he
    have he := he.inv_val
    refine ⟨_, ?_, .val _ rfl⟩
    unfold execOp; rw [ho]
    simp [he, convert, run_und_int hti hd, run_und_int htj hs, Conv.intToInt]

end
end Go.Sl
