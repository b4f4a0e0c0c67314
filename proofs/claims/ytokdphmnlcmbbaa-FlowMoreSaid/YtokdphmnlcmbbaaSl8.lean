/- Slices cut and lengthened, lengths, the least of numbers. -/
import Derived.Test.YtokdphmnlcmbbaaSl7
set_option linter.unusedVariables false
set_option linter.unusedSimpArgs false
namespace Go.Sl

section
variable {fr : Nat → Prop} {F : Nat → Prop} {ι ι' : Names} {O : Nat → Prop} {H : Heap} {σ σ' : St} {a a' : Act} {w w' : World} {P : Program} {T : Tab}

/-! ## lengths -/

def lenV : V → Option Nat
  | .val (.string s) => some s.size
  | .val (.slice none 0 0) => some 0
  | .sl _ _ len => some len
  | .sub _ _ _ len => some len
  | .ro _ es => some es.length
  | _ => none

def lenD : D → V → Bool
  | .string, .val (.string _) => true
  | .slice _, .val (.slice ..) | .slice _, .sl .. | .slice _, .sub .. | .slice _, .ro .. => true
  | _, _ => false

theorem op_len {o : Oper} {K : V → Heap → Nat → Prop} (x : Operand) (t : TypeId) (ho : o.op = .call ⟨.builtin .len, #[x], #[t]⟩) {ti : TI} (hti : tiOf P t = some ti) (hd : lenD ti.d (evalV σ.t x) = true) {n : Nat} (hn : lenV (evalV σ.t x) = some n)
    (hk : K (.val (.int .i64 n)) σ.H σ.k) : OpT fr P o σ K :=
  opT_pure hk fun F ι a w hh => by
    have he := hh.eval x
    obtain ⟨d, hr, hu, h1⟩ := run_und hti w
    refine ⟨.int .i64 n, ?_, .val _ rfl⟩
    have key : (Builtin.len_ #[t] o.type #[a.eval x]).run P w = .ok (.int .i64 n) w := by
      generalize a.eval x = cv at he
      generalize evalV σ.t x = v at hd hn he
      rw [h1] at hd
      cases d with
      | string =>
        cases v with
        | val u =>
          have := he.inv_val; subst this
          cases cv <;> simp_all [lenD, lenV, D.of]
          simp [Builtin.len_, hr, goInt, hn]
        | _ => simp [lenD, D.of] at hd
      | slice e =>
        cases he with
        | val u h =>
          cases cv with
          | slice a l c =>
            cases a with
            | none => cases l <;> cases c <;> simp_all [lenV]; subst hn; simp [Builtin.len_, hr, goInt]
            | some a => simp [lenV] at hn
          | _ => simp_all [lenD, D.of]
        | sl _ _ _ _ _ _ _ _ => simp [lenV] at hn; subst hn; simp [Builtin.len_, hr, goInt]
        | sl0 _ => simp [lenV] at hn; subst hn; simp [Builtin.len_, hr, goInt]
        | sub _ _ _ _ _ _ _ => simp [lenV] at hn; subst hn; simp [Builtin.len_, hr, goInt]
        | ro0 => simp [lenV] at hn; subst hn; simp [Builtin.len_, hr, goInt]
        | ro _ _ _ _ hlen _ _ _ _ => simp [lenV] at hn; subst hn; subst hlen; simp [Builtin.len_, hr, goInt]
        | _ => simp [lenD, D.of] at hd
      | _ => simp [lenD, D.of] at hd
    unfold execOp; rw [ho]
    simp [resolve, invoke, builtin, key]

theorem op_min {o : Oper} {K : V → Heap → Nat → Prop} (x y : Operand) (ts : Array TypeId) (ho : o.op = .call ⟨.builtin .min, #[x, y], ts⟩) {k k' : IntKind} {m n : Int} (hx : evalV σ.t x = .val (.int k m)) (hy : evalV σ.t y = .val (.int k' n))
    (hk : K (.val (.int k (if n < m then n else m))) σ.H σ.k) : OpT fr P o σ K :=
  opT_pure hk fun F ι a w hh => by
    have he := hh.eval x
    have hi := hh.eval y
    rw [hx] at he; rw [hy] at hi
    refine ⟨_, ?_, .val _ rfl⟩
    unfold execOp; rw [ho]
    simp [resolve, invoke, builtin, he.inv_val, hi.inv_val, Builtin.min_, Builtin.min2]

theorem op_max {o : Oper} {K : V → Heap → Nat → Prop} (x y : Operand) (ts : Array TypeId) (ho : o.op = .call ⟨.builtin .max, #[x, y], ts⟩) {k k' : IntKind} {m n : Int} (hx : evalV σ.t x = .val (.int k m)) (hy : evalV σ.t y = .val (.int k' n))
    (hk : K (.val (.int k (if n > m then n else m))) σ.H σ.k) : OpT fr P o σ K :=
  opT_pure hk fun F ι a w hh => by
    have he := hh.eval x
    have hi := hh.eval y
    rw [hx] at he; rw [hy] at hi
    refine ⟨_, ?_, .val _ rfl⟩
    unfold execOp; rw [ho]
    simp [resolve, invoke, builtin, he.inv_val, hi.inv_val, Builtin.max_, Builtin.max2]

/-! ## a slice cut -/

/-- a bound that is given, or the one that is meant -/
def boundV (t : List (Nat × V)) (d : Nat) : Option Operand → Option Int
  | none => some d
  | some x => match evalV t x with | .val (.int _ n) => some n | _ => none

theorem run_sliceBounds (b : Bool) (len cap : Nat) (lo hi : Option Value) (l h : Int) (hlo : lo = none ∧ l = 0 ∨ ∃ k, lo = some (.int k l)) (hhi : hi = none ∧ h = len ∨ ∃ k, hi = some (.int k h)) (h0 : 0 ≤ l) (h1 : l ≤ h) (h2 : h ≤ len) (hc : len ≤ cap) (w : World) :
    (Instr.sliceBounds b len cap lo hi none).run P w = .ok (l.toNat, h.toNat, cap) w := by
  have hh0 : 0 ≤ h := by omega
  have hhc : h ≤ cap := by omega
  rcases hhi with ⟨rfl, rfl⟩ | ⟨k, rfl⟩ <;> rcases hlo with ⟨rfl, rfl⟩ | ⟨k', rfl⟩ <;> simp [Instr.sliceBounds, Instr.sliceBound, asIntOf, h0, hh0, hhc, h1]
  · omega

theorem bound_eval (hh : Holds fr F ι σ a w) (d : Nat) (x : Option Operand) (n : Int) (h : boundV σ.t d x = some n) : (x.map a.eval = none ∧ n = d) ∨ ∃ k, x.map a.eval = some (.int k n) := by
  cases x with
  | none => simp [boundV] at h; exact .inl ⟨rfl, h.symm⟩
  | some x =>
    have he := hh.eval x
    simp only [boundV] at h
    split at h
    · rename_i k m hv
      rw [hv] at he
      cases h
      exact .inr ⟨k, by simp [he.inv_val]⟩
    · cases h

theorem op_slice_str {o : Oper} {K : V → Heap → Nat → Prop} (t : TypeId) (x : Operand) (lo hi : Option Operand) (ho : o.op = .slice t x lo hi none) {ti : TI} (hti : tiOf P t = some ti) (hd : ti.d = .string) {s : ByteArray} (hx : evalV σ.t x = .val (.string s))
    {l h : Int} (hl : boundV σ.t 0 lo = some l) (hh' : boundV σ.t s.size hi = some h) (h0 : 0 ≤ l) (h1 : l ≤ h) (h2 : h ≤ s.size) (hk : K (.val (.string (s.extract l.toNat h.toNat))) σ.H σ.k) : OpT fr P o σ K :=
  opT_pure hk fun F ι a w hh => by
    have he := hh.eval x
    rw [hx] at he
    have hb := run_sliceBounds (P := P) false s.size s.size (lo.map a.eval) (hi.map a.eval) l h (by simpa using bound_eval hh 0 lo l hl) (bound_eval hh _ hi h hh') h0 h1 h2 (Nat.le_refl _) w
    refine ⟨_, ?_, .val _ rfl⟩
    unfold execOp; rw [ho]
    simp [he.inv_val, Instr.sliceAt, Instr.slice, run_und_string hti hd, hb]

theorem op_slice_nil {o : Oper} {K : V → Heap → Nat → Prop} (t : TypeId) (x : Operand) (lo hi : Option Operand) (ho : o.op = .slice t x lo hi none) {ti te : TI} (hti : tiOf P t = some ti) {e : TypeId} (hd : ti.d = .slice e) (hte : tiOf P e = some te) (hx : evalV σ.t x = .val (.slice none 0 0))
    {l h : Int} (hl : boundV σ.t 0 lo = some l) (hh' : boundV σ.t 0 hi = some h) (h0 : l = 0) (h1 : h = 0) (hk : K (.val (.slice none 0 0)) σ.H σ.k) : OpT fr P o σ K :=
  opT_pure hk fun F ι a w hh => by
    have he := hh.eval x
    rw [hx] at he
    subst h0 h1
    have hb := run_sliceBounds (P := P) true 0 0 (lo.map a.eval) (hi.map a.eval) 0 0 (by simpa using bound_eval hh 0 lo 0 hl) (bound_eval hh _ hi 0 hh') (by omega) (by omega) (by omega) (Nat.le_refl _) w
    refine ⟨.slice none 0 0, ?_, .val _ rfl⟩
    unfold execOp; rw [ho]
    simp [he.inv_val, Instr.sliceAt, Instr.slice, run_und_slice hti hd, hb, run_sizeOf hte]

theorem op_slice_sl {o : Oper} {K : V → Heap → Nat → Prop} (t : TypeId) (x : Operand) (lo hi : Option Operand) (ho : o.op = .slice t x lo hi none) {ti te : TI} (hti : tiOf P t = some ti) {e : TypeId} (hd : ti.d = .slice e) (hte : tiOf P e = some te)
    {n i len : Nat} {es : List V} (hx : evalV σ.t x = .sl n i len) (hn : look n σ.H = some (.rows te.size es))
    {l h : Int} (hl : boundV σ.t 0 lo = some l) (hh' : boundV σ.t len hi = some h) (h0 : 0 ≤ l) (h1 : l ≤ h) (h2 : h ≤ len) (hk : K (.sl n (i + l.toNat) (h.toNat - l.toNat)) σ.H σ.k) : OpT fr P o σ K :=
  opT_pure hk fun F ι a w hh => by
    have he := hh.eval x
    rw [hx] at he
    generalize hcv : a.eval x = cv at he
    cases he with
    | sl hl' hg hm hoff hc0 hlc hcm hs =>
      rename_i off cap L
      obtain ⟨e1, _⟩ := hh.rep.block hn hl' hg
      have hb := run_sliceBounds (P := P) true len cap (lo.map a.eval) (hi.map a.eval) l h (by simpa using bound_eval hh 0 lo l hl) (bound_eval hh _ hi h hh') h0 h1 h2 hlc w
      by_cases hcl : cap = l.toNat
      · subst hcl
        refine ⟨.slice (some ⟨L.b, off, none⟩) (h.toNat - l.toNat) (l.toNat - l.toNat), ?_, ?_⟩
        · unfold execOp; rw [ho]
          simp [hcv, Instr.sliceAt, Instr.slice, run_und_slice hti hd, hb, run_sizeOf hte]
        · rw [show h.toNat - l.toNat = 0 by omega, show l.toNat - l.toNat = 0 by omega]
          exact .sl0 hl'
      · refine ⟨.slice (some ⟨L.b, off + l.toNat * te.size, none⟩) (h.toNat - l.toNat) (cap - l.toNat), ?_, ?_⟩
        · unfold execOp; rw [ho]
          simp [hcv, Instr.sliceAt, Instr.slice, run_und_slice hti hd, hb, run_sizeOf hte, hcl, Addr.add_lit]
        · refine .sl hl' hg hm (by rw [hoff, e1, Nat.add_mul]; omega) (by omega) (by omega) (by omega) ?_
          have : (cap - l.toNat) * L.sz + l.toNat * te.size = cap * L.sz := by rw [e1, ← Nat.add_mul]; congr 1; omega
          omega
    | sl0 hl' =>
      rename_i L a0
      have hl0 : l = 0 := by omega
      have hh0 : h = 0 := by omega
      subst hl0 hh0
      have hb := run_sliceBounds (P := P) true 0 0 (lo.map a.eval) (hi.map a.eval) 0 0 (by simpa using bound_eval hh 0 lo 0 hl) (bound_eval hh _ hi 0 hh') (by omega) (by omega) (by omega) (Nat.le_refl _) w
      refine ⟨.slice a0 0 0, ?_, .sl0 hl'⟩
      unfold execOp; rw [ho]
      simp [hcv, Instr.sliceAt, Instr.slice, run_und_slice hti hd, hb, run_sizeOf hte]

theorem op_slice_ro {o : Oper} {K : V → Heap → Nat → Prop} (t : TypeId) (x : Operand) (lo hi : Option Operand) (ho : o.op = .slice t x lo hi none) {ti te : TI} (hti : tiOf P t = some ti) {e : TypeId} (hd : ti.d = .slice e) (hte : tiOf P e = some te)
    {es : List V} (hx : evalV σ.t x = .ro te.size es)
    {l h : Int} (hl : boundV σ.t 0 lo = some l) (hh' : boundV σ.t es.length hi = some h) (h0 : 0 ≤ l) (h1 : l ≤ h) (h2 : h ≤ es.length) (hk : K (.ro te.size ((es.drop l.toNat).take (h.toNat - l.toNat))) σ.H σ.k) : OpT fr P o σ K :=
  opT_pure hk fun F ι a w hh => by
    have he := hh.eval x
    rw [hx] at he
    generalize hcv : a.eval x = cv at he
    cases he with
    | ro0 =>
      rename_i cap a0
      have hl0 : l = 0 := by simp at h2; omega
      have hh0 : h = 0 := by simp at h2; omega
      subst hl0 hh0
      have hb := run_sliceBounds (P := P) true 0 cap (lo.map a.eval) (hi.map a.eval) 0 0 (by simpa using bound_eval hh 0 lo 0 hl) (bound_eval hh _ hi 0 hh') (by omega) (by omega) (by omega) (Nat.zero_le _) w
      refine ⟨.slice a0 0 cap, ?_, by simpa using VRel.ro0⟩
      unfold execOp; rw [ho]
      by_cases hc0 : cap = 0
      · subst hc0; simp [hcv, Instr.sliceAt, Instr.slice, run_und_slice hti hd, hb, run_sizeOf hte]
      · cases a0 <;> simp [hcv, Instr.sliceAt, Instr.slice, run_und_slice hti hd, hb, run_sizeOf hte, hc0, Addr.add_zero']
    | ro hb hO hw hsz hlen hlc hin hvs hv =>
      rename_i b off len cap c et fr vs
      subst hvs hlen
      have hbd := run_sliceBounds (P := P) true es.length cap (lo.map a.eval) (hi.map a.eval) l h (by simpa using bound_eval hh 0 lo l hl) (bound_eval hh _ hi h hh') h0 h1 h2 hlc w
      by_cases hcl : cap = l.toNat
      · subst hcl
        refine ⟨.slice (some ⟨b, off, none⟩) (h.toNat - l.toNat) (l.toNat - l.toNat), ?_, ?_⟩
        · unfold execOp; rw [ho]
          simp [hcv, Instr.sliceAt, Instr.slice, run_und_slice hti hd, hbd, run_sizeOf hte]
        · rw [show h.toNat - l.toNat = 0 by omega]
          exact .ro0
      · refine ⟨.slice (some ⟨b, off + l.toNat * te.size, none⟩) (h.toNat - l.toNat) (cap - l.toNat), ?_, ?_⟩
        · unfold execOp; rw [ho]
          simp [hcv, Instr.sliceAt, Instr.slice, run_und_slice hti hd, hbd, run_sizeOf hte, hcl, Addr.add_lit]
        · have hcl : ∀ v ∈ es, v.cells.length = te.size := fun v hv => (fits_iff.1 (hsz v hv)).1
          have hlen' : ((es.drop l.toNat).take (h.toNat - l.toNat)).length = h.toNat - l.toNat := by simp; omega
          have hmul : l.toNat * te.size + (h.toNat - l.toNat) * te.size ≤ es.length * te.size := by rw [← Nat.add_mul]; exact Nat.mul_le_mul_right _ (by omega)
          have hv' := (hv.drop (l.toNat * te.size)).take ((h.toNat - l.toNat) * te.size)
          rw [flatMap_drop hcl, flatMap_take (fun v hv => hcl v (List.mem_of_mem_drop hv))] at hv'
          have hlist : (((c.toList.drop off).take (es.length * te.size)).drop (l.toNat * te.size)).take ((h.toNat - l.toNat) * te.size) = (c.toList.drop (off + l.toNat * te.size)).take ((h.toNat - l.toNat) * te.size) := by
            apply List.ext_getElem?
            intro q
            simp only [List.getElem?_take, List.getElem?_drop]
            by_cases hq : q < (h.toNat - l.toNat) * te.size
            · simp only [hq, if_true, show l.toNat * te.size + q < es.length * te.size by omega]
              congr 1; omega
            · simp [hq]
          rw [hlist] at hv'
          exact .ro hb hO hw (fun v hv => hsz v (List.mem_of_mem_drop (List.mem_of_mem_take hv))) hlen'.symm (by omega) (by rw [hlen']; omega) (by rw [hlen']) hv'

/-! ## append -/

/-- what a slice holds: elements of sz cells -/
def newsV (H : Heap) (sz : Nat) : V → Option (List V)
  | .val (.slice none 0 0) => some []
  | .ro sz' es => if sz' = sz then some es else none
  | .sl n i len => match look n H with
    | some (.rows sz' es) => if sz' = sz then (if i + len ≤ es.length then some ((es.drop i).take len) else none) else none
    | _ => none
  | _ => none

/-- its cells, as they lie in the world -/
theorem news_cells (hh : Holds fr F ι σ a w) {sz : Nat} {x : V} {cv : Value} {es : List V} (h : newsV σ.H sz x = some es) (hx : VRel ι (Own F ι σ.H) w x cv) :
    (∀ v ∈ es, v.fits sz = true) ∧ ((∃ cap, cv = .slice none 0 cap ∧ es = []) ∨ ∃ ad cap, cv = .slice (some ad) es.length cap ∧ ∃ vs : List Value, vs.length = es.length * sz ∧ VRels ι (Own F ι σ.H) w (es.flatMap V.cells) vs ∧ ∀ j u, vs[j]? = some u → w.cell? (ad.add j) = some u) := by
  cases hx with
  | val v hv =>
    cases cv with
    | slice a l c =>
      cases a with
      | none => cases l <;> cases c <;> simp_all [newsV]
      | some a => simp [newsV] at h
    | _ => simp [newsV] at h
  | ro0 =>
    rename_i sz' cap a0
    simp only [newsV] at h
    split at h
    · cases h
      refine ⟨by simp, ?_⟩
      cases a0 with
      | none => exact .inl ⟨_, rfl, rfl⟩
      | some a0 => exact .inr ⟨a0, cap, rfl, [], by simp, .nil, by simp⟩
    · cases h
  | ro hb hO hw hsz hlen hlc hin hvs hv =>
    rename_i sz' b off len cap es' c et fr vs
    simp only [newsV] at h
    split at h
    · subst_vars
      cases h
      exact ⟨hsz, .inr ⟨_, cap, rfl, _, by simp; omega, hv, cells_at hw⟩⟩
    · cases h
  | sl hl hg hm hoff hc0 hlc hcm hs =>
    rename_i n i len off cap l
    simp only [newsV] at h
    split at h
    · rename_i sz' es' hn
      split at h
      · rename_i hsz; have hsz := hsz.symm; subst hsz
        split at h
        · rename_i hle
          cases h
          obtain ⟨e1, e2, e3, e4, e5, c, e, hw, hc, hlen, hv⟩ := hh.rep.block hn hl hg
          have hcl : ∀ v ∈ es', v.cells.length = sz := fun v hv => (fits_iff.1 (e3 v hv)).1
          refine ⟨fun v hv => e3 v (List.mem_of_mem_drop (List.mem_of_mem_take hv)), .inr ⟨_, cap, by rw [List.length_take, List.length_drop, show min len (es'.length - i) = len by omega, hoff], (c.toList.drop (l.o + i * l.sz)).take (len * sz), ?_, ?_, cells_at hw⟩⟩
          · have : (i + len) * sz ≤ es'.length * sz := Nat.mul_le_mul_right _ hle
            rw [Nat.add_mul] at this
            simp only [List.length_take, List.length_drop, Array.length_toList, e1]
            rw [show min len (es'.length - i) = len by omega]; omega
          · have hv' := (hv.drop (i * sz)).take (len * sz)
            rw [flatMap_drop hcl, flatMap_take (fun v hv => hcl v (List.mem_of_mem_drop hv))] at hv'
            have : (i + len) * sz ≤ es'.length * sz := Nat.mul_le_mul_right _ hle
            rw [Nat.add_mul] at this
            have hlist : (((c.toList.drop l.o).take (es'.length * sz)).drop (i * sz)).take (len * sz) = (c.toList.drop (l.o + i * l.sz)).take (len * sz) := by
              apply List.ext_getElem?
              intro q
              simp only [List.getElem?_take, List.getElem?_drop]
              by_cases hq : q < len * sz
              · simp only [hq, if_true, show i * sz + q < es'.length * sz by omega]
                congr 1; rw [e1]; omega
              · simp [hq]
            rw [hlist] at hv'; exact hv'
        · cases h
      · cases h
    · cases h
  | sl0 hl =>
    rename_i n i l a0
    simp only [newsV] at h
    split at h
    · split at h
      · split at h
        · cases h
          refine ⟨by simp, ?_⟩
          cases a0 with
          | none => exact .inl ⟨0, rfl, by simp⟩
          | some a0 => exact .inr ⟨a0, 0, by simp, [], by simp, by simpa using VRels.nil, by simp⟩
        · cases h
      · cases h
    · cases h
  | _ => simp [newsV] at h

end
end Go.Sl
