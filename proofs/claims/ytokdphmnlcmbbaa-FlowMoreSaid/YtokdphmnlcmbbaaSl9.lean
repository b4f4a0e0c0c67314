/- append: the row moves to a name of its own, whatever room there was. -/
import Derived.Test.YtokdphmnlcmbbaaSl8
set_option linter.unusedVariables false
set_option linter.unusedSimpArgs false
namespace Go.Sl

section
variable {fr : Nat → Prop} {F : Nat → Prop} {ι ι' : Names} {O : Nat → Prop} {H : Heap} {σ σ' : St} {a a' : Act} {w w' : World} {P : Program} {T : Tab}

theorem underlying_slice {t : TypeId} {ti : TI} (h : tiOf P t = some ti) {e : TypeId} (hd : ti.d = .slice e) : P.underlying t = some (.slice e) := by
  obtain ⟨d, _, hu, h1⟩ := run_und h (default : World)
  rw [hu, D.of_slice (h1.symm.trans hd)]

theorem splice_tail {α : Type} (cs vs : List α) (off m : Nat) (h : off + m + vs.length ≤ cs.length) : ((splice cs (off + m) vs).drop off).take (m + vs.length) = (cs.drop off).take m ++ vs := by
  apply List.ext_getElem?
  intro q
  have hl : ((cs.drop off).take m).length = m := by rw [List.length_take, List.length_drop]; omega
  simp only [List.getElem?_take, List.getElem?_drop]
  rw [getElem?_splice cs vs (off + m) (off + q) (by omega)]
  by_cases h1 : q < m
  · rw [List.getElem?_append_left (by omega), if_pos (by omega), if_neg (by omega), List.getElem?_take, if_pos h1, List.getElem?_drop]
  · rw [List.getElem?_append_right (by omega), hl]
    by_cases h2 : q < m + vs.length
    · rw [if_pos h2, if_pos (by omega)]; congr 1; omega
    · rw [if_neg h2, List.getElem?_eq_none (by omega)]

theorem run_append_fits {t u ty e : TypeId} {ti tu te : TI} (hti : tiOf P t = some ti) (hd : ti.d = .slice e) (htu : tiOf P u = some tu) {e' : TypeId} (hdu : tu.d = .slice e') (hte : tiOf P e = some te)
    (base : Option Addr) (sLen sCap n : Nat) (x : Value) (hx : ∀ w, (Builtin.lenOf x).run P w = .ok n w) (vs : List Value) (hvs : (Builtin.firstCells te.size n x).run P w = .ok vs.toArray w) (hfit : sLen + n ≤ sCap)
    (w1 : World) (hst : (match base with | some a => (storeCells (a.add (sLen * te.size)) vs).run P w | none => .ok () w) = .ok () w1) :
    (Builtin.append_ #[t, u] ty #[.slice base sLen sCap, x]).run P w = .ok (.slice base (sLen + n) sCap) w1 := by
  obtain ⟨i, z, hri, hi, h1, h2, hz, hzc⟩ := run_typeInfo hte w
  cases base with
  | none =>
    simp only [] at hst
    cases hst
    simp [Builtin.append_, run_und_slice hti hd, run_und_slice htu hdu, run_sizeOf hte, hx, hvs, hfit]
  | some a =>
    simp only [] at hst
    simp [Builtin.append_, run_und_slice hti hd, run_und_slice htu hdu, run_sizeOf hte, hx, hvs, hfit, hst]

theorem run_append_grows {t u ty e : TypeId} {ti tu te : TI} (hti : tiOf P t = some ti) (hd : ti.d = .slice e) (htu : tiOf P u = some tu) {e' : TypeId} (hdu : tu.d = .slice e') (hte : tiOf P e = some te)
    (base : Option Addr) (sLen sCap n : Nat) (x : Value) (hx : ∀ w, (Builtin.lenOf x).run P w = .ok n w) (vs us : List Value) (hvs : (Builtin.firstCells te.size n x).run P w.drew = .ok vs.toArray w.drew)
    (hus : (Builtin.firstCells te.size sLen (.slice base sLen sCap)).run P w.drew = .ok us.toArray w.drew) (hg : sCap < sLen + n) (hb : (sLen + n) * te.bytes ≤ 140737488355328) (hb0 : 0 < te.bytes) :
    ∃ zs : Array Value, (Builtin.append_ #[t, u] ty #[.slice base sLen sCap, x]).run P w =
      .ok (.slice (some ⟨w.heap.size, 0, none⟩) (sLen + n) (grownCap w (sLen + n) sCap e)) (w.drew.alloc (.cells (us.toArray ++ vs.toArray ++ zs) e)) ∧ zs.size = (grownCap w (sLen + n) sCap e - (sLen + n)) * te.size := by
  obtain ⟨i, z, hri, hi, h1, h2, hz, hzc⟩ := run_typeInfo hte w
  have hfit := growslice_fits hg hb
  have hn : ¬ (sLen + n ≤ sCap) := by omega
  have hle : sLen + n ≤ (sLen + n) * te.bytes := Nat.le_mul_of_pos_right _ hb0
  have h63' : ¬ (9223372036854775807 < ((sLen : Int) + (n : Int))) := by omega
  have h48' : ¬ (281474976710656 < Builtin.nextslicecap (sLen + n) sCap * te.bytes) := by omega
  have hzs : z.cells.size = te.size := by
    have := (zero_oneCell hte).2
    rw [← hzc] at this; simpa using this
  refine ⟨Builtin.zeroCells z.cells (grownCap w (sLen + n) sCap e - (sLen + n)), ?_, by rw [size_zeroCells, hzs]⟩
  have hinfo : ∀ w, (typeInfo e).run P w = .ok i w := fun w => by simp [typeInfo, hi]
  have hzv : ∀ w, (zeroValue e).run P w = .ok z w := fun w => by simp [zeroValue, typeInfo, hi, hz]
  simp [Builtin.append_, run_und_slice hti hd, run_und_slice htu hdu, run_sizeOf hte, hx, hn, h63', h48', hinfo, h2, Question.forced, hvs, hus, hzv, newRow, grownCap]
  congr 2
  apply Array.ext'
  simp

theorem newsV_run (hh : Holds fr F ι σ a w) {sz : Nat} {x : V} {cv : Value} {es : List V} (h : newsV σ.H sz x = some es) (hx : VRel ι (Own F ι σ.H) w x cv) :
    ∃ vs : List Value, VRels ι (Own F ι σ.H) w (es.flatMap V.cells) vs ∧ vs.length = es.length * sz ∧ (∀ w, (Builtin.lenOf cv).run P w = .ok es.length w) ∧
      (Builtin.firstCells sz es.length cv).run P w = .ok vs.toArray w ∧ (Builtin.firstCells sz es.length cv).run P w.drew = .ok vs.toArray w.drew := by
  obtain ⟨_, h'⟩ := news_cells hh h hx
  rcases h' with ⟨cap, rfl, rfl⟩ | ⟨ad, cap, rfl, vs, hl, hv, hc⟩
  · exact ⟨[], .nil, by simp, fun w => by simp [Builtin.lenOf], by simp [Builtin.firstCells], by simp [Builtin.firstCells]⟩
  · exact ⟨vs, hv, hl, fun w => by simp [Builtin.lenOf], run_firstCells_some w sz es.length ad es.length cap vs hl hc, run_firstCells_some w.drew sz es.length ad es.length cap vs hl (by simpa using hc)⟩

/-- the new row, where there was no room -/
theorem out_append_new {k : Nat} (hk : ι k = none) (hfk : fr k) (hfr : ∀ n, fr n → k + 1 ≤ n → ι n = none) (R : Rep F ι H w) (e : TypeId) (sz : Nat) (es : List V) (hfit : ∀ v ∈ es, v.fits sz = true) (vs : List Value) (zs : Array Value) (hl : vs.length = es.length * sz)
    (hv : VRels ι (Own F ι H) w (es.flatMap V.cells) vs) (cap : Nat) (h0 : 0 < cap) (hlc : es.length ≤ cap) (hcm : cap ≤ maxLen) (hzs : zs.size = (cap - es.length) * sz) :
    Out fr F ι H k w (upd ι k ⟨w.heap.size, 0, sz, (vs.toArray ++ zs).size, false, false⟩) (.sl k 0 es.length) (.slice (some ⟨w.heap.size, 0, none⟩) es.length cap) ((k, .rows sz es) :: H) (k + 1) (w.drew.alloc (.cells (vs.toArray ++ zs) e)) := by
  have hhp : ∀ i, i < w.heap.size → (w.drew.alloc (.cells (vs.toArray ++ zs) e)).heap[i]? = w.heap[i]? := fun i hi => heap_alloc_old w.drew _ i hi
  have hsz : (w.drew.alloc (.cells (vs.toArray ++ zs) e)).heap.size = w.heap.size + 1 := by simp
  refine ⟨⟨kept_alloc R hk _ _ rfl rfl rfl rfl (by omega) hhp, Nat.le_succ _, fun n hn => upd_other _ _ _ _ (fun e => by subst e; have := hn hfk; omega), ?_⟩, ?_, ?_, ?_⟩
  · intro n hn
    simp only [List.map_cons, List.mem_cons] at hn
    rcases hn with hn | hn
    · subst hn; exact .inr ⟨hfk, by omega⟩
    · exact .inl hn
  · refine R.alloc hk _ _ rfl rfl rfl rfl (by omega) hhp fun ι' O' S => ⟨rfl, rfl, hfit, .inr ⟨rfl, _, e, heap_alloc_new w.drew _, rfl, ?_, ?_⟩⟩
    · simp only [Nat.zero_add, Array.size_append, List.size_toArray, hl]; omega
    · have : (((vs.toArray ++ zs).toList.drop 0).take (es.length * sz)) = vs := by
        simp only [Array.toList_append, List.drop_zero]
        rw [← hl]; exact List.take_left
      rw [this]; exact hv.stays S
  · intro n hf hn
    rw [upd_other _ _ _ _ (by omega)]
    exact hfr n hf hn
  · refine .sl (upd_same _ _ _) rfl rfl (by simp) h0 hlc hcm ?_
    simp only [Nat.zero_add, Array.size_append, List.size_toArray, hl, hzs, ← Nat.add_mul]
    exact Nat.mul_le_mul_right _ (by omega)

theorem op_append (hfk : fr σ.k) {o : Oper} {K : V → Heap → Nat → Prop} (s x : Operand) (t u : TypeId) (ho : o.op = .call ⟨.builtin .append, #[s, x], #[t, u]⟩) {ti tu te : TI} (hti : tiOf P t = some ti) {e e' : TypeId} (hd : ti.d = .slice e) (htu : tiOf P u = some tu) (hdu : tu.d = .slice e')
    (hte : tiOf P e = some te) (hsz : 0 < te.size) (hb0 : 0 < te.bytes) {olds news : List V} {H0 : Heap}
    (hs : evalV σ.t s = .val (.slice none 0 0) ∧ olds = [] ∧ H0 = σ.H ∨ ∃ n i len es, evalV σ.t s = .sl n i len ∧ look n σ.H = some (.rows te.size es) ∧ i + len ≤ es.length ∧ olds = (es.drop i).take len ∧ H0 = del n σ.H)
    (hx : newsV σ.H te.size (evalV σ.t x) = some news) (hb : (olds.length + news.length) * te.bytes ≤ 140737488355328)
    (hk : K (.sl σ.k 0 (olds.length + news.length)) ((σ.k, .rows te.size (olds ++ news)) :: H0) (σ.k + 1)) : OpT fr P o σ K :=
  opT_run fun F ι a w hh => by
    have hle : olds.length + news.length ≤ (olds.length + news.length) * te.bytes := Nat.le_mul_of_pos_right _ hb0
    have hml : olds.length + news.length ≤ maxLen := by simp only [maxLen]; omega
    have hev := hh.eval x
    obtain ⟨hnf, _⟩ := news_cells hh hx hev
    obtain ⟨vs, hvs, hvl, hlen, hfc, hfc'⟩ := newsV_run (P := P) hh hx hev
    have hk0 := hh.fresh σ.k hfk (Nat.le_refl _)
    have hfr : ∀ n, fr n → σ.k + 1 ≤ n → ι n = none := fun n hf hn => hh.fresh n hf (by omega)
    have hexec : ∀ y W, (Builtin.append_ #[t, u] o.type #[a.eval s, a.eval x]).run P w = .ok y W → (execOp a.eval o).run P w = .ok (.value y) W := by
      intro y W h
      unfold execOp; rw [ho]
      simp [resolve, invoke, builtin, h]
    -- nothing there, and nothing comes
    have empty : ∀ (n : Option Nat) (base : Option Addr), a.eval s = .slice base 0 0 → H0 = (match n with | some n => del n σ.H | none => σ.H) → olds = [] → news = [] →
        ∃ ι' v cv H' k' w', (execOp a.eval o).run P w = .ok (.value cv) w' ∧ K v H' k' ∧ Out fr F ι σ.H σ.k w ι' v cv H' k' w' := by
      intro n base hs0 hH0 h1 h2
      subst h1 h2
      have hvs0 : vs = [] := List.eq_nil_of_length_eq_zero (by simpa using hvl)
      subst hvs0
      have R0 : Rep F ι H0 w := by rw [hH0]; cases n with
        | none => exact hh.rep
        | some n => exact hh.rep.del n
      have K0 : Kept ι σ.H w ι H0 w := by rw [hH0]; cases n with
        | none => exact .refl _ _ _
        | some n => exact kept_del hh.rep n
      have hsub : ∀ m, m ∈ H0.map Prod.fst → m ∈ σ.H.map Prod.fst := by
        rw [hH0]; cases n with
        | none => exact fun m h => h
        | some n => exact fun m h => (names_del_sub n σ.H).mem h
      obtain ⟨R1, K1⟩ := R0.ghost hk0 te.size
      refine ⟨_, .sl σ.k 0 0, .slice base 0 0, _, _, w, hexec _ _ ?_, hk, ⟨⟨K0.trans K1, Nat.le_succ _, fun n hn => upd_other _ _ _ _ (fun e => by subst e; have := hn hfk; omega), ?_⟩, R1, ?_, .sl0 (upd_same _ _ _)⟩⟩
      · rw [hs0]
        exact run_append_fits hti hd htu hdu hte base 0 0 0 _ hlen [] hfc (by omega) w (by cases base <;> simp [storeCells])
      · intro m hm
        simp only [List.map_cons, List.mem_cons] at hm
        rcases hm with hm | hm
        · subst hm; exact .inr ⟨hfk, by omega⟩
        · exact .inl (hsub m hm)
      · intro m hf hm
        rw [upd_other _ _ _ _ (by omega)]
        exact hfr m hf hm
    -- a new row
    have fresh : ∀ (n : Option Nat) (base : Option Addr) (cap : Nat) (us : List Value), a.eval s = .slice base olds.length cap → H0 = (match n with | some n => del n σ.H | none => σ.H) → (∀ v ∈ olds, v.fits te.size = true) → us.length = olds.length * te.size →
        VRels ι (Own F ι σ.H) w (olds.flatMap V.cells) us → (Builtin.firstCells te.size olds.length (.slice base olds.length cap)).run P w.drew = .ok us.toArray w.drew → cap < olds.length + news.length →
        ∃ ι' v cv H' k' w', (execOp a.eval o).run P w = .ok (.value cv) w' ∧ K v H' k' ∧ Out fr F ι σ.H σ.k w ι' v cv H' k' w' := by
      intro n base cap us hs0 hH0 hof hul hus hus' hg
      have R0 : Rep F ι H0 w := by rw [hH0]; cases n with
        | none => exact hh.rep
        | some n => exact hh.rep.del n
      have K0 : Kept ι σ.H w ι H0 w := by rw [hH0]; cases n with
        | none => exact .refl _ _ _
        | some n => exact kept_del hh.rep n
      have hsub : ∀ m, m ∈ H0.map Prod.fst → m ∈ σ.H.map Prod.fst := by
        rw [hH0]; cases n with
        | none => exact fun m h => h
        | some n => exact fun m h => (names_del_sub n σ.H).mem h
      obtain ⟨zs, hr, hzs⟩ := run_append_grows (w := w) (ty := o.type) hti hd htu hdu hte base olds.length cap news.length _ hlen vs us hfc' hus' hg hb hb0
      have hO := out_append_new (e := e) hk0 hfk hfr R0 te.size (olds ++ news) (fun v hv => (List.mem_append.1 hv).elim (hof v) (hnf v)) (us ++ vs) zs (by rw [List.length_append, hul, hvl, List.length_append, Nat.add_mul])
        (by rw [List.flatMap_append]; exact (hus.stays K0.stays).append (hvs.stays K0.stays)) (grownCap w (olds.length + news.length) cap e)
        (by have := grownCap_ge w (olds.length + news.length) cap e; omega) (by rw [List.length_append]; exact grownCap_ge _ _ _ _) (grownCap_le_maxLen _ _ _ _ hml) (by rw [List.length_append]; exact hzs)
      rw [List.length_append] at hO
      have hcells : us.toArray ++ vs.toArray ++ zs = (us ++ vs).toArray ++ zs := by simp
      rw [hcells] at hr
      refine ⟨_, _, _, _, _, _, hexec _ _ (by rw [hs0]; exact hr), hk, ⟨⟨K0.trans hO.ext.kept, hO.ext.le, hO.ext.same, ?_⟩, hO.rep, hO.fresh, hO.val⟩⟩
      intro m hm
      exact (hO.ext.dom m hm).imp (hsub m) id
    have hes := hh.eval s
    rcases hs with ⟨hs, hol, hH0⟩ | ⟨n, i, len, es, hs, hn, hil, hol, hH0⟩
    · rw [hs] at hes
      have hes := hes.inv_val
      subst hol
      by_cases h0 : news = []
      · exact empty none none hes hH0 rfl h0
      · have : 0 < news.length := List.length_pos_iff.2 h0
        exact fresh none none 0 [] (by simpa using hes) hH0 (by simp) (by simp) .nil (by simp [Builtin.firstCells]) (by simpa using this)
    · rw [hs] at hes
      have holl : olds.length = len := by rw [hol, List.length_take, List.length_drop]; omega
      generalize hcv : a.eval s = cv at hes
      cases hes with
      | sl0 hl =>
        rename_i l a0
        have hol0 : olds = [] := List.eq_nil_of_length_eq_zero holl
        by_cases h0 : news = []
        · exact empty (some n) a0 hcv hH0 hol0 h0
        · have : 0 < news.length := List.length_pos_iff.2 h0
          have hz : (Builtin.firstCells te.size olds.length (.slice a0 olds.length 0)).run P w.drew = .ok ([] : List Value).toArray w.drew := by
            rw [hol0]; cases a0 <;> simp [Builtin.firstCells, loadCells, loadCellsFrom]
          exact fresh (some n) a0 0 [] (by rw [hol0]; exact hcv) hH0 (by rw [hol0]; simp) (by rw [hol0]; simp) (by rw [hol0]; exact .nil) hz (by omega)
      | sl hl hg hm hoff hc0 hlc hcm hsz' =>
        rename_i off cap l
        have hnews0 : newsV σ.H te.size (evalV σ.t s) = some olds := by
          rw [hs]; simp only [newsV, hn, if_true, if_pos hil, hol]
        obtain ⟨hof, _⟩ := news_cells hh hnews0 (hh.eval s)
        obtain ⟨us, hus, hul, _, hufc, hufc'⟩ := newsV_run (P := P) hh hnews0 (hh.eval s)
        rw [hcv] at hufc hufc'
        have hcv' : a.eval s = .slice (some ⟨l.b, off, none⟩) olds.length cap := by rw [holl]; exact hcv
        by_cases hfit : olds.length + news.length ≤ cap
        · obtain ⟨e1, e2, e3, e4, e5, c, et, hw, hc, hlo, hv⟩ := hh.rep.block hn hl hg
          have hmulc : (olds.length + news.length) * te.size ≤ cap * te.size := Nat.mul_le_mul_right _ hfit
          rw [Nat.add_mul] at hmulc
          have hoffc : off + cap * te.size ≤ c.size := by rw [hc, ← e1]; exact hsz'
          have h1c : ∀ v ∈ vs, v.oneCell' = true := oneCells hvs fun c hc => by
            obtain ⟨v, hv1, hv2⟩ := List.mem_flatMap.1 hc
            exact (fits_iff.1 (hnf v hv1)).2 c hv2
          have hst := run_storeCells_at P l.b (off + olds.length * te.size) et vs 0 c w hw (by rw [hvl]; omega) h1c
          rw [Nat.add_zero] at hst
          have hr := run_append_fits (w := w) (ty := o.type) hti hd htu hdu hte (some ⟨l.b, off, none⟩) olds.length cap news.length _ hlen vs hfc hfit _ (by simp only [Addr.add_lit]; exact hst)
          have hmem := look_mem hn
          have hoth : ∀ q, q < w.heap.size → q ≠ l.b → (w.setRow l.b (c.toList.take (off + olds.length * te.size) ++ vs ++ c.toList.drop (off + olds.length * te.size + vs.length)).toArray).heap[q]? = w.heap[q]? := fun q _ hq => setRow_other w l.b q _ hq
          have hcs := setRow_heap w l.b c (c.toList.take (off + olds.length * te.size) ++ vs ++ c.toList.drop (off + olds.length * te.size + vs.length)).toArray et (0, 0) hw
          have hsplice : c.toList.take (off + olds.length * te.size) ++ vs ++ c.toList.drop (off + olds.length * te.size + vs.length) = splice c.toList (off + olds.length * te.size) vs := by simp [splice]
          have hszc : (c.toList.take (off + olds.length * te.size) ++ vs ++ c.toList.drop (off + olds.length * te.size + vs.length)).toArray.size = c.size := by
            rw [hsplice, List.size_toArray, length_splice _ _ _ (by rw [hvl, Array.length_toList (xs := c)]; omega), Array.length_toList (xs := c)]
          have hcl : ∀ v ∈ es, v.cells.length = te.size := fun v hv => (fits_iff.1 (e3 v hv)).1
          have hw1 : ((splice c.toList (off + olds.length * te.size) vs).drop off).take ((olds ++ news).length * te.size) = (c.toList.drop off).take (olds.length * te.size) ++ vs := by
            have := splice_tail c.toList vs off (olds.length * te.size) (by rw [hvl, Array.length_toList (xs := c)]; omega)
            rw [hvl, ← Nat.add_mul] at this
            rw [List.length_append]; exact this
          have hold : VRels ι (Own F ι σ.H) w (olds.flatMap V.cells) ((c.toList.drop off).take (olds.length * te.size)) := by
            have hv' := (hv.drop (i * te.size)).take (len * te.size)
            rw [flatMap_drop hcl, flatMap_take (fun v hv => hcl v (List.mem_of_mem_drop hv)), ← hol] at hv'
            have hmul2 : (i + len) * te.size ≤ es.length * te.size := Nat.mul_le_mul_right _ hil
            rw [Nat.add_mul] at hmul2
            have hlist : (((c.toList.drop l.o).take (es.length * te.size)).drop (i * te.size)).take (len * te.size) = (c.toList.drop off).take (olds.length * te.size) := by
              apply List.ext_getElem?
              intro q
              rw [holl]
              simp only [List.getElem?_take, List.getElem?_drop]
              by_cases hq : q < len * te.size
              · simp only [hq, if_true, show i * te.size + q < es.length * te.size by omega]
                congr 1; rw [hoff, e1]; omega
              · simp [hq]
            rw [hlist] at hv'; exact hv'
          obtain ⟨R1, K1⟩ := hh.rep.move hmem hl hg hk0 ⟨l.b, off, te.size, l.size, false, false⟩ rfl (.rows te.size (olds ++ news)) (w' := w.setRow l.b (c.toList.take (off + olds.length * te.size) ++ vs ++ c.toList.drop (off + olds.length * te.size + vs.length)).toArray) rfl rfl rfl (by simp) hoth fun ι' O' S =>
            ⟨rfl, rfl, fun v hv => (List.mem_append.1 hv).elim (hof v) (hnf v), .inr ⟨rfl, _, et, hcs, by rw [hszc, hc], by rw [hszc, List.length_append, Nat.add_mul]; show off + _ ≤ _; omega, by
              have heq : (((c.toList.take (off + olds.length * te.size) ++ vs ++ c.toList.drop (off + olds.length * te.size + vs.length)).drop off).take ((olds ++ news).length * te.size)) = (c.toList.drop off).take (olds.length * te.size) ++ vs := by rw [hsplice, hw1]
              show VRels ι' O' _ _ (((c.toList.take (off + olds.length * te.size) ++ vs ++ c.toList.drop (off + olds.length * te.size + vs.length)).drop off).take ((olds ++ news).length * te.size))
              rw [heq, List.flatMap_append]
              exact VRels.append (hold.stays S) (hvs.stays S)⟩⟩
          refine ⟨upd ι σ.k ⟨l.b, off, te.size, l.size, false, false⟩, .sl σ.k 0 (olds.length + news.length), _, _, _, _, hexec _ _ (by rw [hcv']; exact hr), hk, ?_⟩
          rw [hH0]
          refine ⟨⟨K1, Nat.le_succ _, fun n hn => upd_other _ _ _ _ (fun e => by subst e; have := hn hfk; omega), ?_⟩, R1, ?_, .sl (l := ⟨l.b, off, te.size, l.size, false, false⟩) (upd_same _ _ _) rfl rfl (by simp) hc0 hfit hcm (by show off + cap * te.size ≤ l.size; rw [← e1]; exact hsz')⟩
          · intro m hm
            simp only [List.map_cons, List.mem_cons] at hm
            rcases hm with hm | hm
            · subst hm; exact .inr ⟨hfk, by omega⟩
            · exact .inl ((names_del_sub n σ.H).mem hm)
          · intro m hf hm
            rw [upd_other _ _ _ _ (by omega)]
            exact hfr m hf hm
        · exact fresh (some n) (some ⟨l.b, off, none⟩) cap us hcv' hH0 hof hul hus (by rw [holl] at hufc' ⊢; exact hufc') (by omega)

end
end Go.Sl
