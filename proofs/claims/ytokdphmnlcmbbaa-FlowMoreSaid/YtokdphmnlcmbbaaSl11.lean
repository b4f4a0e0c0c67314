/- Functions entered and left; results seen as immutable; functions that change nothing. -/
import Derived.Test.YtokdphmnlcmbbaaSl10
set_option linter.unusedVariables false
set_option linter.unusedSimpArgs false
namespace Go.Sl

def oneOrTup : List V → V
  | [v] => v
  | vs => .tup vs

def resOne (tmps : Array Value) : ResultVar → Sem Value
  | .tmp t => pure (tmps.getD t undef)
  | .cell a t => do loadVar t (← asAddr (tmps.getD a undef))

theorem results_eq (fn : Func) (tmps : Array Value) : results fn tmps = (do let vs ← fn.results.mapM (resOne tmps); pure (if h : vs.size = 1 then vs[0] else .tuple vs)) := by
  unfold results
  congr 1

/-- the results, one by one -/
def retV (T : Tab) (t : List (Nat × V)) (H : Heap) : List ResultVar → List V → (V → Prop) → Prop
  | [], acc, K => K (oneOrTup acc)
  | .tmp i :: r, acc, K => retV T t H r (acc ++ [get t i]) K
  | .cell i ty :: r, acc, K =>
    match T ty with
    | some ti => loadV H ti (get t i) fun v => retV T t H r (acc ++ [v]) K
    | none => False

def initT : Nat → List V → List (Nat × V)
  | _, [] => []
  | i, v :: vs => (i, v) :: initT (i + 1) vs

section
variable {F : Nat → Prop} {ι ι' : Names} {O : Nat → Prop} {H H' : Heap} {σ σ' : St} {a a' : Act} {w w' : World} {P : Program} {T : Tab}

theorem get_initT (vs : List V) : ∀ (s i : Nat), get (initT s vs) i = if s ≤ i then vs.getD (i - s) .any else .any := by
  induction vs with
  | nil => intro s i; simp [initT, get]
  | cons v vs ih =>
    intro s i
    simp only [initT, get, ih]
    by_cases h : i = s
    · subst h; simp
    · rw [if_neg h]
      by_cases h2 : s ≤ i
      · rw [if_pos h2, if_pos (by omega), show i - s = (i - (s + 1)) + 1 by omega]; simp
      · rw [if_neg h2, if_neg (by omega)]

theorem loadV_run (R : Rep F ι H w) {ty : TypeId} {ti : TI} (hti : tiOf P ty = some ti) {x : V} {cx : Value} (hx : VRel ι (Own F ι H) w x cx) {K : V → Prop} (h : loadV H ti x K) :
    ∃ ad v cv, cx = .pointer (some ad) ∧ (loadVar ty ad).run P w = .ok cv w ∧ VRel ι (Own F ι H) w v cv ∧ K v := by
  unfold loadV at h
  split at h
  · split at h
    · rename_i sz es hn
      obtain ⟨ad, y, h1, h2, h3⟩ := run_load_ptr (P := P) R hti hx hn h.1 h.2.1
      exact ⟨ad, _, y, h1, h2, h3, h.2.2⟩
    · exact h.elim
  · obtain ⟨ad, y, h1, h2, h3⟩ := run_load_rp (P := P) hti hx h.1
    exact ⟨ad, _, y, h1, h2, h3, h.2⟩
  · exact h.elim

theorem retV_run (hT : TabOk P T) (hh : Holds All F ι σ a w) : ∀ (rs : List ResultVar) (acc : List V) (cacc : List Value) (K : V → Prop), retV T σ.t σ.H rs acc K → VRels ι (Own F ι σ.H) w acc cacc →
    ∃ cvs : List Value, (rs.mapM (resOne a.tmps)).run P w = .ok cvs w ∧ ∃ vs, VRels ι (Own F ι σ.H) w vs (cacc ++ cvs) ∧ K (oneOrTup vs)
  | [], acc, cacc, K, h, hv => ⟨[], rfl, acc, by simpa using hv, h⟩
  | .tmp i :: r, acc, cacc, K, h, hv => by
    obtain ⟨cvs, h1, vs, h2, h3⟩ := retV_run hT hh r _ (cacc ++ [a.tmps.getD i undef]) K h (hv.snoc (hh.tmps i))
    exact ⟨a.tmps.getD i undef :: cvs, by simp only [List.mapM_cons, resOne, Sem.run_bind, Sem.run_pure, Result.andThen_ok, h1], vs, by rw [List.append_assoc] at h2; exact h2, h3⟩
  | .cell i ty :: r, acc, cacc, K, h, hv => by
    simp only [retV] at h
    cases hti : T ty with
    | none => rw [hti] at h; exact h.elim
    | some ti =>
      rw [hti] at h
      obtain ⟨ad, v, cv, e1, e2, e3, e4⟩ := loadV_run (P := P) hh.rep (hT _ _ hti) (hh.tmps i) h
      obtain ⟨cvs, h1, vs, h2, h3⟩ := retV_run hT hh r _ (cacc ++ [cv]) K e4 (hv.snoc e3)
      exact ⟨cv :: cvs, by simp only [List.mapM_cons, resOne, e1, asAddr, Sem.run_bind, Sem.run_pure, Result.andThen_ok, e2, h1], vs, by rw [List.append_assoc] at h2; exact h2, h3⟩

/-- how a function's body ends -/
def Ends (T : Tab) (rs : List ResultVar) (K : V → Heap → Nat → Prop) (e : Exit) (σ' : St) : Prop := (e = .normal ∨ e = .ret) ∧ retV T σ'.t σ'.H rs [] fun v => K v σ'.H σ'.k

theorem fn_intro (hT : TabOk P T) {f : FuncId} {fn : Func} {c : Code} {args : List V} {k : Nat} {K : V → Heap → Nat → Prop} (hf : P.funcs[f]? = some fn) (hb : fn.body = some c) (hname : (fn.name == "runtime.NumGoroutine") = false) (hN : args.length ≤ fn.ntmps)
    (h : Tr P c (Ends T fn.results.toList K) ⟨fn.ntmps, initT 0 args, H, k⟩) : Fn P f args H k K := by
  refine ⟨⟨fn, hf, hname, by simp [hb]⟩, fun F ι w cargs h1 h2 h3 => ?_⟩
  have hl := h1.length
  refine calls_of_wp hf hb (wp_mono (h F ι _ w ⟨rfl, ?_, ?_, h2, fun n _ => h3 n⟩) ?_)
  · simp only [Array.size_append, List.size_toArray, Array.size_replicate]; omega
  · intro i
    simp only []
    rw [get_initT, if_pos (Nat.zero_le _), Nat.sub_zero]
    cases hi : args[i]? with
    | none => simp only [List.getD, hi, Option.getD_none]; exact .any _
    | some v =>
      obtain ⟨x, hx, hv⟩ := h1.get i v hi
      have : (cargs.toArray ++ Array.replicate (fn.ntmps - cargs.toArray.size) undef).getD i undef = x := by
        have hlt := (List.getElem?_eq_some_iff.1 hx).1
        rw [Array.getD_eq_getD_getElem?, Array.getElem?_append_left (by simpa using hlt)]
        simp [hx]
      simp only [List.getD, hi, Option.getD_some]
      rw [this]; exact hv
  · rintro e a' w' ⟨ι', σ', ⟨he, hr⟩, hh, hx⟩
    obtain ⟨cvs, e1, vs, e2, e3⟩ := retV_run hT hh fn.results.toList [] [] _ hr .nil
    simp only [List.nil_append] at e2
    have hrun : (results fn a'.tmps).run P w' = .ok (if h : cvs.toArray.size = 1 then cvs.toArray[0] else .tuple cvs.toArray) w' := by
      rw [results_eq, Array.mapM_eq_mapM_toList]
      simp only [Sem.run_bind, Sem.run_map, e1, Result.andThen_ok, Sem.run_pure]
    have hval : VRel ι' (Own F ι' σ'.H) w' (oneOrTup vs) (if h : cvs.toArray.size = 1 then cvs.toArray[0] else .tuple cvs.toArray) := by
      have hlen := e2.length
      cases e2 with
      | nil => exact .tup .nil
      | cons hv hs =>
        cases hs with
        | nil => exact hv
        | cons hv' hs' => exact .tup (.cons hv (.cons hv' hs'))
    have hpost : bodyPost P fn (fun e w' => ∃ ι' v cv H' k', e = .returned cv ∧ K v H' k' ∧ Out All F ι H k w ι' v cv H' k' w') .ret a' w' :=
      ⟨hh.defers, _, hrun, ι', _, _, σ'.H, σ'.k, rfl, e3, hx, hh.rep, hh.fresh, hval⟩
    rcases he with rfl | rfl
    · exact hpost
    · exact hpost

/-! ## what comes out, seen otherwise -/

def View (H : Heap) (v : V) (H' : Heap) (v' : V) : Prop :=
  ∀ F ι w cv, Rep F ι H w → VRel ι (Own F ι H) w v cv → Rep F ι H' w ∧ Kept ι H w ι H' w ∧ (∀ n, n ∈ H'.map Prod.fst → n ∈ H.map Prod.fst) ∧ VRel ι (Own F ι H') w v' cv

theorem View.refl (H : Heap) (v : V) : View H v H v := fun _ _ _ _ R hv => ⟨R, .refl _ _ _, fun _ h => h, hv⟩

theorem View.trans {H'' : Heap} {v v' v'' : V} (h : View H v H' v') (h' : View H' v' H'' v'') : View H v H'' v'' := fun F ι w cv R hv => by
  obtain ⟨R1, K1, N1, V1⟩ := h F ι w cv R hv
  obtain ⟨R2, K2, N2, V2⟩ := h' F ι w cv R1 V1
  exact ⟨R2, K1.trans K2, fun n hn => N1 n (N2 n hn), V2⟩

theorem View.del (n : Nat) (v : V) : View H v (Sl.del n H) v := fun _ _ _ _ R hv => ⟨R.del n, kept_del R n, fun _ h => (names_del_sub n H).mem h, hv.stays (kept_del R n).stays⟩

theorem View.nil (v : V) : View H v [] v := by
  induction H with
  | nil => exact View.refl _ _
  | cons p r ih =>
    have h := View.del (H := p :: r) p.1 v
    simp only [Sl.del, if_true] at h
    exact h.trans ih

theorem View.perm (p : H.Perm H') (v : V) : View H v H' v := fun _ _ _ _ R hv => ⟨R.perm p, .perm p, fun _ h => (p.map _).mem_iff.2 h, hv.stays (Kept.perm p).stays⟩

/-- a row that is given up is immutable -/
theorem ro_of_sl {n i len : Nat} {sz : Nat} {es : List V} {cv : Value} (R : Rep F ι H w) (h : VRel ι (Own F ι H) w (.sl n i len) cv) (hn : look n H = some (.rows sz es)) (hl : i + len ≤ es.length) : VRel ι (Own F ι (Sl.del n H)) w (.ro sz ((es.drop i).take len)) cv := by
  have hS := (kept_del R n).stays (F := F)
  have hlen : ((es.drop i).take len).length = len := by rw [List.length_take, List.length_drop]; omega
  cases h with
  | sl0 h => simpa using VRel.ro0
  | sl hl' hg hm hoff hc0 hlc hcm hs =>
    rename_i off cap l
    obtain ⟨e1, e2, e3, e4, e5, c, e, hw, hc, hlo, hv⟩ := R.block hn hl' hg
    have hcl : ∀ v ∈ es, v.cells.length = sz := fun v hv => (fits_iff.1 (e3 v hv)).1
    have hmul : (i + len) * sz ≤ es.length * sz := Nat.mul_le_mul_right _ hl
    rw [Nat.add_mul] at hmul
    have hv' := (hv.drop (i * sz)).take (len * sz)
    rw [flatMap_drop hcl, flatMap_take (fun v hv => hcl v (List.mem_of_mem_drop hv))] at hv'
    have hlist : (((c.toList.drop l.o).take (es.length * sz)).drop (i * sz)).take (len * sz) = (c.toList.drop off).take (((es.drop i).take len).length * sz) := by
      rw [hlen]
      apply List.ext_getElem?
      intro q
      simp only [List.getElem?_take, List.getElem?_drop]
      by_cases hq : q < len * sz
      · simp only [hq, if_true, show i * sz + q < es.length * sz by omega]
        congr 1; rw [hoff, e1]; omega
      · simp [hq]
    rw [hlist] at hv'
    refine .ro e4 ?_ hw (fun v hv => e3 v (List.mem_of_mem_drop (List.mem_of_mem_take hv))) hlen.symm hlc ?_ rfl (VRels.stays hS hv')
    · rintro (hF | ⟨m, B', l', hm', hl2, hg', hb⟩)
      · exact e5 hF
      · have h' := mem_del R.names hm'
        exact R.apart m B' n _ l' l h'.2 (look_mem hn) h'.1 hl2 hl' hg' hg hb
    · rw [hlen, hoff, e1]; omega

theorem rp_of_ptr {n i j : Nat} {sz : Nat} {es : List V} {cv : Value} (R : Rep F ι H w) (h : VRel ι (Own F ι H) w (.ptr n i j) cv) (hn : look n H = some (.rows sz es)) (hl : i < es.length) : VRel ι (Own F ι (Sl.del n H)) w (.rp (es.getD i .any).cells j) cv := by
  have hS := (kept_del R n).stays (F := F)
  cases h with
  | ptr hl' hg hm hoff =>
    rename_i off l
    obtain ⟨e1, e2, e3, e4, e5, c, e, hw, hc, hlo, hv⟩ := R.block hn hl' hg
    have hcl : ∀ v ∈ es, v.cells.length = sz := fun v hv => (fits_iff.1 (e3 v hv)).1
    obtain ⟨v, hvi⟩ : ∃ v, es[i]? = some v := ⟨_, List.getElem?_eq_getElem hl⟩
    have hd : es.getD i .any = v := by simp [List.getD, hvi]
    have hvf := fits_iff.1 (e3 v (List.mem_of_getElem? hvi))
    have hmul : i * sz + sz ≤ es.length * sz := by rw [← Nat.succ_mul]; exact Nat.mul_le_mul_right _ hl
    have hel := (hv.drop (i * sz)).take sz
    rw [flatMap_elem hcl hvi] at hel
    have hlist : (((c.toList.drop l.o).take (es.length * sz)).drop (i * sz)).take sz = (c.toList.drop (l.o + i * sz)).take v.cells.length := by
      rw [hvf.1]
      apply List.ext_getElem?
      intro q
      simp only [List.getElem?_take, List.getElem?_drop]
      by_cases hq : q < sz
      · simp only [hq, if_true, show i * sz + q < es.length * sz by omega]
        congr 1; omega
      · simp [hq]
    rw [hlist] at hel
    rw [hd]
    refine .rp e4 ?_ hw (by simpa using hvf.2) (by rw [hvf.1]; omega) rfl (VRels.stays hS hel) (by rw [hoff, e1])
    rintro (hF | ⟨m, B', l', hm', hl2, hg', hb⟩)
    · exact e5 hF
    · have h' := mem_del R.names hm'
      exact R.apart m B' n _ l' l h'.2 (look_mem hn) h'.1 hl2 hl' hg' hg hb

theorem View.freeze {n i len sz : Nat} {es : List V} (hn : look n H = some (.rows sz es)) (hl : i + len ≤ es.length) : View H (.sl n i len) (Sl.del n H) (.ro sz ((es.drop i).take len)) := fun _ _ _ _ R hv =>
  ⟨R.del n, kept_del R n, fun _ h => (names_del_sub n H).mem h, ro_of_sl R hv hn hl⟩

theorem View.freezeAll {n len sz : Nat} {es : List V} (hn : look n H = some (.rows sz es)) (hl : len = es.length) : View H (.sl n 0 len) (Sl.del n H) (.ro sz es) := by
  have := View.freeze (i := 0) (len := len) hn (by omega)
  simpa [hl] using this

/-- a slot's slice is given up: immutable from here on -/
theorem Weaker.freeze {N k n sz : Nat} {es : List V} {t t' : List (Nat × V)} (hn : look n H = some (.rows sz es))
    (h : ∀ i, get t' i = .any ∨ get t' i = get t i ∨ (∃ q len, get t i = .sl n q len ∧ q + len ≤ es.length ∧ get t' i = .ro sz ((es.drop q).take len)) ∨ (∃ q j, get t i = .ptr n q j ∧ q < es.length ∧ get t' i = .rp (es.getD q .any).cells j)) :
    Weaker ⟨N, t, H, k⟩ ⟨N, t', Sl.del n H, k⟩ :=
  ⟨fun F ι a w hh => by
    have K := kept_del hh.rep n
    refine ⟨ι, ⟨hh.defers, hh.size, fun i => ?_, hh.rep.del n, hh.fresh⟩, K, Nat.le_refl _, fun _ _ => rfl, fun _ h => .inl ((names_del_sub n H).mem h)⟩
    have ht := hh.tmps i
    rcases h i with e | e | ⟨q, len, e1, e2, e3⟩ | ⟨q, j, e1, e2, e3⟩
    · rw [e]; exact .any _
    · rw [e]; exact ht.stays K.stays
    · rw [e1] at ht; rw [e3]; exact ro_of_sl hh.rep ht hn e2
    · rw [e1] at ht; rw [e3]; exact rp_of_ptr hh.rep ht hn e2⟩

/-- a nil slice as an empty row of its own -/
theorem Weaker.ghost {N k : Nat} {t : List (Nat × V)} (i sz : Nat) (h : get t i = .val (.slice none 0 0)) : Weaker ⟨N, t, H, k⟩ ⟨N, (i, .sl k 0 0) :: t, (k, .rows sz []) :: H, k + 1⟩ :=
  ⟨fun F ι a w hh => by
    have hk := hh.fresh k trivial (Nat.le_refl _)
    obtain ⟨R, K⟩ := hh.rep.ghost hk sz
    refine ⟨_, ⟨hh.defers, hh.size, fun j => ?_, R, fun n _ hn => ?_⟩, K, Nat.le_succ _, fun n hn => upd_other _ _ _ _ (by have := hn trivial; simp only [] at this; omega), fun n hn => ?_⟩
    · have ht := hh.tmps j
      simp only [get]
      split
      · subst_vars
        simp only [] at ht
        rw [h] at ht
        rw [ht.inv_val]
        exact .sl0 (upd_same _ _ _)
      · exact ht.stays K.stays
    · simp only [] at hn
      rw [upd_other _ _ _ _ (by omega)]
      exact hh.fresh n trivial (by simp only []; omega)
    · simp only [List.map_cons, List.mem_cons] at hn
      rcases hn with hn | hn
      · exact .inr ⟨trivial, by simp only []; omega⟩
      · exact .inl hn⟩

theorem Fn.view {f : FuncId} {args : List V} {k : Nat} {K : V → Heap → Nat → Prop} (h : Fn P f args H k fun v H' k' => ∃ H'' v', View H' v H'' v' ∧ K v' H'' k') : Fn P f args H k K := by
  refine ⟨h.enters, fun F ι w cargs h1 h2 h3 => (h.calls F ι w cargs h1 h2 h3).mono ?_⟩
  rintro e w' ⟨ι', v, cv, H', k', he, ⟨H'', v', hv, hk⟩, hO⟩
  obtain ⟨R, K, N, V⟩ := hv F ι' w' cv hO.rep hO.val
  exact ⟨ι', v', cv, H'', k', he, hk, ⟨hO.ext.kept.trans K, hO.ext.le, hO.ext.same, fun n hn => hO.ext.dom n (N n hn)⟩, R, hO.fresh, V⟩

/-! ## functions that change nothing -/

/-- a value that names nothing owned -/
def NL (v : V) : Prop := ∀ ι ι' O w cv, VRel ι O w v cv → VRel ι' O w v cv
def NLs (vs : List V) : Prop := ∀ v ∈ vs, NL v

theorem NLs.rels {vs : List V} (h : NLs vs) {xs : List Value} (hv : VRels ι O w vs xs) : VRels ι' O w vs xs := by
  induction vs generalizing xs with
  | nil => cases hv; exact .nil
  | cons v vs ih => cases hv with | cons h1 h2 => exact .cons (h v (by simp) _ _ _ _ _ h1) (ih (fun u hu => h u (by simp [hu])) h2)

theorem NL.any : NL .any := fun _ _ _ _ _ _ => .any _
theorem NL.val (v : Value) : NL (.val v) := fun _ _ _ _ _ h => by cases h with | val _ h => exact .val _ h
theorem NL.agg {cs : List V} (h : NLs cs) : NL (.agg cs) := fun _ _ _ _ _ hv => by cases hv with | agg hv => exact .agg (h.rels hv)
theorem NL.tup {cs : List V} (h : NLs cs) : NL (.tup cs) := fun _ _ _ _ _ hv => by cases hv with | tup hv => exact .tup (h.rels hv)
theorem NL.ro {sz : Nat} {es : List V} (h : ∀ v ∈ es, NLs v.cells) : NL (.ro sz es) := fun _ _ _ _ _ hv => by
  cases hv with
  | ro0 => exact .ro0
  | ro hb hO hw hsz hlen hlc hin hvs hv =>
    refine .ro hb hO hw hsz hlen hlc hin hvs (NLs.rels ?_ hv)
    intro c hc
    obtain ⟨v, h1, h2⟩ := List.mem_flatMap.1 hc
    exact h v h1 c h2
theorem NL.rp {cs : List V} {j : Nat} (h : NLs cs) : NL (.rp cs j) := fun _ _ _ _ _ hv => by
  cases hv with
  | rp hb hO hw hsz hin hvs hv ho => exact .rp hb hO hw hsz hin hvs (h.rels hv) ho
theorem NLs.nil : NLs [] := by intro v h; cases h
theorem NLs.cons {v : V} {vs : List V} (h : NL v) (hs : NLs vs) : NLs (v :: vs) := by
  intro u hu; cases hu with
  | head => exact h
  | tail _ hu => exact hs u hu
theorem NL.cells {v : V} (h : NL v) (ha : ∀ cs, v = .agg cs → NLs cs) : NLs v.cells := by
  cases v with
  | agg cs => exact ha cs rfl
  | _ => exact .cons h .nil

structure Pf (P : Program) (f : FuncId) (args : List V) (r : V) : Prop where
  enters : Enters P f
  calls : ∀ ι O w cargs, (∀ b, O b → b < w.heap.size) → VRels ι O w args cargs → Calls P f cargs.toArray w fun e w' => ∃ cv, e = .returned cv ∧ VRel ι O w' r cv ∧
    w'.os = w.os ∧ w'.tape = w.tape ∧ w'.output = w.output ∧ w.heap.size ≤ w'.heap.size ∧ ∀ b, b < w.heap.size → w'.heap[b]? = w.heap[b]?

theorem NLs.of_rel {vs : List V} (h : NLs vs) {xs : List Value} (hv : VRels ι O w vs xs) : VRels ι' O w vs xs := h.rels hv

/-- the arguments name nothing owned -/
theorem Pf.of_fn {f : FuncId} {args : List V} {r : V} (ha : NLs args) (hr : NL r) (h : Fn P f args [] 0 fun v _ _ => v = r) : Pf P f args r := by
  refine ⟨h.enters, fun ι O w cargs hO hv => ?_⟩
  have hown : Own O (fun _ => none) [] = O := funext fun b => propext ⟨fun h => h.elim id (fun ⟨_, _, _, h, _⟩ => by cases h), .inl⟩
  have R : Rep O (fun _ => none) [] w := ⟨hO, by simp, (by intro _ _ h; cases h), (by intro _ _ _ _ _ _ h; cases h)⟩
  refine (h.calls O (fun _ => none) w cargs (by rw [hown]; exact ha.rels hv) R (fun _ _ => rfl)).mono ?_
  rintro e w' ⟨ι', v, cv, H', k', he, rfl, hO'⟩
  have hno : ∀ b, b < w.heap.size → ¬ OwnH ι' H' b := fun b hb ho => by
    obtain ⟨_, _, _, h, _⟩ := hO'.ext.kept.old b hb ho; cases h
  have K := hO'.ext.kept
  refine ⟨cv, he, ?_, K.os, K.tape, K.output, K.size, fun b hb => K.stay b hb fun ⟨_, _, _, h, _⟩ => by cases h⟩
  obtain ⟨_, _, _, V⟩ := View.nil (H := H') v O ι' w' cv hO'.rep hO'.val
  have hown' : Own O ι' [] = O := funext fun b => propext ⟨fun h => h.elim id (fun ⟨_, _, _, h, _⟩ => by cases h), .inl⟩
  rw [hown'] at V
  exact hr _ _ _ _ _ V

theorem Pf.fn {f : FuncId} {args : List V} {r : V} (h : Pf P f args r) {k : Nat} {K : V → Heap → Nat → Prop} (hk : K r H k) : Fn P f args H k K := by
  refine ⟨h.enters, fun F ι w cargs h1 h2 h3 => ?_⟩
  have hOb : ∀ b, Own F ι H b → b < w.heap.size := by
    rintro b (hF | ⟨n, B, l, hm, hl, hg, rfl⟩)
    · exact h2.frame b hF
    · obtain ⟨l', hl', _, h'⟩ := h2.own n B hm
      rw [hl] at hl'; cases hl'
      exact (h' hg).1
  refine (h.calls ι (Own F ι H) w cargs hOb h1).mono ?_
  rintro e w' ⟨cv, he, hv, ho, ht, hu, hs, hb⟩
  have K' : Kept ι H w ι H w' := ⟨fun _ _ h => h, ho, ht, hu, hs, fun b hb' _ => hb b hb', fun _ _ h => h⟩
  refine ⟨ι, r, cv, H, k, he, hk, ⟨K', Nat.le_refl _, fun _ _ => rfl, fun _ h => .inl h⟩, ?_, fun n _ => h3 n, hv⟩
  refine ⟨fun b hF => Nat.lt_of_lt_of_le (h2.frame b hF) hs, h2.names, fun n B hm => ?_, h2.apart⟩
  obtain ⟨l, hl, hB, hg⟩ := h2.own n B hm
  exact ⟨l, hl, BRel.stays K'.stays (fun hgh => hb _ (hg hgh).1) hB, fun hgh => ⟨Nat.lt_of_lt_of_le (hg hgh).1 hs, (hg hgh).2⟩⟩

end
end Go.Sl
