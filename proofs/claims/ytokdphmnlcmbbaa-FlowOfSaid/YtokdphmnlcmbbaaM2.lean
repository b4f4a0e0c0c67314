/- Texts put together, in order: Sl11, T, Sl12, Sl13, Sl14, Sl15, Sl16, Sl17, Sl18, Sl19, W9, Glita. -/
import Derived.Test.YtokdphmnlcmbbaaProg
import Derived.KernelRfl
import Derived.Orders
import Derived.JoinedOf
import Derived.SizedLaws
import Derived.Carry
import Derived.OpenShut
import Derived.WideShapes
import Derived.IntWalk
import Derived.Test.YtokdphmnlcmbbaaM1
set_option linter.unusedVariables false
set_option linter.unusedSimpArgs false
/- Functions entered and left; results seen as immutable; functions that change nothing. -/
namespace Go.Sl

def oneOrTup : List V → V
  | [v] => v
  | vs => .tup vs

def resOne (tmps : Array Value) : ResultVar → Sem Value
  | .tmp t => pure (tmps.getD t undef)
  | .cell a t => do loadVar t (← asAddr (tmps.getD a undef))

theorem results_eq (fn : Func) (tmps : Array Value) : results fn tmps = (do let vs ← fn.results.mapM (resOne tmps); pure (if h : vs.size = 1 then vs[0] else .tuple vs)) := by
  unfold results
  congr 1

/-- the results, one by one -/
def retV (T : Tab) (t : List (Nat × V)) (H : Heap) : List ResultVar → List V → (V → Prop) → Prop
  | [], acc, K => K (oneOrTup acc)
  | .tmp i :: r, acc, K => retV T t H r (acc ++ [get t i]) K
  | .cell i ty :: r, acc, K =>
    match T ty with
    | some ti => loadV H ti (get t i) fun v => retV T t H r (acc ++ [v]) K
    | none => False

def initT : Nat → List V → List (Nat × V)
  | _, [] => []
  | i, v :: vs => (i, v) :: initT (i + 1) vs

section
variable {F : Nat → Prop} {ι ι' : Names} {O : Nat → Prop} {H H' : Heap} {σ σ' : St} {a a' : Act} {w w' : World} {P : Program} {T : Tab}

theorem get_initT (vs : List V) : ∀ (s i : Nat), get (initT s vs) i = if s ≤ i then vs.getD (i - s) .any else .any := by
  induction vs with
  | nil => intro s i; simp [initT, get]
  | cons v vs ih =>
    intro s i
    simp only [initT, get, ih]
    by_cases h : i = s
    · subst h; simp
    · rw [if_neg h]
      by_cases h2 : s ≤ i
      · rw [if_pos h2, if_pos (by omega), show i - s = (i - (s + 1)) + 1 by omega]; simp
      · rw [if_neg h2, if_neg (by omega)]

theorem loadV_run (R : Rep F ι H w) {ty : TypeId} {ti : TI} (hti : tiOf P ty = some ti) {x : V} {cx : Value} (hx : VRel ι (Own F ι H) w x cx) {K : V → Prop} (h : loadV H ti x K) :
    ∃ ad v cv, cx = .pointer (some ad) ∧ (loadVar ty ad).run P w = .ok cv w ∧ VRel ι (Own F ι H) w v cv ∧ K v := by
  unfold loadV at h
  split at h
  · split at h
    · rename_i sz es hn
      obtain ⟨ad, y, h1, h2, h3⟩ := run_load_ptr (P := P) R hti hx hn h.1 h.2.1
      exact ⟨ad, _, y, h1, h2, h3, h.2.2⟩
    · exact h.elim
  · obtain ⟨ad, y, h1, h2, h3⟩ := run_load_rp (P := P) hti hx h.1
    exact ⟨ad, _, y, h1, h2, h3, h.2⟩
  · exact h.elim

theorem retV_run (hT : TabOk P T) (hh : Holds All F ι σ a w) : ∀ (rs : List ResultVar) (acc : List V) (cacc : List Value) (K : V → Prop), retV T σ.t σ.H rs acc K → VRels ι (Own F ι σ.H) w acc cacc →
    ∃ cvs : List Value, (rs.mapM (resOne a.tmps)).run P w = .ok cvs w ∧ ∃ vs, VRels ι (Own F ι σ.H) w vs (cacc ++ cvs) ∧ K (oneOrTup vs)
  | [], acc, cacc, K, h, hv => ⟨[], rfl, acc, by simpa using hv, h⟩
  | .tmp i :: r, acc, cacc, K, h, hv => by
    obtain ⟨cvs, h1, vs, h2, h3⟩ := retV_run hT hh r _ (cacc ++ [a.tmps.getD i undef]) K h (hv.snoc (hh.tmps i))
    exact ⟨a.tmps.getD i undef :: cvs, by simp only [List.mapM_cons, resOne, Sem.run_bind, Sem.run_pure, Result.andThen_ok, h1], vs, by rw [List.append_assoc] at h2; exact h2, h3⟩
  | .cell i ty :: r, acc, cacc, K, h, hv => by
    simp only [retV] at h
    cases hti : T ty with
    | none => rw [hti] at h; exact h.elim
    | some ti =>
      rw [hti] at h
      obtain ⟨ad, v, cv, e1, e2, e3, e4⟩ := loadV_run (P := P) hh.rep (hT _ _ hti) (hh.tmps i) h
      obtain ⟨cvs, h1, vs, h2, h3⟩ := retV_run hT hh r _ (cacc ++ [cv]) K e4 (hv.snoc e3)
      exact ⟨cv :: cvs, by simp only [List.mapM_cons, resOne, e1, asAddr, Sem.run_bind, Sem.run_pure, Result.andThen_ok, e2, h1], vs, by rw [List.append_assoc] at h2; exact h2, h3⟩

/-- how a function's body ends -/
def Ends (T : Tab) (rs : List ResultVar) (K : V → Heap → Nat → Prop) (e : Exit) (σ' : St) : Prop := (e = .normal ∨ e = .ret) ∧ retV T σ'.t σ'.H rs [] fun v => K v σ'.H σ'.k

theorem fn_intro (hT : TabOk P T) {f : FuncId} {fn : Func} {c : Code} {args : List V} {k : Nat} {K : V → Heap → Nat → Prop} (hf : P.funcs[f]? = some fn) (hb : fn.body = some c) (hname : (fn.name == "runtime.NumGoroutine") = false) (hN : args.length ≤ fn.ntmps)
    (h : Tr P c (Ends T fn.results.toList K) ⟨fn.ntmps, initT 0 args, H, k⟩) : Fn P f args H k K := by
  refine ⟨⟨fn, hf, hname, by simp [hb]⟩, fun F ι w cargs h1 h2 h3 => ?_⟩
  have hl := h1.length
  refine calls_of_wp hf hb (wp_mono (h F ι _ w ⟨rfl, ?_, ?_, h2, fun n _ => h3 n⟩) ?_)
  · simp only [Array.size_append, List.size_toArray, Array.size_replicate]; omega
  · intro i
    simp only []
    rw [get_initT, if_pos (Nat.zero_le _), Nat.sub_zero]
    cases hi : args[i]? with
    | none => simp only [List.getD, hi, Option.getD_none]; exact .any _
    | some v =>
      obtain ⟨x, hx, hv⟩ := h1.get i v hi
      have : (cargs.toArray ++ Array.replicate (fn.ntmps - cargs.toArray.size) undef).getD i undef = x := by
        have hlt := (List.getElem?_eq_some_iff.1 hx).1
        rw [Array.getD_eq_getD_getElem?, Array.getElem?_append_left (by simpa using hlt)]
        simp [hx]
      simp only [List.getD, hi, Option.getD_some]
      rw [this]; exact hv
  · rintro e a' w' ⟨ι', σ', ⟨he, hr⟩, hh, hx⟩
    obtain ⟨cvs, e1, vs, e2, e3⟩ := retV_run hT hh fn.results.toList [] [] _ hr .nil
    simp only [List.nil_append] at e2
    have hrun : (results fn a'.tmps).run P w' = .ok (if h : cvs.toArray.size = 1 then cvs.toArray[0] else .tuple cvs.toArray) w' := by
      rw [results_eq, Array.mapM_eq_mapM_toList]
      simp only [Sem.run_bind, Sem.run_map, e1, Result.andThen_ok, Sem.run_pure]
    have hval : VRel ι' (Own F ι' σ'.H) w' (oneOrTup vs) (if h : cvs.toArray.size = 1 then cvs.toArray[0] else .tuple cvs.toArray) := by
      have hlen := e2.length
      cases e2 with
      | nil => exact .tup .nil
      | cons hv hs =>
        cases hs with
        | nil => exact hv
        | cons hv' hs' => exact .tup (.cons hv (.cons hv' hs'))
    have hpost : bodyPost P fn (fun e w' => ∃ ι' v cv H' k', e = .returned cv ∧ K v H' k' ∧ Out All F ι H k w ι' v cv H' k' w') .ret a' w' :=
      ⟨hh.defers, _, hrun, ι', _, _, σ'.H, σ'.k, rfl, e3, hx, hh.rep, hh.fresh, hval⟩
    rcases he with rfl | rfl
    · exact hpost
    · exact hpost

/-! ## what comes out, seen otherwise -/

def View (H : Heap) (v : V) (H' : Heap) (v' : V) : Prop :=
  ∀ F ι w cv, Rep F ι H w → VRel ι (Own F ι H) w v cv → Rep F ι H' w ∧ Kept ι H w ι H' w ∧ (∀ n, n ∈ H'.map Prod.fst → n ∈ H.map Prod.fst) ∧ VRel ι (Own F ι H') w v' cv

theorem View.refl (H : Heap) (v : V) : View H v H v := fun _ _ _ _ R hv => ⟨R, .refl _ _ _, fun _ h => h, hv⟩

theorem View.trans {H'' : Heap} {v v' v'' : V} (h : View H v H' v') (h' : View H' v' H'' v'') : View H v H'' v'' := fun F ι w cv R hv => by
  obtain ⟨R1, K1, N1, V1⟩ := h F ι w cv R hv
  obtain ⟨R2, K2, N2, V2⟩ := h' F ι w cv R1 V1
  exact ⟨R2, K1.trans K2, fun n hn => N1 n (N2 n hn), V2⟩

theorem View.del (n : Nat) (v : V) : View H v (Sl.del n H) v := fun _ _ _ _ R hv => ⟨R.del n, kept_del R n, fun _ h => (names_del_sub n H).mem h, hv.stays (kept_del R n).stays⟩

theorem View.nil (v : V) : View H v [] v := by
  induction H with
  | nil => exact View.refl _ _
  | cons p r ih =>
    have h := View.del (H := p :: r) p.1 v
    simp only [Sl.del, if_true] at h
    exact h.trans ih

theorem View.perm (p : H.Perm H') (v : V) : View H v H' v := fun _ _ _ _ R hv => ⟨R.perm p, .perm p, fun _ h => (p.map _).mem_iff.2 h, hv.stays (Kept.perm p).stays⟩

/-- a row that is given up is immutable -/
theorem ro_of_sl {n i len : Nat} {sz : Nat} {es : List V} {cv : Value} (R : Rep F ι H w) (h : VRel ι (Own F ι H) w (.sl n i len) cv) (hn : look n H = some (.rows sz es)) (hl : i + len ≤ es.length) : VRel ι (Own F ι (Sl.del n H)) w (.ro sz ((es.drop i).take len)) cv := by
  have hS := (kept_del R n).stays (F := F)
  have hlen : ((es.drop i).take len).length = len := by rw [List.length_take, List.length_drop]; omega
  cases h with
  | sl0 h => simpa using VRel.ro0
  | sl hl' hg hm hoff hc0 hlc hcm hs =>
    rename_i off cap l
    obtain ⟨e1, e2, e3, e4, e5, c, e, hw, hc, hlo, hv⟩ := R.block hn hl' hg
    have hcl : ∀ v ∈ es, v.cells.length = sz := fun v hv => (fits_iff.1 (e3 v hv)).1
    have hmul : (i + len) * sz ≤ es.length * sz := Nat.mul_le_mul_right _ hl
    rw [Nat.add_mul] at hmul
    have hv' := (hv.drop (i * sz)).take (len * sz)
    rw [flatMap_drop hcl, flatMap_take (fun v hv => hcl v (List.mem_of_mem_drop hv))] at hv'
    have hlist : (((c.toList.drop l.o).take (es.length * sz)).drop (i * sz)).take (len * sz) = (c.toList.drop off).take (((es.drop i).take len).length * sz) := by
      rw [hlen]
      apply List.ext_getElem?
      intro q
      simp only [List.getElem?_take, List.getElem?_drop]
      by_cases hq : q < len * sz
      · simp only [hq, if_true, show i * sz + q < es.length * sz by omega]
        congr 1; rw [hoff, e1]; omega
      · simp [hq]
    rw [hlist] at hv'
    refine .ro e4 ?_ hw (fun v hv => e3 v (List.mem_of_mem_drop (List.mem_of_mem_take hv))) hlen.symm hlc ?_ rfl (VRels.stays hS hv')
    · rintro (hF | ⟨m, B', l', hm', hl2, hg', hb⟩)
      · exact e5 hF
      · have h' := mem_del R.names hm'
        exact R.apart m B' n _ l' l h'.2 (look_mem hn) h'.1 hl2 hl' hg' hg hb
    · rw [hlen, hoff, e1]; omega

theorem rp_of_ptr {n i j : Nat} {sz : Nat} {es : List V} {cv : Value} (R : Rep F ι H w) (h : VRel ι (Own F ι H) w (.ptr n i j) cv) (hn : look n H = some (.rows sz es)) (hl : i < es.length) : VRel ι (Own F ι (Sl.del n H)) w (.rp (es.getD i .any).cells j) cv := by
  have hS := (kept_del R n).stays (F := F)
  cases h with
  | ptr hl' hg hm hoff =>
    rename_i off l
    obtain ⟨e1, e2, e3, e4, e5, c, e, hw, hc, hlo, hv⟩ := R.block hn hl' hg
    have hcl : ∀ v ∈ es, v.cells.length = sz := fun v hv => (fits_iff.1 (e3 v hv)).1
    obtain ⟨v, hvi⟩ : ∃ v, es[i]? = some v := ⟨_, List.getElem?_eq_getElem hl⟩
    have hd : es.getD i .any = v := by simp [List.getD, hvi]
    have hvf := fits_iff.1 (e3 v (List.mem_of_getElem? hvi))
    have hmul : i * sz + sz ≤ es.length * sz := by rw [← Nat.succ_mul]; exact Nat.mul_le_mul_right _ hl
    have hel := (hv.drop (i * sz)).take sz
    rw [flatMap_elem hcl hvi] at hel
    have hlist : (((c.toList.drop l.o).take (es.length * sz)).drop (i * sz)).take sz = (c.toList.drop (l.o + i * sz)).take v.cells.length := by
      rw [hvf.1]
      apply List.ext_getElem?
      intro q
      simp only [List.getElem?_take, List.getElem?_drop]
      by_cases hq : q < sz
      · simp only [hq, if_true, show i * sz + q < es.length * sz by omega]
        congr 1; omega
      · simp [hq]
    rw [hlist] at hel
    rw [hd]
    refine .rp e4 ?_ hw (by simpa using hvf.2) (by rw [hvf.1]; omega) rfl (VRels.stays hS hel) (by rw [hoff, e1])
    rintro (hF | ⟨m, B', l', hm', hl2, hg', hb⟩)
    · exact e5 hF
    · have h' := mem_del R.names hm'
      exact R.apart m B' n _ l' l h'.2 (look_mem hn) h'.1 hl2 hl' hg' hg hb

theorem View.freeze {n i len sz : Nat} {es : List V} (hn : look n H = some (.rows sz es)) (hl : i + len ≤ es.length) : View H (.sl n i len) (Sl.del n H) (.ro sz ((es.drop i).take len)) := fun _ _ _ _ R hv =>
  ⟨R.del n, kept_del R n, fun _ h => (names_del_sub n H).mem h, ro_of_sl R hv hn hl⟩

theorem View.freezeAll {n len sz : Nat} {es : List V} (hn : look n H = some (.rows sz es)) (hl : len = es.length) : View H (.sl n 0 len) (Sl.del n H) (.ro sz es) := by
  have := View.freeze (i := 0) (len := len) hn (by omega)
  simpa [hl] using this

/-- a slot's slice is given up: immutable from here on -/
theorem Weaker.freeze {N k n sz : Nat} {es : List V} {t t' : List (Nat × V)} (hn : look n H = some (.rows sz es))
    (h : ∀ i, get t' i = .any ∨ get t' i = get t i ∨ (∃ q len, get t i = .sl n q len ∧ q + len ≤ es.length ∧ get t' i = .ro sz ((es.drop q).take len)) ∨ (∃ q j, get t i = .ptr n q j ∧ q < es.length ∧ get t' i = .rp (es.getD q .any).cells j)) :
    Weaker ⟨N, t, H, k⟩ ⟨N, t', Sl.del n H, k⟩ :=
  ⟨fun F ι a w hh => by
    have K := kept_del hh.rep n
    refine ⟨ι, ⟨hh.defers, hh.size, fun i => ?_, hh.rep.del n, hh.fresh⟩, K, Nat.le_refl _, fun _ _ => rfl, fun _ h => .inl ((names_del_sub n H).mem h)⟩
    have ht := hh.tmps i
    rcases h i with e | e | ⟨q, len, e1, e2, e3⟩ | ⟨q, j, e1, e2, e3⟩
    · rw [e]; exact .any _
    · rw [e]; exact ht.stays K.stays
    · rw [e1] at ht; rw [e3]; exact ro_of_sl hh.rep ht hn e2
    · rw [e1] at ht; rw [e3]; exact rp_of_ptr hh.rep ht hn e2⟩

/-- a nil slice as an empty row of its own -/
theorem Weaker.ghost {N k : Nat} {t : List (Nat × V)} (i sz : Nat) (h : get t i = .val (.slice none 0 0)) : Weaker ⟨N, t, H, k⟩ ⟨N, (i, .sl k 0 0) :: t, (k, .rows sz []) :: H, k + 1⟩ :=
  ⟨fun F ι a w hh => by
    have hk := hh.fresh k trivial (Nat.le_refl _)
    obtain ⟨R, K⟩ := hh.rep.ghost hk sz
    refine ⟨_, ⟨hh.defers, hh.size, fun j => ?_, R, fun n _ hn => ?_⟩, K, Nat.le_succ _, fun n hn => upd_other _ _ _ _ (by have := hn trivial; simp only [] at this; omega), fun n hn => ?_⟩
    · have ht := hh.tmps j
      simp only [get]
      split
      · subst_vars
        simp only [] at ht
        rw [h] at ht
        rw [ht.inv_val]
        exact .sl0 (upd_same _ _ _)
      · exact ht.stays K.stays
    · simp only [] at hn
      rw [upd_other _ _ _ _ (by omega)]
      exact hh.fresh n trivial (by simp only []; omega)
    · simp only [List.map_cons, List.mem_cons] at hn
      rcases hn with hn | hn
      · exact .inr ⟨trivial, by simp only []; omega⟩
      · exact .inl hn⟩

theorem Fn.view {f : FuncId} {args : List V} {k : Nat} {K : V → Heap → Nat → Prop} (h : Fn P f args H k fun v H' k' => ∃ H'' v', View H' v H'' v' ∧ K v' H'' k') : Fn P f args H k K := by
  refine ⟨h.enters, fun F ι w cargs h1 h2 h3 => (h.calls F ι w cargs h1 h2 h3).mono ?_⟩
  rintro e w' ⟨ι', v, cv, H', k', he, ⟨H'', v', hv, hk⟩, hO⟩
  obtain ⟨R, K, N, V⟩ := hv F ι' w' cv hO.rep hO.val
  exact ⟨ι', v', cv, H'', k', he, hk, ⟨hO.ext.kept.trans K, hO.ext.le, hO.ext.same, fun n hn => hO.ext.dom n (N n hn)⟩, R, hO.fresh, V⟩

/-! ## functions that change nothing -/

/-- a value that names nothing owned -/
def NL (v : V) : Prop := ∀ ι ι' O w cv, VRel ι O w v cv → VRel ι' O w v cv
def NLs (vs : List V) : Prop := ∀ v ∈ vs, NL v

theorem NLs.rels {vs : List V} (h : NLs vs) {xs : List Value} (hv : VRels ι O w vs xs) : VRels ι' O w vs xs := by
  induction vs generalizing xs with
  | nil => cases hv; exact .nil
  | cons v vs ih => cases hv with | cons h1 h2 => exact .cons (h v (by simp) _ _ _ _ _ h1) (ih (fun u hu => h u (by simp [hu])) h2)

theorem NL.any : NL .any := fun _ _ _ _ _ _ => .any _
theorem NL.val (v : Value) : NL (.val v) := fun _ _ _ _ _ h => by cases h with | val _ h => exact .val _ h
theorem NL.agg {cs : List V} (h : NLs cs) : NL (.agg cs) := fun _ _ _ _ _ hv => by cases hv with | agg hv => exact .agg (h.rels hv)
theorem NL.tup {cs : List V} (h : NLs cs) : NL (.tup cs) := fun _ _ _ _ _ hv => by cases hv with | tup hv => exact .tup (h.rels hv)
theorem NL.ro {sz : Nat} {es : List V} (h : ∀ v ∈ es, NLs v.cells) : NL (.ro sz es) := fun _ _ _ _ _ hv => by
  cases hv with
  | ro0 => exact .ro0
  | ro hb hO hw hsz hlen hlc hin hvs hv =>
    refine .ro hb hO hw hsz hlen hlc hin hvs (NLs.rels ?_ hv)
    intro c hc
    obtain ⟨v, h1, h2⟩ := List.mem_flatMap.1 hc
    exact h v h1 c h2
theorem NL.rp {cs : List V} {j : Nat} (h : NLs cs) : NL (.rp cs j) := fun _ _ _ _ _ hv => by
  cases hv with
  | rp hb hO hw hsz hin hvs hv ho => exact .rp hb hO hw hsz hin hvs (h.rels hv) ho
theorem NLs.nil : NLs [] := by intro v h; cases h
theorem NLs.cons {v : V} {vs : List V} (h : NL v) (hs : NLs vs) : NLs (v :: vs) := by
  intro u hu; cases hu with
  | head => exact h
  | tail _ hu => exact hs u hu
theorem NL.cells {v : V} (h : NL v) (ha : ∀ cs, v = .agg cs → NLs cs) : NLs v.cells := by
  cases v with
  | agg cs => exact ha cs rfl
  | _ => exact .cons h .nil

structure Pf (P : Program) (f : FuncId) (args : List V) (r : V) : Prop where
  enters : Enters P f
  calls : ∀ ι O w cargs, (∀ b, O b → b < w.heap.size) → VRels ι O w args cargs → Calls P f cargs.toArray w fun e w' => ∃ cv, e = .returned cv ∧ VRel ι O w' r cv ∧
    w'.os = w.os ∧ w'.tape = w.tape ∧ w'.output = w.output ∧ w.heap.size ≤ w'.heap.size ∧ ∀ b, b < w.heap.size → w'.heap[b]? = w.heap[b]?

theorem NLs.of_rel {vs : List V} (h : NLs vs) {xs : List Value} (hv : VRels ι O w vs xs) : VRels ι' O w vs xs := h.rels hv

/-- the arguments name nothing owned -/
theorem Pf.of_fn {f : FuncId} {args : List V} {r : V} (ha : NLs args) (hr : NL r) (h : Fn P f args [] 0 fun v _ _ => v = r) : Pf P f args r := by
  refine ⟨h.enters, fun ι O w cargs hO hv => ?_⟩
  have hown : Own O (fun _ => none) [] = O := funext fun b => propext ⟨fun h => h.elim id (fun ⟨_, _, _, h, _⟩ => by cases h), .inl⟩
  have R : Rep O (fun _ => none) [] w := ⟨hO, by simp, (by intro _ _ h; cases h), (by intro _ _ _ _ _ _ h; cases h)⟩
  refine (h.calls O (fun _ => none) w cargs (by rw [hown]; exact ha.rels hv) R (fun _ _ => rfl)).mono ?_
  rintro e w' ⟨ι', v, cv, H', k', he, rfl, hO'⟩
  have hno : ∀ b, b < w.heap.size → ¬ OwnH ι' H' b := fun b hb ho => by
    obtain ⟨_, _, _, h, _⟩ := hO'.ext.kept.old b hb ho; cases h
  have K := hO'.ext.kept
  refine ⟨cv, he, ?_, K.os, K.tape, K.output, K.size, fun b hb => K.stay b hb fun ⟨_, _, _, h, _⟩ => by cases h⟩
  obtain ⟨_, _, _, V⟩ := View.nil (H := H') v O ι' w' cv hO'.rep hO'.val
  have hown' : Own O ι' [] = O := funext fun b => propext ⟨fun h => h.elim id (fun ⟨_, _, _, h, _⟩ => by cases h), .inl⟩
  rw [hown'] at V
  exact hr _ _ _ _ _ V

theorem Pf.fn {f : FuncId} {args : List V} {r : V} (h : Pf P f args r) {k : Nat} {K : V → Heap → Nat → Prop} (hk : K r H k) : Fn P f args H k K := by
  refine ⟨h.enters, fun F ι w cargs h1 h2 h3 => ?_⟩
  have hOb : ∀ b, Own F ι H b → b < w.heap.size := by
    rintro b (hF | ⟨n, B, l, hm, hl, hg, rfl⟩)
    · exact h2.frame b hF
    · obtain ⟨l', hl', _, h'⟩ := h2.own n B hm
      rw [hl] at hl'; cases hl'
      exact (h' hg).1
  refine (h.calls ι (Own F ι H) w cargs hOb h1).mono ?_
  rintro e w' ⟨cv, he, hv, ho, ht, hu, hs, hb⟩
  have K' : Kept ι H w ι H w' := ⟨fun _ _ h => h, ho, ht, hu, hs, fun b hb' _ => hb b hb', fun _ _ h => h⟩
  refine ⟨ι, r, cv, H, k, he, hk, ⟨K', Nat.le_refl _, fun _ _ => rfl, fun _ h => .inl h⟩, ?_, fun n _ => h3 n, hv⟩
  refine ⟨fun b hF => Nat.lt_of_lt_of_le (h2.frame b hF) hs, h2.names, fun n B hm => ?_, h2.apart⟩
  obtain ⟨l, hl, hB, hg⟩ := h2.own n B hm
  exact ⟨l, hl, BRel.stays K'.stays (fun hgh => hb _ (hg hgh).1) hB, fun hgh => ⟨Nat.lt_of_lt_of_le (hg hgh).1 hs, (hg hgh).2⟩⟩

end
end Go.Sl
/- The seat's types as the logic reads them. -/
namespace Go.Proofs.Try
open Go.Sl

def Tl : List (Nat × TI) := [
  (1, ⟨.func, 1, 8, [.nilFunc]⟩),
  (2, ⟨.int .i64, 1, 8, [.int .i64 0]⟩),
  (3, ⟨.int .i64, 1, 8, [.int .i64 0]⟩),
  (4, ⟨.bool, 1, 1, [.bool false]⟩),
  (5, ⟨.int .u8, 1, 1, [.int .u8 0]⟩),
  (6, ⟨.int .u8, 1, 1, [.int .u8 0]⟩),
  (9, ⟨.string, 1, 16, [.string ⟨#[]⟩]⟩),
  (10, ⟨.string, 1, 16, [.string ⟨#[]⟩]⟩),
  (11, ⟨.string, 1, 16, [.string ⟨#[]⟩]⟩),
  (12, ⟨.int .u64, 1, 8, [.int .u64 0]⟩),
  (15, ⟨.pointer 134, 1, 8, [.pointer none]⟩),
  (16, ⟨.pointer 137, 1, 8, [.pointer none]⟩),
  (17, ⟨.pointer 146, 1, 8, [.pointer none]⟩),
  (21, ⟨.int .i32, 1, 4, [.int .i32 0]⟩),
  (22, ⟨.int .u64, 1, 8, [.int .u64 0]⟩),
  (26, ⟨.struct [(4, 0, 1), (22, 1, 1)], 2, 16, [.bool false, .int .u64 0]⟩),
  (27, ⟨.struct [(4, 0, 1), (22, 1, 1)], 2, 16, [.bool false, .int .u64 0]⟩),
  (28, ⟨.struct [(9, 0, 1), (22, 1, 1)], 2, 24, [.string ⟨#[]⟩, .int .u64 0]⟩),
  (29, ⟨.struct [(9, 0, 1), (22, 1, 1)], 2, 24, [.string ⟨#[]⟩, .int .u64 0]⟩),
  (30, ⟨.slice 29, 1, 24, [.slice none 0 0]⟩),
  (31, ⟨.struct [(3, 0, 1), (3, 1, 1), (3, 2, 1), (27, 3, 2), (27, 5, 2), (4, 7, 1), (4, 8, 1), (3, 9, 1), (3, 10, 1), (3, 11, 1), (3, 12, 1)], 13, 96, [.int .i64 0, .int .i64 0, .int .i64 0, .bool false, .int .u64 0, .bool false, .int .u64 0, .bool false, .bool false, .int .i64 0, .int .i64 0, .int .i64 0, .int .i64 0]⟩),
  (32, ⟨.struct [(3, 0, 1), (3, 1, 1), (3, 2, 1), (27, 3, 2), (27, 5, 2), (4, 7, 1), (4, 8, 1), (3, 9, 1), (3, 10, 1), (3, 11, 1), (3, 12, 1)], 13, 96, [.int .i64 0, .int .i64 0, .int .i64 0, .bool false, .int .u64 0, .bool false, .int .u64 0, .bool false, .bool false, .int .i64 0, .int .i64 0, .int .i64 0, .int .i64 0]⟩),
  (33, ⟨.slice 32, 1, 24, [.slice none 0 0]⟩),
  (34, ⟨.slice 33, 1, 24, [.slice none 0 0]⟩),
  (35, ⟨.slice 100, 1, 24, [.slice none 0 0]⟩),
  (36, ⟨.struct [(30, 0, 1), (34, 1, 1), (35, 2, 1)], 3, 72, [.slice none 0 0, .slice none 0 0, .slice none 0 0]⟩),
  (37, ⟨.struct [(30, 0, 1), (34, 1, 1), (35, 2, 1)], 3, 72, [.slice none 0 0, .slice none 0 0, .slice none 0 0]⟩),
  (38, ⟨.pointer 49, 1, 8, [.pointer none]⟩),
  (40, ⟨.pointer 37, 1, 8, [.pointer none]⟩),
  (41, ⟨.struct [(4, 0, 1), (22, 1, 1)], 2, 16, [.bool false, .int .u64 0]⟩),
  (42, ⟨.struct [(4, 0, 1), (22, 1, 1)], 2, 16, [.bool false, .int .u64 0]⟩),
  (43, ⟨.slice 42, 1, 24, [.slice none 0 0]⟩),
  (44, ⟨.slice 4, 1, 24, [.slice none 0 0]⟩),
  (45, ⟨.slice 3, 1, 24, [.slice none 0 0]⟩),
  (46, ⟨.slice 22, 1, 24, [.slice none 0 0]⟩),
  (47, ⟨.slice 50, 1, 24, [.slice none 0 0]⟩),
  (48, ⟨.struct [(45, 0, 1), (43, 1, 1), (45, 2, 1), (46, 3, 1), (46, 4, 1), (46, 5, 1), (46, 6, 1), (47, 7, 1), (4, 8, 1)], 9, 200, [.slice none 0 0, .slice none 0 0, .slice none 0 0, .slice none 0 0, .slice none 0 0, .slice none 0 0, .slice none 0 0, .slice none 0 0, .bool false]⟩),
  (49, ⟨.struct [(45, 0, 1), (43, 1, 1), (45, 2, 1), (46, 3, 1), (46, 4, 1), (46, 5, 1), (46, 6, 1), (47, 7, 1), (4, 8, 1)], 9, 200, [.slice none 0 0, .slice none 0 0, .slice none 0 0, .slice none 0 0, .slice none 0 0, .slice none 0 0, .slice none 0 0, .slice none 0 0, .bool false]⟩),
  (50, ⟨.array 8 42, 16, 128, [.bool false, .int .u64 0, .bool false, .int .u64 0, .bool false, .int .u64 0, .bool false, .int .u64 0, .bool false, .int .u64 0, .bool false, .int .u64 0, .bool false, .int .u64 0, .bool false, .int .u64 0]⟩),
  (53, ⟨.int .i64, 1, 8, [.int .i64 0]⟩),
  (55, ⟨.slice 103, 1, 24, [.slice none 0 0]⟩),
  (56, ⟨.slice 104, 1, 24, [.slice none 0 0]⟩),
  (57, ⟨.slice 106, 1, 24, [.slice none 0 0]⟩),
  (58, ⟨.struct [(55, 0, 1), (56, 1, 1), (57, 2, 1)], 3, 72, [.slice none 0 0, .slice none 0 0, .slice none 0 0]⟩),
  (59, ⟨.struct [(55, 0, 1), (56, 1, 1), (57, 2, 1)], 3, 72, [.slice none 0 0, .slice none 0 0, .slice none 0 0]⟩),
  (61, ⟨.slice 66, 1, 24, [.slice none 0 0]⟩),
  (63, ⟨.slice 71, 1, 24, [.slice none 0 0]⟩),
  (65, ⟨.struct [(3, 0, 1), (3, 1, 1)], 2, 16, [.int .i64 0, .int .i64 0]⟩),
  (66, ⟨.struct [(3, 0, 1), (3, 1, 1)], 2, 16, [.int .i64 0, .int .i64 0]⟩),
  (67, ⟨.struct [(4, 0, 1), (22, 1, 1)], 2, 16, [.bool false, .int .u64 0]⟩),
  (68, ⟨.struct [(3, 0, 1), (3, 1, 1), (3, 2, 1), (67, 3, 2), (67, 5, 2), (4, 7, 1), (4, 8, 1), (3, 9, 1), (3, 10, 1), (3, 11, 1), (3, 12, 1)], 13, 96, [.int .i64 0, .int .i64 0, .int .i64 0, .bool false, .int .u64 0, .bool false, .int .u64 0, .bool false, .bool false, .int .i64 0, .int .i64 0, .int .i64 0, .int .i64 0]⟩),
  (69, ⟨.struct [(3, 0, 1), (3, 1, 1), (3, 2, 1), (67, 3, 2), (67, 5, 2), (4, 7, 1), (4, 8, 1), (3, 9, 1), (3, 10, 1), (3, 11, 1), (3, 12, 1)], 13, 96, [.int .i64 0, .int .i64 0, .int .i64 0, .bool false, .int .u64 0, .bool false, .int .u64 0, .bool false, .bool false, .int .i64 0, .int .i64 0, .int .i64 0, .int .i64 0]⟩),
  (70, ⟨.struct [(3, 0, 1), (3, 1, 1), (69, 2, 13)], 15, 112, [.int .i64 0, .int .i64 0, .int .i64 0, .int .i64 0, .int .i64 0, .bool false, .int .u64 0, .bool false, .int .u64 0, .bool false, .bool false, .int .i64 0, .int .i64 0, .int .i64 0, .int .i64 0]⟩),
  (71, ⟨.struct [(3, 0, 1), (3, 1, 1), (69, 2, 13)], 15, 112, [.int .i64 0, .int .i64 0, .int .i64 0, .int .i64 0, .int .i64 0, .bool false, .int .u64 0, .bool false, .int .u64 0, .bool false, .bool false, .int .i64 0, .int .i64 0, .int .i64 0, .int .i64 0]⟩),
  (72, ⟨.slice 82, 1, 24, [.slice none 0 0]⟩),
  (75, ⟨.slice 84, 1, 24, [.slice none 0 0]⟩),
  (76, ⟨.slice 72, 1, 24, [.slice none 0 0]⟩),
  (77, ⟨.slice 45, 1, 24, [.slice none 0 0]⟩),
  (78, ⟨.struct [(75, 0, 1), (76, 1, 1), (77, 2, 1), (4, 3, 1)], 4, 80, [.slice none 0 0, .slice none 0 0, .slice none 0 0, .bool false]⟩),
  (79, ⟨.struct [(75, 0, 1), (76, 1, 1), (77, 2, 1), (4, 3, 1)], 4, 80, [.slice none 0 0, .slice none 0 0, .slice none 0 0, .bool false]⟩),
  (81, ⟨.struct [(4, 0, 1), (22, 1, 1), (45, 2, 1)], 3, 40, [.bool false, .int .u64 0, .slice none 0 0]⟩),
  (82, ⟨.struct [(4, 0, 1), (22, 1, 1), (45, 2, 1)], 3, 40, [.bool false, .int .u64 0, .slice none 0 0]⟩),
  (83, ⟨.struct [(3, 0, 1), (3, 1, 1), (82, 2, 3), (45, 5, 1), (45, 6, 1), (45, 7, 1)], 8, 128, [.int .i64 0, .int .i64 0, .bool false, .int .u64 0, .slice none 0 0, .slice none 0 0, .slice none 0 0, .slice none 0 0]⟩),
  (84, ⟨.struct [(3, 0, 1), (3, 1, 1), (82, 2, 3), (45, 5, 1), (45, 6, 1), (45, 7, 1)], 8, 128, [.int .i64 0, .int .i64 0, .bool false, .int .u64 0, .slice none 0 0, .slice none 0 0, .slice none 0 0, .slice none 0 0]⟩),
  (91, ⟨.pointer 94, 1, 8, [.pointer none]⟩),
  (92, ⟨.array 8 22, 8, 64, [.int .u64 0, .int .u64 0, .int .u64 0, .int .u64 0, .int .u64 0, .int .u64 0, .int .u64 0, .int .u64 0]⟩),
  (93, ⟨.struct [(38, 0, 1), (50, 1, 16), (92, 17, 8), (22, 25, 1), (22, 26, 1), (3, 27, 1), (3, 28, 1)], 29, 232, [.pointer none, .bool false, .int .u64 0, .bool false, .int .u64 0, .bool false, .int .u64 0, .bool false, .int .u64 0, .bool false, .int .u64 0, .bool false, .int .u64 0, .bool false, .int .u64 0, .bool false, .int .u64 0, .int .u64 0, .int .u64 0, .int .u64 0, .int .u64 0, .int .u64 0, .int .u64 0, .int .u64 0, .int .u64 0, .int .u64 0, .int .u64 0, .int .i64 0, .int .i64 0]⟩),
  (94, ⟨.struct [(38, 0, 1), (50, 1, 16), (92, 17, 8), (22, 25, 1), (22, 26, 1), (3, 27, 1), (3, 28, 1)], 29, 232, [.pointer none, .bool false, .int .u64 0, .bool false, .int .u64 0, .bool false, .int .u64 0, .bool false, .int .u64 0, .bool false, .int .u64 0, .bool false, .int .u64 0, .bool false, .int .u64 0, .bool false, .int .u64 0, .int .u64 0, .int .u64 0, .int .u64 0, .int .u64 0, .int .u64 0, .int .u64 0, .int .u64 0, .int .u64 0, .int .u64 0, .int .u64 0, .int .i64 0, .int .i64 0]⟩),
  (99, ⟨.struct [(3, 0, 1), (3, 1, 1), (22, 2, 1)], 3, 24, [.int .i64 0, .int .i64 0, .int .u64 0]⟩),
  (100, ⟨.struct [(3, 0, 1), (3, 1, 1), (22, 2, 1)], 3, 24, [.int .i64 0, .int .i64 0, .int .u64 0]⟩),
  (103, ⟨.struct [(9, 0, 1), (22, 1, 1)], 2, 24, [.string ⟨#[]⟩, .int .u64 0]⟩),
  (104, ⟨.slice 69, 1, 24, [.slice none 0 0]⟩),
  (106, ⟨.struct [(3, 0, 1), (3, 1, 1), (22, 2, 1)], 3, 24, [.int .i64 0, .int .i64 0, .int .u64 0]⟩),
  (108, ⟨.struct [(72, 0, 1), (45, 1, 1), (3, 2, 1), (45, 3, 1), (75, 4, 1), (4, 5, 1)], 6, 112, [.slice none 0 0, .slice none 0 0, .int .i64 0, .slice none 0 0, .slice none 0 0, .bool false]⟩),
  (109, ⟨.struct [(72, 0, 1), (45, 1, 1), (3, 2, 1), (45, 3, 1), (75, 4, 1), (4, 5, 1)], 6, 112, [.slice none 0 0, .slice none 0 0, .int .i64 0, .slice none 0 0, .slice none 0 0, .bool false]⟩),
  (115, ⟨.struct [(4, 0, 1), (4, 1, 1)], 2, 2, [.bool false, .bool false]⟩),
  (116, ⟨.struct [(4, 0, 1), (4, 1, 1)], 2, 2, [.bool false, .bool false]⟩),
  (120, ⟨.func, 1, 8, [.nilFunc]⟩),
  (121, ⟨.func, 1, 8, [.nilFunc]⟩),
  (135, ⟨.array 0 16, 0, 0, []⟩),
  (138, ⟨.int .u32, 1, 4, [.int .u32 0]⟩),
  (139, ⟨.int .u8, 1, 1, [.int .u8 0]⟩),
  (140, ⟨.int .u8, 1, 1, [.int .u8 0]⟩),
  (141, ⟨.func, 1, 8, [.nilFunc]⟩),
  (142, ⟨.pointer 5, 1, 8, [.pointer none]⟩),
  (143, ⟨.int .i32, 1, 4, [.int .i32 0]⟩),
  (144, ⟨.int .i32, 1, 4, [.int .i32 0]⟩)]

def T : Tab := fun t => Tl.lookup t

@[go_sem] theorem T_1 : T 1 = some ⟨.func, 1, 8, [.nilFunc]⟩ := by rfl
@[go_sem] theorem T_2 : T 2 = some ⟨.int .i64, 1, 8, [.int .i64 0]⟩ := by rfl
@[go_sem] theorem T_3 : T 3 = some ⟨.int .i64, 1, 8, [.int .i64 0]⟩ := by rfl
@[go_sem] theorem T_4 : T 4 = some ⟨.bool, 1, 1, [.bool false]⟩ := by rfl
@[go_sem] theorem T_5 : T 5 = some ⟨.int .u8, 1, 1, [.int .u8 0]⟩ := by rfl
@[go_sem] theorem T_6 : T 6 = some ⟨.int .u8, 1, 1, [.int .u8 0]⟩ := by rfl
@[go_sem] theorem T_9 : T 9 = some ⟨.string, 1, 16, [.string ⟨#[]⟩]⟩ := by rfl
@[go_sem] theorem T_10 : T 10 = some ⟨.string, 1, 16, [.string ⟨#[]⟩]⟩ := by rfl
@[go_sem] theorem T_11 : T 11 = some ⟨.string, 1, 16, [.string ⟨#[]⟩]⟩ := by rfl
@[go_sem] theorem T_12 : T 12 = some ⟨.int .u64, 1, 8, [.int .u64 0]⟩ := by rfl
@[go_sem] theorem T_15 : T 15 = some ⟨.pointer 134, 1, 8, [.pointer none]⟩ := by rfl
@[go_sem] theorem T_16 : T 16 = some ⟨.pointer 137, 1, 8, [.pointer none]⟩ := by rfl
@[go_sem] theorem T_17 : T 17 = some ⟨.pointer 146, 1, 8, [.pointer none]⟩ := by rfl
@[go_sem] theorem T_21 : T 21 = some ⟨.int .i32, 1, 4, [.int .i32 0]⟩ := by rfl
@[go_sem] theorem T_22 : T 22 = some ⟨.int .u64, 1, 8, [.int .u64 0]⟩ := by rfl
@[go_sem] theorem T_26 : T 26 = some ⟨.struct [(4, 0, 1), (22, 1, 1)], 2, 16, [.bool false, .int .u64 0]⟩ := by rfl
@[go_sem] theorem T_27 : T 27 = some ⟨.struct [(4, 0, 1), (22, 1, 1)], 2, 16, [.bool false, .int .u64 0]⟩ := by rfl
@[go_sem] theorem T_28 : T 28 = some ⟨.struct [(9, 0, 1), (22, 1, 1)], 2, 24, [.string ⟨#[]⟩, .int .u64 0]⟩ := by rfl
@[go_sem] theorem T_29 : T 29 = some ⟨.struct [(9, 0, 1), (22, 1, 1)], 2, 24, [.string ⟨#[]⟩, .int .u64 0]⟩ := by rfl
@[go_sem] theorem T_30 : T 30 = some ⟨.slice 29, 1, 24, [.slice none 0 0]⟩ := by rfl
@[go_sem] theorem T_31 : T 31 = some ⟨.struct [(3, 0, 1), (3, 1, 1), (3, 2, 1), (27, 3, 2), (27, 5, 2), (4, 7, 1), (4, 8, 1), (3, 9, 1), (3, 10, 1), (3, 11, 1), (3, 12, 1)], 13, 96, [.int .i64 0, .int .i64 0, .int .i64 0, .bool false, .int .u64 0, .bool false, .int .u64 0, .bool false, .bool false, .int .i64 0, .int .i64 0, .int .i64 0, .int .i64 0]⟩ := by rfl
@[go_sem] theorem T_32 : T 32 = some ⟨.struct [(3, 0, 1), (3, 1, 1), (3, 2, 1), (27, 3, 2), (27, 5, 2), (4, 7, 1), (4, 8, 1), (3, 9, 1), (3, 10, 1), (3, 11, 1), (3, 12, 1)], 13, 96, [.int .i64 0, .int .i64 0, .int .i64 0, .bool false, .int .u64 0, .bool false, .int .u64 0, .bool false, .bool false, .int .i64 0, .int .i64 0, .int .i64 0, .int .i64 0]⟩ := by rfl
@[go_sem] theorem T_33 : T 33 = some ⟨.slice 32, 1, 24, [.slice none 0 0]⟩ := by rfl
@[go_sem] theorem T_34 : T 34 = some ⟨.slice 33, 1, 24, [.slice none 0 0]⟩ := by rfl
@[go_sem] theorem T_35 : T 35 = some ⟨.slice 100, 1, 24, [.slice none 0 0]⟩ := by rfl
@[go_sem] theorem T_36 : T 36 = some ⟨.struct [(30, 0, 1), (34, 1, 1), (35, 2, 1)], 3, 72, [.slice none 0 0, .slice none 0 0, .slice none 0 0]⟩ := by rfl
@[go_sem] theorem T_37 : T 37 = some ⟨.struct [(30, 0, 1), (34, 1, 1), (35, 2, 1)], 3, 72, [.slice none 0 0, .slice none 0 0, .slice none 0 0]⟩ := by rfl
@[go_sem] theorem T_38 : T 38 = some ⟨.pointer 49, 1, 8, [.pointer none]⟩ := by rfl
@[go_sem] theorem T_40 : T 40 = some ⟨.pointer 37, 1, 8, [.pointer none]⟩ := by rfl
@[go_sem] theorem T_41 : T 41 = some ⟨.struct [(4, 0, 1), (22, 1, 1)], 2, 16, [.bool false, .int .u64 0]⟩ := by rfl
@[go_sem] theorem T_42 : T 42 = some ⟨.struct [(4, 0, 1), (22, 1, 1)], 2, 16, [.bool false, .int .u64 0]⟩ := by rfl
@[go_sem] theorem T_43 : T 43 = some ⟨.slice 42, 1, 24, [.slice none 0 0]⟩ := by rfl
@[go_sem] theorem T_44 : T 44 = some ⟨.slice 4, 1, 24, [.slice none 0 0]⟩ := by rfl
@[go_sem] theorem T_45 : T 45 = some ⟨.slice 3, 1, 24, [.slice none 0 0]⟩ := by rfl
@[go_sem] theorem T_46 : T 46 = some ⟨.slice 22, 1, 24, [.slice none 0 0]⟩ := by rfl
@[go_sem] theorem T_47 : T 47 = some ⟨.slice 50, 1, 24, [.slice none 0 0]⟩ := by rfl
@[go_sem] theorem T_48 : T 48 = some ⟨.struct [(45, 0, 1), (43, 1, 1), (45, 2, 1), (46, 3, 1), (46, 4, 1), (46, 5, 1), (46, 6, 1), (47, 7, 1), (4, 8, 1)], 9, 200, [.slice none 0 0, .slice none 0 0, .slice none 0 0, .slice none 0 0, .slice none 0 0, .slice none 0 0, .slice none 0 0, .slice none 0 0, .bool false]⟩ := by rfl
@[go_sem] theorem T_49 : T 49 = some ⟨.struct [(45, 0, 1), (43, 1, 1), (45, 2, 1), (46, 3, 1), (46, 4, 1), (46, 5, 1), (46, 6, 1), (47, 7, 1), (4, 8, 1)], 9, 200, [.slice none 0 0, .slice none 0 0, .slice none 0 0, .slice none 0 0, .slice none 0 0, .slice none 0 0, .slice none 0 0, .slice none 0 0, .bool false]⟩ := by rfl
@[go_sem] theorem T_50 : T 50 = some ⟨.array 8 42, 16, 128, [.bool false, .int .u64 0, .bool false, .int .u64 0, .bool false, .int .u64 0, .bool false, .int .u64 0, .bool false, .int .u64 0, .bool false, .int .u64 0, .bool false, .int .u64 0, .bool false, .int .u64 0]⟩ := by rfl
@[go_sem] theorem T_53 : T 53 = some ⟨.int .i64, 1, 8, [.int .i64 0]⟩ := by rfl
@[go_sem] theorem T_55 : T 55 = some ⟨.slice 103, 1, 24, [.slice none 0 0]⟩ := by rfl
@[go_sem] theorem T_56 : T 56 = some ⟨.slice 104, 1, 24, [.slice none 0 0]⟩ := by rfl
@[go_sem] theorem T_57 : T 57 = some ⟨.slice 106, 1, 24, [.slice none 0 0]⟩ := by rfl
@[go_sem] theorem T_58 : T 58 = some ⟨.struct [(55, 0, 1), (56, 1, 1), (57, 2, 1)], 3, 72, [.slice none 0 0, .slice none 0 0, .slice none 0 0]⟩ := by rfl
@[go_sem] theorem T_59 : T 59 = some ⟨.struct [(55, 0, 1), (56, 1, 1), (57, 2, 1)], 3, 72, [.slice none 0 0, .slice none 0 0, .slice none 0 0]⟩ := by rfl
@[go_sem] theorem T_61 : T 61 = some ⟨.slice 66, 1, 24, [.slice none 0 0]⟩ := by rfl
@[go_sem] theorem T_63 : T 63 = some ⟨.slice 71, 1, 24, [.slice none 0 0]⟩ := by rfl
@[go_sem] theorem T_65 : T 65 = some ⟨.struct [(3, 0, 1), (3, 1, 1)], 2, 16, [.int .i64 0, .int .i64 0]⟩ := by rfl
@[go_sem] theorem T_66 : T 66 = some ⟨.struct [(3, 0, 1), (3, 1, 1)], 2, 16, [.int .i64 0, .int .i64 0]⟩ := by rfl
@[go_sem] theorem T_67 : T 67 = some ⟨.struct [(4, 0, 1), (22, 1, 1)], 2, 16, [.bool false, .int .u64 0]⟩ := by rfl
@[go_sem] theorem T_68 : T 68 = some ⟨.struct [(3, 0, 1), (3, 1, 1), (3, 2, 1), (67, 3, 2), (67, 5, 2), (4, 7, 1), (4, 8, 1), (3, 9, 1), (3, 10, 1), (3, 11, 1), (3, 12, 1)], 13, 96, [.int .i64 0, .int .i64 0, .int .i64 0, .bool false, .int .u64 0, .bool false, .int .u64 0, .bool false, .bool false, .int .i64 0, .int .i64 0, .int .i64 0, .int .i64 0]⟩ := by rfl
@[go_sem] theorem T_69 : T 69 = some ⟨.struct [(3, 0, 1), (3, 1, 1), (3, 2, 1), (67, 3, 2), (67, 5, 2), (4, 7, 1), (4, 8, 1), (3, 9, 1), (3, 10, 1), (3, 11, 1), (3, 12, 1)], 13, 96, [.int .i64 0, .int .i64 0, .int .i64 0, .bool false, .int .u64 0, .bool false, .int .u64 0, .bool false, .bool false, .int .i64 0, .int .i64 0, .int .i64 0, .int .i64 0]⟩ := by rfl
@[go_sem] theorem T_70 : T 70 = some ⟨.struct [(3, 0, 1), (3, 1, 1), (69, 2, 13)], 15, 112, [.int .i64 0, .int .i64 0, .int .i64 0, .int .i64 0, .int .i64 0, .bool false, .int .u64 0, .bool false, .int .u64 0, .bool false, .bool false, .int .i64 0, .int .i64 0, .int .i64 0, .int .i64 0]⟩ := by rfl
@[go_sem] theorem T_71 : T 71 = some ⟨.struct [(3, 0, 1), (3, 1, 1), (69, 2, 13)], 15, 112, [.int .i64 0, .int .i64 0, .int .i64 0, .int .i64 0, .int .i64 0, .bool false, .int .u64 0, .bool false, .int .u64 0, .bool false, .bool false, .int .i64 0, .int .i64 0, .int .i64 0, .int .i64 0]⟩ := by rfl
@[go_sem] theorem T_72 : T 72 = some ⟨.slice 82, 1, 24, [.slice none 0 0]⟩ := by rfl
@[go_sem] theorem T_75 : T 75 = some ⟨.slice 84, 1, 24, [.slice none 0 0]⟩ := by rfl
@[go_sem] theorem T_76 : T 76 = some ⟨.slice 72, 1, 24, [.slice none 0 0]⟩ := by rfl
@[go_sem] theorem T_77 : T 77 = some ⟨.slice 45, 1, 24, [.slice none 0 0]⟩ := by rfl
@[go_sem] theorem T_78 : T 78 = some ⟨.struct [(75, 0, 1), (76, 1, 1), (77, 2, 1), (4, 3, 1)], 4, 80, [.slice none 0 0, .slice none 0 0, .slice none 0 0, .bool false]⟩ := by rfl
@[go_sem] theorem T_79 : T 79 = some ⟨.struct [(75, 0, 1), (76, 1, 1), (77, 2, 1), (4, 3, 1)], 4, 80, [.slice none 0 0, .slice none 0 0, .slice none 0 0, .bool false]⟩ := by rfl
@[go_sem] theorem T_81 : T 81 = some ⟨.struct [(4, 0, 1), (22, 1, 1), (45, 2, 1)], 3, 40, [.bool false, .int .u64 0, .slice none 0 0]⟩ := by rfl
@[go_sem] theorem T_82 : T 82 = some ⟨.struct [(4, 0, 1), (22, 1, 1), (45, 2, 1)], 3, 40, [.bool false, .int .u64 0, .slice none 0 0]⟩ := by rfl
@[go_sem] theorem T_83 : T 83 = some ⟨.struct [(3, 0, 1), (3, 1, 1), (82, 2, 3), (45, 5, 1), (45, 6, 1), (45, 7, 1)], 8, 128, [.int .i64 0, .int .i64 0, .bool false, .int .u64 0, .slice none 0 0, .slice none 0 0, .slice none 0 0, .slice none 0 0]⟩ := by rfl
@[go_sem] theorem T_84 : T 84 = some ⟨.struct [(3, 0, 1), (3, 1, 1), (82, 2, 3), (45, 5, 1), (45, 6, 1), (45, 7, 1)], 8, 128, [.int .i64 0, .int .i64 0, .bool false, .int .u64 0, .slice none 0 0, .slice none 0 0, .slice none 0 0, .slice none 0 0]⟩ := by rfl
@[go_sem] theorem T_91 : T 91 = some ⟨.pointer 94, 1, 8, [.pointer none]⟩ := by rfl
@[go_sem] theorem T_92 : T 92 = some ⟨.array 8 22, 8, 64, [.int .u64 0, .int .u64 0, .int .u64 0, .int .u64 0, .int .u64 0, .int .u64 0, .int .u64 0, .int .u64 0]⟩ := by rfl
@[go_sem] theorem T_93 : T 93 = some ⟨.struct [(38, 0, 1), (50, 1, 16), (92, 17, 8), (22, 25, 1), (22, 26, 1), (3, 27, 1), (3, 28, 1)], 29, 232, [.pointer none, .bool false, .int .u64 0, .bool false, .int .u64 0, .bool false, .int .u64 0, .bool false, .int .u64 0, .bool false, .int .u64 0, .bool false, .int .u64 0, .bool false, .int .u64 0, .bool false, .int .u64 0, .int .u64 0, .int .u64 0, .int .u64 0, .int .u64 0, .int .u64 0, .int .u64 0, .int .u64 0, .int .u64 0, .int .u64 0, .int .u64 0, .int .i64 0, .int .i64 0]⟩ := by rfl
@[go_sem] theorem T_94 : T 94 = some ⟨.struct [(38, 0, 1), (50, 1, 16), (92, 17, 8), (22, 25, 1), (22, 26, 1), (3, 27, 1), (3, 28, 1)], 29, 232, [.pointer none, .bool false, .int .u64 0, .bool false, .int .u64 0, .bool false, .int .u64 0, .bool false, .int .u64 0, .bool false, .int .u64 0, .bool false, .int .u64 0, .bool false, .int .u64 0, .bool false, .int .u64 0, .int .u64 0, .int .u64 0, .int .u64 0, .int .u64 0, .int .u64 0, .int .u64 0, .int .u64 0, .int .u64 0, .int .u64 0, .int .u64 0, .int .i64 0, .int .i64 0]⟩ := by rfl
@[go_sem] theorem T_99 : T 99 = some ⟨.struct [(3, 0, 1), (3, 1, 1), (22, 2, 1)], 3, 24, [.int .i64 0, .int .i64 0, .int .u64 0]⟩ := by rfl
@[go_sem] theorem T_100 : T 100 = some ⟨.struct [(3, 0, 1), (3, 1, 1), (22, 2, 1)], 3, 24, [.int .i64 0, .int .i64 0, .int .u64 0]⟩ := by rfl
@[go_sem] theorem T_103 : T 103 = some ⟨.struct [(9, 0, 1), (22, 1, 1)], 2, 24, [.string ⟨#[]⟩, .int .u64 0]⟩ := by rfl
@[go_sem] theorem T_104 : T 104 = some ⟨.slice 69, 1, 24, [.slice none 0 0]⟩ := by rfl
@[go_sem] theorem T_106 : T 106 = some ⟨.struct [(3, 0, 1), (3, 1, 1), (22, 2, 1)], 3, 24, [.int .i64 0, .int .i64 0, .int .u64 0]⟩ := by rfl
@[go_sem] theorem T_108 : T 108 = some ⟨.struct [(72, 0, 1), (45, 1, 1), (3, 2, 1), (45, 3, 1), (75, 4, 1), (4, 5, 1)], 6, 112, [.slice none 0 0, .slice none 0 0, .int .i64 0, .slice none 0 0, .slice none 0 0, .bool false]⟩ := by rfl
@[go_sem] theorem T_109 : T 109 = some ⟨.struct [(72, 0, 1), (45, 1, 1), (3, 2, 1), (45, 3, 1), (75, 4, 1), (4, 5, 1)], 6, 112, [.slice none 0 0, .slice none 0 0, .int .i64 0, .slice none 0 0, .slice none 0 0, .bool false]⟩ := by rfl
@[go_sem] theorem T_115 : T 115 = some ⟨.struct [(4, 0, 1), (4, 1, 1)], 2, 2, [.bool false, .bool false]⟩ := by rfl
@[go_sem] theorem T_116 : T 116 = some ⟨.struct [(4, 0, 1), (4, 1, 1)], 2, 2, [.bool false, .bool false]⟩ := by rfl
@[go_sem] theorem T_120 : T 120 = some ⟨.func, 1, 8, [.nilFunc]⟩ := by rfl
@[go_sem] theorem T_121 : T 121 = some ⟨.func, 1, 8, [.nilFunc]⟩ := by rfl
@[go_sem] theorem T_135 : T 135 = some ⟨.array 0 16, 0, 0, []⟩ := by rfl
@[go_sem] theorem T_138 : T 138 = some ⟨.int .u32, 1, 4, [.int .u32 0]⟩ := by rfl
@[go_sem] theorem T_139 : T 139 = some ⟨.int .u8, 1, 1, [.int .u8 0]⟩ := by rfl
@[go_sem] theorem T_140 : T 140 = some ⟨.int .u8, 1, 1, [.int .u8 0]⟩ := by rfl
@[go_sem] theorem T_141 : T 141 = some ⟨.func, 1, 8, [.nilFunc]⟩ := by rfl
@[go_sem] theorem T_142 : T 142 = some ⟨.pointer 5, 1, 8, [.pointer none]⟩ := by rfl
@[go_sem] theorem T_143 : T 143 = some ⟨.int .i32, 1, 4, [.int .i32 0]⟩ := by rfl
@[go_sem] theorem T_144 : T 144 = some ⟨.int .i32, 1, 4, [.int .i32 0]⟩ := by rfl

theorem Ti_1 : tiOf Try.prog 1 = some ⟨.func, 1, 8, [.nilFunc]⟩ := by kernel_rfl
theorem Ti_2 : tiOf Try.prog 2 = some ⟨.int .i64, 1, 8, [.int .i64 0]⟩ := by kernel_rfl
theorem Ti_3 : tiOf Try.prog 3 = some ⟨.int .i64, 1, 8, [.int .i64 0]⟩ := by kernel_rfl
theorem Ti_4 : tiOf Try.prog 4 = some ⟨.bool, 1, 1, [.bool false]⟩ := by kernel_rfl
theorem Ti_5 : tiOf Try.prog 5 = some ⟨.int .u8, 1, 1, [.int .u8 0]⟩ := by kernel_rfl
theorem Ti_6 : tiOf Try.prog 6 = some ⟨.int .u8, 1, 1, [.int .u8 0]⟩ := by kernel_rfl
theorem Ti_9 : tiOf Try.prog 9 = some ⟨.string, 1, 16, [.string ⟨#[]⟩]⟩ := by kernel_rfl
theorem Ti_10 : tiOf Try.prog 10 = some ⟨.string, 1, 16, [.string ⟨#[]⟩]⟩ := by kernel_rfl
theorem Ti_11 : tiOf Try.prog 11 = some ⟨.string, 1, 16, [.string ⟨#[]⟩]⟩ := by kernel_rfl
theorem Ti_12 : tiOf Try.prog 12 = some ⟨.int .u64, 1, 8, [.int .u64 0]⟩ := by kernel_rfl
theorem Ti_15 : tiOf Try.prog 15 = some ⟨.pointer 134, 1, 8, [.pointer none]⟩ := by kernel_rfl
theorem Ti_16 : tiOf Try.prog 16 = some ⟨.pointer 137, 1, 8, [.pointer none]⟩ := by kernel_rfl
theorem Ti_17 : tiOf Try.prog 17 = some ⟨.pointer 146, 1, 8, [.pointer none]⟩ := by kernel_rfl
theorem Ti_21 : tiOf Try.prog 21 = some ⟨.int .i32, 1, 4, [.int .i32 0]⟩ := by kernel_rfl
theorem Ti_22 : tiOf Try.prog 22 = some ⟨.int .u64, 1, 8, [.int .u64 0]⟩ := by kernel_rfl
theorem Ti_26 : tiOf Try.prog 26 = some ⟨.struct [(4, 0, 1), (22, 1, 1)], 2, 16, [.bool false, .int .u64 0]⟩ := by kernel_rfl
theorem Ti_27 : tiOf Try.prog 27 = some ⟨.struct [(4, 0, 1), (22, 1, 1)], 2, 16, [.bool false, .int .u64 0]⟩ := by kernel_rfl
theorem Ti_28 : tiOf Try.prog 28 = some ⟨.struct [(9, 0, 1), (22, 1, 1)], 2, 24, [.string ⟨#[]⟩, .int .u64 0]⟩ := by kernel_rfl
theorem Ti_29 : tiOf Try.prog 29 = some ⟨.struct [(9, 0, 1), (22, 1, 1)], 2, 24, [.string ⟨#[]⟩, .int .u64 0]⟩ := by kernel_rfl
theorem Ti_30 : tiOf Try.prog 30 = some ⟨.slice 29, 1, 24, [.slice none 0 0]⟩ := by kernel_rfl
theorem Ti_31 : tiOf Try.prog 31 = some ⟨.struct [(3, 0, 1), (3, 1, 1), (3, 2, 1), (27, 3, 2), (27, 5, 2), (4, 7, 1), (4, 8, 1), (3, 9, 1), (3, 10, 1), (3, 11, 1), (3, 12, 1)], 13, 96, [.int .i64 0, .int .i64 0, .int .i64 0, .bool false, .int .u64 0, .bool false, .int .u64 0, .bool false, .bool false, .int .i64 0, .int .i64 0, .int .i64 0, .int .i64 0]⟩ := by kernel_rfl
theorem Ti_32 : tiOf Try.prog 32 = some ⟨.struct [(3, 0, 1), (3, 1, 1), (3, 2, 1), (27, 3, 2), (27, 5, 2), (4, 7, 1), (4, 8, 1), (3, 9, 1), (3, 10, 1), (3, 11, 1), (3, 12, 1)], 13, 96, [.int .i64 0, .int .i64 0, .int .i64 0, .bool false, .int .u64 0, .bool false, .int .u64 0, .bool false, .bool false, .int .i64 0, .int .i64 0, .int .i64 0, .int .i64 0]⟩ := by kernel_rfl
theorem Ti_33 : tiOf Try.prog 33 = some ⟨.slice 32, 1, 24, [.slice none 0 0]⟩ := by kernel_rfl
theorem Ti_34 : tiOf Try.prog 34 = some ⟨.slice 33, 1, 24, [.slice none 0 0]⟩ := by kernel_rfl
theorem Ti_35 : tiOf Try.prog 35 = some ⟨.slice 100, 1, 24, [.slice none 0 0]⟩ := by kernel_rfl
theorem Ti_36 : tiOf Try.prog 36 = some ⟨.struct [(30, 0, 1), (34, 1, 1), (35, 2, 1)], 3, 72, [.slice none 0 0, .slice none 0 0, .slice none 0 0]⟩ := by kernel_rfl
theorem Ti_37 : tiOf Try.prog 37 = some ⟨.struct [(30, 0, 1), (34, 1, 1), (35, 2, 1)], 3, 72, [.slice none 0 0, .slice none 0 0, .slice none 0 0]⟩ := by kernel_rfl
theorem Ti_38 : tiOf Try.prog 38 = some ⟨.pointer 49, 1, 8, [.pointer none]⟩ := by kernel_rfl
theorem Ti_40 : tiOf Try.prog 40 = some ⟨.pointer 37, 1, 8, [.pointer none]⟩ := by kernel_rfl
theorem Ti_41 : tiOf Try.prog 41 = some ⟨.struct [(4, 0, 1), (22, 1, 1)], 2, 16, [.bool false, .int .u64 0]⟩ := by kernel_rfl
theorem Ti_42 : tiOf Try.prog 42 = some ⟨.struct [(4, 0, 1), (22, 1, 1)], 2, 16, [.bool false, .int .u64 0]⟩ := by kernel_rfl
theorem Ti_43 : tiOf Try.prog 43 = some ⟨.slice 42, 1, 24, [.slice none 0 0]⟩ := by kernel_rfl
theorem Ti_44 : tiOf Try.prog 44 = some ⟨.slice 4, 1, 24, [.slice none 0 0]⟩ := by kernel_rfl
theorem Ti_45 : tiOf Try.prog 45 = some ⟨.slice 3, 1, 24, [.slice none 0 0]⟩ := by kernel_rfl
theorem Ti_46 : tiOf Try.prog 46 = some ⟨.slice 22, 1, 24, [.slice none 0 0]⟩ := by kernel_rfl
theorem Ti_47 : tiOf Try.prog 47 = some ⟨.slice 50, 1, 24, [.slice none 0 0]⟩ := by kernel_rfl
theorem Ti_48 : tiOf Try.prog 48 = some ⟨.struct [(45, 0, 1), (43, 1, 1), (45, 2, 1), (46, 3, 1), (46, 4, 1), (46, 5, 1), (46, 6, 1), (47, 7, 1), (4, 8, 1)], 9, 200, [.slice none 0 0, .slice none 0 0, .slice none 0 0, .slice none 0 0, .slice none 0 0, .slice none 0 0, .slice none 0 0, .slice none 0 0, .bool false]⟩ := by kernel_rfl
theorem Ti_49 : tiOf Try.prog 49 = some ⟨.struct [(45, 0, 1), (43, 1, 1), (45, 2, 1), (46, 3, 1), (46, 4, 1), (46, 5, 1), (46, 6, 1), (47, 7, 1), (4, 8, 1)], 9, 200, [.slice none 0 0, .slice none 0 0, .slice none 0 0, .slice none 0 0, .slice none 0 0, .slice none 0 0, .slice none 0 0, .slice none 0 0, .bool false]⟩ := by kernel_rfl
theorem Ti_50 : tiOf Try.prog 50 = some ⟨.array 8 42, 16, 128, [.bool false, .int .u64 0, .bool false, .int .u64 0, .bool false, .int .u64 0, .bool false, .int .u64 0, .bool false, .int .u64 0, .bool false, .int .u64 0, .bool false, .int .u64 0, .bool false, .int .u64 0]⟩ := by kernel_rfl
theorem Ti_53 : tiOf Try.prog 53 = some ⟨.int .i64, 1, 8, [.int .i64 0]⟩ := by kernel_rfl
theorem Ti_55 : tiOf Try.prog 55 = some ⟨.slice 103, 1, 24, [.slice none 0 0]⟩ := by kernel_rfl
theorem Ti_56 : tiOf Try.prog 56 = some ⟨.slice 104, 1, 24, [.slice none 0 0]⟩ := by kernel_rfl
theorem Ti_57 : tiOf Try.prog 57 = some ⟨.slice 106, 1, 24, [.slice none 0 0]⟩ := by kernel_rfl
theorem Ti_58 : tiOf Try.prog 58 = some ⟨.struct [(55, 0, 1), (56, 1, 1), (57, 2, 1)], 3, 72, [.slice none 0 0, .slice none 0 0, .slice none 0 0]⟩ := by kernel_rfl
theorem Ti_59 : tiOf Try.prog 59 = some ⟨.struct [(55, 0, 1), (56, 1, 1), (57, 2, 1)], 3, 72, [.slice none 0 0, .slice none 0 0, .slice none 0 0]⟩ := by kernel_rfl
theorem Ti_61 : tiOf Try.prog 61 = some ⟨.slice 66, 1, 24, [.slice none 0 0]⟩ := by kernel_rfl
theorem Ti_63 : tiOf Try.prog 63 = some ⟨.slice 71, 1, 24, [.slice none 0 0]⟩ := by kernel_rfl
theorem Ti_65 : tiOf Try.prog 65 = some ⟨.struct [(3, 0, 1), (3, 1, 1)], 2, 16, [.int .i64 0, .int .i64 0]⟩ := by kernel_rfl
theorem Ti_66 : tiOf Try.prog 66 = some ⟨.struct [(3, 0, 1), (3, 1, 1)], 2, 16, [.int .i64 0, .int .i64 0]⟩ := by kernel_rfl
theorem Ti_67 : tiOf Try.prog 67 = some ⟨.struct [(4, 0, 1), (22, 1, 1)], 2, 16, [.bool false, .int .u64 0]⟩ := by kernel_rfl
theorem Ti_68 : tiOf Try.prog 68 = some ⟨.struct [(3, 0, 1), (3, 1, 1), (3, 2, 1), (67, 3, 2), (67, 5, 2), (4, 7, 1), (4, 8, 1), (3, 9, 1), (3, 10, 1), (3, 11, 1), (3, 12, 1)], 13, 96, [.int .i64 0, .int .i64 0, .int .i64 0, .bool false, .int .u64 0, .bool false, .int .u64 0, .bool false, .bool false, .int .i64 0, .int .i64 0, .int .i64 0, .int .i64 0]⟩ := by kernel_rfl
theorem Ti_69 : tiOf Try.prog 69 = some ⟨.struct [(3, 0, 1), (3, 1, 1), (3, 2, 1), (67, 3, 2), (67, 5, 2), (4, 7, 1), (4, 8, 1), (3, 9, 1), (3, 10, 1), (3, 11, 1), (3, 12, 1)], 13, 96, [.int .i64 0, .int .i64 0, .int .i64 0, .bool false, .int .u64 0, .bool false, .int .u64 0, .bool false, .bool false, .int .i64 0, .int .i64 0, .int .i64 0, .int .i64 0]⟩ := by kernel_rfl
theorem Ti_70 : tiOf Try.prog 70 = some ⟨.struct [(3, 0, 1), (3, 1, 1), (69, 2, 13)], 15, 112, [.int .i64 0, .int .i64 0, .int .i64 0, .int .i64 0, .int .i64 0, .bool false, .int .u64 0, .bool false, .int .u64 0, .bool false, .bool false, .int .i64 0, .int .i64 0, .int .i64 0, .int .i64 0]⟩ := by kernel_rfl
theorem Ti_71 : tiOf Try.prog 71 = some ⟨.struct [(3, 0, 1), (3, 1, 1), (69, 2, 13)], 15, 112, [.int .i64 0, .int .i64 0, .int .i64 0, .int .i64 0, .int .i64 0, .bool false, .int .u64 0, .bool false, .int .u64 0, .bool false, .bool false, .int .i64 0, .int .i64 0, .int .i64 0, .int .i64 0]⟩ := by kernel_rfl
theorem Ti_72 : tiOf Try.prog 72 = some ⟨.slice 82, 1, 24, [.slice none 0 0]⟩ := by kernel_rfl
theorem Ti_75 : tiOf Try.prog 75 = some ⟨.slice 84, 1, 24, [.slice none 0 0]⟩ := by kernel_rfl
theorem Ti_76 : tiOf Try.prog 76 = some ⟨.slice 72, 1, 24, [.slice none 0 0]⟩ := by kernel_rfl
theorem Ti_77 : tiOf Try.prog 77 = some ⟨.slice 45, 1, 24, [.slice none 0 0]⟩ := by kernel_rfl
theorem Ti_78 : tiOf Try.prog 78 = some ⟨.struct [(75, 0, 1), (76, 1, 1), (77, 2, 1), (4, 3, 1)], 4, 80, [.slice none 0 0, .slice none 0 0, .slice none 0 0, .bool false]⟩ := by kernel_rfl
theorem Ti_79 : tiOf Try.prog 79 = some ⟨.struct [(75, 0, 1), (76, 1, 1), (77, 2, 1), (4, 3, 1)], 4, 80, [.slice none 0 0, .slice none 0 0, .slice none 0 0, .bool false]⟩ := by kernel_rfl
theorem Ti_81 : tiOf Try.prog 81 = some ⟨.struct [(4, 0, 1), (22, 1, 1), (45, 2, 1)], 3, 40, [.bool false, .int .u64 0, .slice none 0 0]⟩ := by kernel_rfl
theorem Ti_82 : tiOf Try.prog 82 = some ⟨.struct [(4, 0, 1), (22, 1, 1), (45, 2, 1)], 3, 40, [.bool false, .int .u64 0, .slice none 0 0]⟩ := by kernel_rfl
theorem Ti_83 : tiOf Try.prog 83 = some ⟨.struct [(3, 0, 1), (3, 1, 1), (82, 2, 3), (45, 5, 1), (45, 6, 1), (45, 7, 1)], 8, 128, [.int .i64 0, .int .i64 0, .bool false, .int .u64 0, .slice none 0 0, .slice none 0 0, .slice none 0 0, .slice none 0 0]⟩ := by kernel_rfl
theorem Ti_84 : tiOf Try.prog 84 = some ⟨.struct [(3, 0, 1), (3, 1, 1), (82, 2, 3), (45, 5, 1), (45, 6, 1), (45, 7, 1)], 8, 128, [.int .i64 0, .int .i64 0, .bool false, .int .u64 0, .slice none 0 0, .slice none 0 0, .slice none 0 0, .slice none 0 0]⟩ := by kernel_rfl
theorem Ti_91 : tiOf Try.prog 91 = some ⟨.pointer 94, 1, 8, [.pointer none]⟩ := by kernel_rfl
theorem Ti_92 : tiOf Try.prog 92 = some ⟨.array 8 22, 8, 64, [.int .u64 0, .int .u64 0, .int .u64 0, .int .u64 0, .int .u64 0, .int .u64 0, .int .u64 0, .int .u64 0]⟩ := by kernel_rfl
theorem Ti_93 : tiOf Try.prog 93 = some ⟨.struct [(38, 0, 1), (50, 1, 16), (92, 17, 8), (22, 25, 1), (22, 26, 1), (3, 27, 1), (3, 28, 1)], 29, 232, [.pointer none, .bool false, .int .u64 0, .bool false, .int .u64 0, .bool false, .int .u64 0, .bool false, .int .u64 0, .bool false, .int .u64 0, .bool false, .int .u64 0, .bool false, .int .u64 0, .bool false, .int .u64 0, .int .u64 0, .int .u64 0, .int .u64 0, .int .u64 0, .int .u64 0, .int .u64 0, .int .u64 0, .int .u64 0, .int .u64 0, .int .u64 0, .int .i64 0, .int .i64 0]⟩ := by kernel_rfl
theorem Ti_94 : tiOf Try.prog 94 = some ⟨.struct [(38, 0, 1), (50, 1, 16), (92, 17, 8), (22, 25, 1), (22, 26, 1), (3, 27, 1), (3, 28, 1)], 29, 232, [.pointer none, .bool false, .int .u64 0, .bool false, .int .u64 0, .bool false, .int .u64 0, .bool false, .int .u64 0, .bool false, .int .u64 0, .bool false, .int .u64 0, .bool false, .int .u64 0, .bool false, .int .u64 0, .int .u64 0, .int .u64 0, .int .u64 0, .int .u64 0, .int .u64 0, .int .u64 0, .int .u64 0, .int .u64 0, .int .u64 0, .int .u64 0, .int .i64 0, .int .i64 0]⟩ := by kernel_rfl
theorem Ti_99 : tiOf Try.prog 99 = some ⟨.struct [(3, 0, 1), (3, 1, 1), (22, 2, 1)], 3, 24, [.int .i64 0, .int .i64 0, .int .u64 0]⟩ := by kernel_rfl
theorem Ti_100 : tiOf Try.prog 100 = some ⟨.struct [(3, 0, 1), (3, 1, 1), (22, 2, 1)], 3, 24, [.int .i64 0, .int .i64 0, .int .u64 0]⟩ := by kernel_rfl
theorem Ti_103 : tiOf Try.prog 103 = some ⟨.struct [(9, 0, 1), (22, 1, 1)], 2, 24, [.string ⟨#[]⟩, .int .u64 0]⟩ := by kernel_rfl
theorem Ti_104 : tiOf Try.prog 104 = some ⟨.slice 69, 1, 24, [.slice none 0 0]⟩ := by kernel_rfl
theorem Ti_106 : tiOf Try.prog 106 = some ⟨.struct [(3, 0, 1), (3, 1, 1), (22, 2, 1)], 3, 24, [.int .i64 0, .int .i64 0, .int .u64 0]⟩ := by kernel_rfl
theorem Ti_108 : tiOf Try.prog 108 = some ⟨.struct [(72, 0, 1), (45, 1, 1), (3, 2, 1), (45, 3, 1), (75, 4, 1), (4, 5, 1)], 6, 112, [.slice none 0 0, .slice none 0 0, .int .i64 0, .slice none 0 0, .slice none 0 0, .bool false]⟩ := by kernel_rfl
theorem Ti_109 : tiOf Try.prog 109 = some ⟨.struct [(72, 0, 1), (45, 1, 1), (3, 2, 1), (45, 3, 1), (75, 4, 1), (4, 5, 1)], 6, 112, [.slice none 0 0, .slice none 0 0, .int .i64 0, .slice none 0 0, .slice none 0 0, .bool false]⟩ := by kernel_rfl
theorem Ti_115 : tiOf Try.prog 115 = some ⟨.struct [(4, 0, 1), (4, 1, 1)], 2, 2, [.bool false, .bool false]⟩ := by kernel_rfl
theorem Ti_116 : tiOf Try.prog 116 = some ⟨.struct [(4, 0, 1), (4, 1, 1)], 2, 2, [.bool false, .bool false]⟩ := by kernel_rfl
theorem Ti_120 : tiOf Try.prog 120 = some ⟨.func, 1, 8, [.nilFunc]⟩ := by kernel_rfl
theorem Ti_121 : tiOf Try.prog 121 = some ⟨.func, 1, 8, [.nilFunc]⟩ := by kernel_rfl
theorem Ti_135 : tiOf Try.prog 135 = some ⟨.array 0 16, 0, 0, []⟩ := by kernel_rfl
theorem Ti_138 : tiOf Try.prog 138 = some ⟨.int .u32, 1, 4, [.int .u32 0]⟩ := by kernel_rfl
theorem Ti_139 : tiOf Try.prog 139 = some ⟨.int .u8, 1, 1, [.int .u8 0]⟩ := by kernel_rfl
theorem Ti_140 : tiOf Try.prog 140 = some ⟨.int .u8, 1, 1, [.int .u8 0]⟩ := by kernel_rfl
theorem Ti_141 : tiOf Try.prog 141 = some ⟨.func, 1, 8, [.nilFunc]⟩ := by kernel_rfl
theorem Ti_142 : tiOf Try.prog 142 = some ⟨.pointer 5, 1, 8, [.pointer none]⟩ := by kernel_rfl
theorem Ti_143 : tiOf Try.prog 143 = some ⟨.int .i32, 1, 4, [.int .i32 0]⟩ := by kernel_rfl
theorem Ti_144 : tiOf Try.prog 144 = some ⟨.int .i32, 1, 4, [.int .i32 0]⟩ := by kernel_rfl

theorem mem_lookup {t : Nat} {ti : TI} : ∀ {l : List (Nat × TI)}, l.lookup t = some ti → (t, ti) ∈ l
  | [], h => by simp at h
  | (s, x) :: r, h => by
    rw [List.lookup_cons] at h
    split at h
    · rename_i e
      cases h
      rw [eq_of_beq e]; simp
    · exact List.mem_cons_of_mem _ (mem_lookup h)

theorem all_cons {Q : Nat × TI → Prop} {x : Nat × TI} {l : List (Nat × TI)} (h : Q x) (hs : ∀ p ∈ l, Q p) : ∀ p ∈ x :: l, Q p := fun p hp => by
  rcases List.mem_cons.1 hp with rfl | hp
  · exact h
  · exact hs p hp
theorem all_nil {Q : Nat × TI → Prop} : ∀ p ∈ ([] : List (Nat × TI)), Q p := fun p hp => by simp at hp

set_option maxRecDepth 100000 in
theorem Tl_ok : ∀ p ∈ Tl, tiOf Try.prog p.1 = some p.2 :=
  all_cons Ti_1 <| all_cons Ti_2 <| all_cons Ti_3 <| all_cons Ti_4 <| all_cons Ti_5 <| all_cons Ti_6 <| all_cons Ti_9 <| all_cons Ti_10 <| all_cons Ti_11 <| all_cons Ti_12 <| all_cons Ti_15 <| all_cons Ti_16 <| all_cons Ti_17 <| all_cons Ti_21 <| all_cons Ti_22 <| all_cons Ti_26 <| all_cons Ti_27 <| all_cons Ti_28 <| all_cons Ti_29 <| all_cons Ti_30 <| all_cons Ti_31 <| all_cons Ti_32 <| all_cons Ti_33 <| all_cons Ti_34 <| all_cons Ti_35 <| all_cons Ti_36 <| all_cons Ti_37 <| all_cons Ti_38 <| all_cons Ti_40 <| all_cons Ti_41 <| all_cons Ti_42 <| all_cons Ti_43 <| all_cons Ti_44 <| all_cons Ti_45 <| all_cons Ti_46 <| all_cons Ti_47 <| all_cons Ti_48 <| all_cons Ti_49 <| all_cons Ti_50 <| all_cons Ti_53 <| all_cons Ti_55 <| all_cons Ti_56 <| all_cons Ti_57 <| all_cons Ti_58 <| all_cons Ti_59 <| all_cons Ti_61 <| all_cons Ti_63 <| all_cons Ti_65 <| all_cons Ti_66 <| all_cons Ti_67 <| all_cons Ti_68 <| all_cons Ti_69 <| all_cons Ti_70 <| all_cons Ti_71 <| all_cons Ti_72 <| all_cons Ti_75 <| all_cons Ti_76 <| all_cons Ti_77 <| all_cons Ti_78 <| all_cons Ti_79 <| all_cons Ti_81 <| all_cons Ti_82 <| all_cons Ti_83 <| all_cons Ti_84 <| all_cons Ti_91 <| all_cons Ti_92 <| all_cons Ti_93 <| all_cons Ti_94 <| all_cons Ti_99 <| all_cons Ti_100 <| all_cons Ti_103 <| all_cons Ti_104 <| all_cons Ti_106 <| all_cons Ti_108 <| all_cons Ti_109 <| all_cons Ti_115 <| all_cons Ti_116 <| all_cons Ti_120 <| all_cons Ti_121 <| all_cons Ti_135 <| all_cons Ti_138 <| all_cons Ti_139 <| all_cons Ti_140 <| all_cons Ti_141 <| all_cons Ti_142 <| all_cons Ti_143 <| all_cons Ti_144 <| all_nil 

theorem T_ok : TabOk Try.prog T := fun t ti h => Tl_ok (t, ti) (mem_lookup h)
end Go.Proofs.Try
/- The rules in the form in which they are used. -/
namespace Go.Sl

section
variable {F : Nat → Prop} {ι ι' : Names} {O : Nat → Prop} {H H' : Heap} {σ σ' : St} {a a' : Act} {w w' : World} {P : Program} {T : Tab} {Q : Exit → St → Prop}

theorem seq_k {x y : Code} (h : ∀ K : St → Prop, (∀ σ', Tr P y Q σ' → K σ') → Tr P x (Then K Q) σ) : Tr P (.seq x y) Q σ := tr_seq (h _ fun _ h => h)

/-- a region, then what is behind it -/
theorem region_k (hT : TabOk P T) {id : Nat} {l : List Oper} {y : Code} {N k : Nat} {t : List (Nat × V)} {H : Heap} (hN : dstsLt l N = true)
    (h : ∀ K : St → Prop, (∀ σ', Tr P y Q σ' → K σ') → vcL T P l N l K t H k) : Tr P (.seq (.region id l.toArray false) y) Q ⟨N, t, H, k⟩ :=
  tr_seq (tr_region hT hN (h _ fun _ h => h))

theorem cond_k {c : Operand} {x y : Code} {b : Bool} (hc : evalV σ.t c = .val (.bool b)) (ht : b = true → Tr P x Q σ) (hf : b = false → Tr P y Q σ) : Tr P (.cond c x y) Q σ := tr_cond hc ht hf

theorem fn_in (hT : TabOk P T) {f : FuncId} {fn : Func} {c : Code} {args : List V} {k : Nat} {K : V → Heap → Nat → Prop} {rs : List ResultVar} {N : Nat} (hf : P.funcs[f]? = some fn) (hb : fn.body = some c) (hname : (fn.name == "runtime.NumGoroutine") = false) (hNn : fn.ntmps = N) (hr : fn.results = rs.toArray)
    (hN : args.length ≤ N) (h : Tr P c (Ends T rs K) ⟨N, initT 0 args, H, k⟩) : Fn P f args H k K := by
  subst hNn
  refine fn_intro hT hf hb hname hN ?_
  rw [hr]; exact h

end

/-! what is not looked into before its turn comes -/
section
variable {H H' : Heap} {ti ti' : TI} {x x' y y' : V} {K : V → Prop} {KH : Heap → Prop} {KA : V → Heap → Nat → Prop} {d d' : D} {T : Tab}
@[congr] theorem loadV_congr (h1 : H = H') (h3 : x = x') : loadV H ti x K = loadV H' ti x' K := by rw [h1, h3]
@[congr] theorem storeV_congr (h1 : H = H') (h3 : x = x') (h4 : y = y') : storeV H ti x y KH = storeV H' ti x' y' KH := by rw [h1, h3, h4]
@[congr] theorem indexAddrV_congr (h1 : H = H') (h2 : d = d') (h3 : x = x') (h4 : y = y') : indexAddrV T H d x y K = indexAddrV T H' d' x' y' K := by rw [h1, h2, h3, h4]
@[congr] theorem indexV_congr (h2 : d = d') (h3 : x = x') (h4 : y = y') : indexV T d x y K = indexV T d' x' y' K := by rw [h2, h3, h4]
@[congr] theorem fieldAddrV_congr {f : Nat} (h2 : d = d') (h3 : x = x') : fieldAddrV T d x f K = fieldAddrV T d' x' f K := by rw [h2, h3]
@[congr] theorem fieldV_congr {f : Nat} (h2 : d = d') (h3 : x = x') : fieldV T d x f K = fieldV T d' x' f K := by rw [h2, h3]
@[congr] theorem binIV_congr {op : BinOp} {k : IntKind} {m m' n n' : Int} (h3 : m = m') (h4 : n = n') : binIV op k m n K = binIV op k m' n' K := by rw [h3, h4]
@[congr] theorem shIV_congr {op : BinOp} {k : IntKind} {m m' n n' : Int} (h3 : m = m') (h4 : n = n') : shIV op k m n K = shIV op k m' n' K := by rw [h3, h4]
@[congr] theorem binV_congr {op : BinOp} {t : TypeId} (h3 : x = x') (h4 : y = y') : binV T op t x y K = binV T op t x' y' K := by rw [h3, h4]
@[congr] theorem eqV_congr {op : BinOp} {sp sp' : Option (List EK)} {cs cs' ds ds' : List V} (h1 : sp = sp') (h2 : cs = cs') (h3 : ds = ds') : eqV sp op cs ds K = eqV sp' op cs' ds' K := by rw [h1, h2, h3]
@[congr] theorem ptrV_congr {op : BinOp} {t : TypeId} : ptrV T op t K = ptrV T op t K := rfl
@[congr] theorem makeV_congr {ty : TypeId} {k k' : Nat} (h1 : x = x') (h2 : y = y') (h3 : H = H') (h4 : k = k') : makeV T ty x y k H KA = makeV T ty x' y' k' H' KA := by rw [h1, h2, h3, h4]
@[congr] theorem sliceV_congr {lo hi : Nat → Option Int} (h1 : H = H') (h3 : x = x') : sliceV H ti x lo hi K = sliceV H' ti x' lo hi K := by rw [h1, h3]
@[congr] theorem appendV_congr {k : Nat} (h1 : H = H') (h3 : x = x') (h4 : y = y') : appendV H k ti x y KA = appendV H' k ti x' y' KA := by rw [h1, h3, h4]
@[congr] theorem fillP_congr {pl : Nat → Option (Nat × Nat)} {cs cs' : List V} {r r' : List (Nat × V)} {KL : List V → Prop} (h1 : cs = cs') (h2 : r = r') : fillP pl cs r KL = fillP pl cs' r' KL := by rw [h1, h2]
@[congr] theorem opV_congr {P : Program} {t t' : List (Nat × V)} {k k' : Nat} {op : Op} (h1 : t = t') (h2 : H = H') (h3 : k = k') : opV T P t H k op KA = opV T P t' H' k' op KA := by rw [h1, h2, h3]
@[congr] theorem vcL_congr {P : Program} {ops l : List Oper} {N k k' : Nat} {KS : St → Prop} {t t' : List (Nat × V)} (h1 : t = t') (h2 : H = H') (h3 : k = k') : vcL T P ops N l KS t H k = vcL T P ops N l KS t' H' k' := by rw [h1, h2, h3]
@[congr] theorem guardV_congr {ops : List Oper} {t : List (Nat × V)} {g : Option (Nat × Bool)} {p q : Prop} : guardV ops t g p q = guardV ops t g p q := rfl
@[congr] theorem retV_congr {t : List (Nat × V)} {rs : List ResultVar} {acc : List V} : retV T t H rs acc K = retV T t H rs acc K := rfl
/-- a call of a function that changes nothing -/
theorem call_pf {P : Program} {f : FuncId} {args : List V} {r : V} {k : Nat} {K : V → Heap → Nat → Prop} (h : Pf P f args r) (hk : K r H k) : @callF P f args H k ⟨K⟩ := h.fn hk
theorem call_fn {P : Program} {f : FuncId} {args : List V} {k : Nat} {K : V → Heap → Nat → Prop} (h : Sl.Fn P f args H k K) : @callF P f args H k ⟨K⟩ := h
@[congr] theorem fn_congr {P : Program} {f : FuncId} {args args' : List V} {k : Nat} (h1 : args = args') (h2 : H = H') : Sl.Fn P f args H k KA = Sl.Fn P f args' H' k KA := by rw [h1, h2]
end
@[go_sem] theorem indexV_arr {T : Tab} {len : Nat} {e : TypeId} {cs : List V} {kd : IntKind} {m : Int} {K : V → Prop} : indexV T (.array len e) (.agg cs) (.val (.int kd m)) K =
    (match T e with | some te => 0 ≤ m ∧ m < len ∧ m.toNat * te.size + te.size ≤ cs.length ∧ K (partV te.agg te.size cs (m.toNat * te.size)) | none => False) := Eq.trans rfl rfl
@[go_sem low] theorem indexV_s {T : Tab} {s : ByteArray} {kd : IntKind} {m : Int} {K : V → Prop} : indexV T .string (.val (.string s)) (.val (.int kd m)) K =
    (0 ≤ m ∧ m < s.size ∧ K (.val (.int .u8 ((s.data.toList.getD m.toNat 0).toNat : Int)))) := Eq.trans rfl rfl
attribute [go_sem ↓] guardV
attribute [go_sem] vcL opV
@[go_sem] theorem evalV_tmp (t : List (Nat × V)) (i : Nat) : evalV t (.tmp i) = get t i := Eq.trans rfl rfl
@[go_sem] theorem evalV_const (t : List (Nat × V)) (v : Value) : evalV t (.const v) = constV v := Eq.trans rfl rfl
@[go_sem] theorem evalV_global (t : List (Nat × V)) (g : Nat) : evalV t (.global g) = .val (.pointer (some ⟨g, 0, none⟩)) := Eq.trans rfl rfl
@[go_sem] theorem evalV_func (t : List (Nat × V)) (f : FuncId) : evalV t (.func f) = .fn (.func f) [] [] := Eq.trans rfl rfl
attribute [go_sem] V.cells dstLt constV get setT loadV storeV indexAddrV fieldAddrV fieldV isSh V.isAddr ptrV makeV binV eqV eqSpec eqSpecF eqCells sliceV appendV look put del fillP initT retV oneOrTup Then InBlock boundV lenV lenD newsV TI.agg
end Go.Sl
/- An operation that is no call comes to one value and one heap. -/
namespace Go.Sl

def Pt1 (O : (V → Prop) → Prop) : Prop := ∀ K0, O K0 → ∃ v, K0 v ∧ ∀ K : V → Prop, K v → O K
def PtH (O : (Heap → Prop) → Prop) : Prop := ∀ K0, O K0 → ∃ v, K0 v ∧ ∀ K : Heap → Prop, K v → O K
def PtL (O : (List V → Prop) → Prop) : Prop := ∀ K0, O K0 → ∃ v, K0 v ∧ ∀ K : List V → Prop, K v → O K
def Pt (O : (V → Heap → Nat → Prop) → Prop) : Prop := ∀ K0, O K0 → ∃ v H k, K0 v H k ∧ ∀ K : V → Heap → Nat → Prop, K v H k → O K

section
variable {H : Heap} {ti : TI} {x y : V} {T : Tab} {d : D} {f k : Nat} {op : BinOp} {kd : IntKind} {m n : Int}

theorem loadV_pt : Pt1 (loadV H ti x) := by
  intro K0 h
  unfold loadV at h ⊢
  split at h
  · split at h
    · rename_i hn; exact ⟨_, h.2.2, fun K hK => by first | exact ⟨h.1, h.2.1, hK⟩ | (simp only [hn]; exact ⟨h.1, h.2.1, hK⟩)⟩
    · exact h.elim
  · exact ⟨_, h.2, fun K hK => ⟨h.1, hK⟩⟩
  · exact h.elim

theorem storeV_pt : PtH (storeV H ti x y) := by
  intro K0 h
  unfold storeV at h ⊢
  split at h
  · split at h
    · rename_i hn; exact ⟨_, h.2.2.2.2, fun K hK => by first | exact ⟨h.1, h.2.1, h.2.2.1, h.2.2.2.1, hK⟩ | (simp only [hn]; exact ⟨h.1, h.2.1, h.2.2.1, h.2.2.2.1, hK⟩)⟩
    · exact h.elim
  · exact h.elim

theorem indexAddrV_pt : Pt1 (indexAddrV T H d x y) := by
  intro K0 h
  unfold indexAddrV at h ⊢
  split at h
  · split at h
    · split at h
      · rename_i ht
        split at h
        · exact ⟨_, h.2.2, fun K hK => by first | exact ⟨h.1, h.2.1, hK⟩ | (simp only [ht]; exact ⟨h.1, h.2.1, hK⟩)⟩
        · exact ⟨_, h.2.2, fun K hK => by first | exact ⟨h.1, h.2.1, hK⟩ | (simp only [ht]; exact ⟨h.1, h.2.1, hK⟩)⟩
        · exact h.elim
      · exact h.elim
    · split at h
      · rename_i ht
        split at h
        · split at h
          · rename_i hn; exact ⟨_, h.2.2.2, fun K hK => by first | exact ⟨h.1, h.2.1, h.2.2.1, hK⟩ | (simp only [ht, hn]; exact ⟨h.1, h.2.1, h.2.2.1, hK⟩)⟩
          · exact h.elim
        · exact ⟨_, h.2.2.2, fun K hK => by first | exact ⟨h.1, h.2.1, h.2.2.1, hK⟩ | (simp only [ht]; exact ⟨h.1, h.2.1, h.2.2.1, hK⟩)⟩
        · exact h.elim
      · exact h.elim
    · exact h.elim
  · exact h.elim

theorem indexV_pt : Pt1 (indexV T d x y) := by
  intro K0 h
  unfold indexV at h ⊢
  split at h
  · split at h
    · split at h
      · rename_i ht
        split at h
        · exact ⟨_, h.2.2.2, fun K hK => by first | exact ⟨h.1, h.2.1, h.2.2.1, hK⟩ | (simp only [ht]; exact ⟨h.1, h.2.1, h.2.2.1, hK⟩)⟩
        · exact h.elim
      · exact h.elim
    · split at h
      · exact ⟨_, h.2.2, fun K hK => ⟨h.1, h.2.1, hK⟩⟩
      · exact h.elim
    · exact h.elim
  · exact h.elim

theorem fieldAddrV_pt : Pt1 (fieldAddrV T d x f) := by
  intro K0 h
  unfold fieldAddrV at h ⊢
  split at h
  · split at h
    · rename_i hf
      split at h
      · rename_i ht
        split at h
        · exact ⟨_, h.2, fun K hK => by first | exact ⟨h.1, hK⟩ | (simp only [hf, ht]; exact ⟨h.1, hK⟩)⟩
        · exact ⟨_, h.2, fun K hK => by first | exact ⟨h.1, hK⟩ | (simp only [hf, ht]; exact ⟨h.1, hK⟩)⟩
        · exact h.elim
      · exact h.elim
    · exact h.elim
  · exact h.elim

theorem fieldV_pt : Pt1 (fieldV T d x f) := by
  intro K0 h
  unfold fieldV at h ⊢
  split at h
  · split at h
    · rename_i hf
      split at h
      · rename_i ht
        split at h
        · exact ⟨_, h.2, fun K hK => by first | exact ⟨h.1, hK⟩ | (simp only [hf, ht]; exact ⟨h.1, hK⟩)⟩
        · exact h.elim
      · exact h.elim
    · exact h.elim
  · exact h.elim

theorem binIV_pt : Pt1 (binIV op kd m n) := by
  intro K0 h
  unfold binIV at h ⊢
  cases op <;> simp only [] at h ⊢ <;> first | exact ⟨_, h, fun K hK => hK⟩ | exact ⟨_, h.2, fun K hK => ⟨h.1, hK⟩⟩ | exact h.elim

theorem shIV_pt : Pt1 (shIV op kd m n) := by
  intro K0 h
  unfold shIV at h ⊢
  cases op <;> simp only [] at h ⊢ <;> first | exact ⟨_, h.2, fun K hK => ⟨h.1, hK⟩⟩ | exact h.elim

theorem eqV_pt {sp : Option (List EK)} {cs ds : List V} : Pt1 (eqV sp op cs ds) := by
  intro K0 h
  unfold eqV at h ⊢
  split at h
  · split at h
    · rename_i hb
      cases op <;> simp only [] at h ⊢ <;> first | exact ⟨_, h, fun K hK => hK⟩ | exact ⟨_, h, fun K hK => by simp only [hb]; exact hK⟩ | exact h.elim
    · exact h.elim
  · exact h.elim

theorem ptrV_pt {t : TypeId} : Pt1 (ptrV T op t) := by
  intro K0 h
  unfold ptrV at h ⊢
  split at h
  · rename_i ht
    split at h
    · rename_i hd
      cases op <;> simp only [] at h <;> first | exact ⟨_, h, fun K hK => by simp only [ht, hd]; exact hK⟩ | exact h.elim
    · exact h.elim
  · exact h.elim

theorem makeV_pt {ty : TypeId} : Pt (makeV T ty x y k H) := by
  intro K0 h
  unfold makeV at h ⊢
  split at h
  · split at h
    · rename_i ht
      split at h
      · rename_i hd
        split at h
        · rename_i hte
          exact ⟨_, _, _, h.2.2.2.2, fun K hK => by first | exact ⟨h.1, h.2.1, h.2.2.1, h.2.2.2.1, hK⟩ | (simp only [ht, hd, hte]; exact ⟨h.1, h.2.1, h.2.2.1, h.2.2.2.1, hK⟩)⟩
        · exact h.elim
      · exact h.elim
    · exact h.elim
  · exact h.elim

theorem binV_pt {t : TypeId} : Pt1 (binV T op t x y) := by
  intro K0 h
  unfold binV at h ⊢
  split at h
  · split at h
    · rename_i ht
      obtain ⟨v, h1, h2⟩ := eqV_pt _ h.2
      exact ⟨v, h1, fun K hK => by first | exact ⟨h.1, h2 K hK⟩ | (simp only [ht]; exact ⟨h.1, h2 K hK⟩)⟩
    · exact h.elim
  · obtain ⟨v, h1, h2⟩ := ptrV_pt _ h; exact ⟨v, h1, fun K hK => h2 K hK⟩
  · obtain ⟨v, h1, h2⟩ := ptrV_pt _ h; exact ⟨v, h1, fun K hK => h2 K hK⟩
  · split at h
    · rename_i hs
      obtain ⟨v, h1, h2⟩ := shIV_pt K0 h
      exact ⟨v, h1, fun K hK => by first | exact h2 K hK | (simp only [hs, if_true]; exact h2 K hK)⟩
    · rename_i hs
      obtain ⟨v, h1, h2⟩ := binIV_pt K0 h.2
      exact ⟨v, h1, fun K hK => by first | exact ⟨h.1, h2 K hK⟩ | (simp only [hs, if_false]; exact ⟨h.1, h2 K hK⟩)⟩
  · cases op <;> simp only [] at h ⊢ <;> first | exact ⟨_, h, fun K hK => hK⟩ | exact ⟨_, h.2, fun K hK => ⟨h.1, hK⟩⟩ | exact h.elim
  · split at h
    · rename_i ht
      split at h
      · rename_i hd
        cases op <;> simp only [] at h <;> first | exact ⟨_, h, fun K hK => by simp only [ht, hd]; exact hK⟩ | exact h.elim
      · exact h.elim
    · exact h.elim
  · exact h.elim

theorem sliceV_pt {lo hi : Nat → Option Int} : Pt1 (sliceV H ti x lo hi) := by
  intro K0 h
  unfold sliceV at h ⊢
  split at h
  · split at h
    · rename_i h1 h2; exact ⟨_, h.2.2, fun K hK => by first | exact ⟨h.1, h.2.1, hK⟩ | (simp only [h1, h2]; exact ⟨h.1, h.2.1, hK⟩)⟩
    · exact h.elim
  · split at h
    · rename_i hn
      split at h
      · rename_i h1 h2; exact ⟨_, h.2.2.2.2, fun K hK => by first | exact ⟨h.1, h.2.1, h.2.2.1, h.2.2.2.1, hK⟩ | (simp only [hn, h1, h2]; exact ⟨h.1, h.2.1, h.2.2.1, h.2.2.2.1, hK⟩)⟩
      · exact h.elim
    · exact h.elim
  · split at h
    · rename_i h1 h2; exact ⟨_, h.2.2.2.2, fun K hK => by first | exact ⟨h.1, h.2.1, h.2.2.1, h.2.2.2.1, hK⟩ | (simp only [h1, h2]; exact ⟨h.1, h.2.1, h.2.2.1, h.2.2.2.1, hK⟩)⟩
    · exact h.elim
  · exact h.elim

theorem appendV_pt : Pt (appendV H k ti x y) := by
  intro K0 h
  unfold appendV at h ⊢
  split at h
  · rename_i hnw
    split at h
    · exact ⟨_, _, _, h.2.2.2, fun K hK => by first | exact ⟨h.1, h.2.1, h.2.2.1, hK⟩ | (simp only [hnw]; exact ⟨h.1, h.2.1, h.2.2.1, hK⟩)⟩
    · split at h
      · rename_i hn; exact ⟨_, _, _, h.2.2.2.2.2, fun K hK => by first | exact ⟨h.1, h.2.1, h.2.2.1, h.2.2.2.1, h.2.2.2.2.1, hK⟩ | (simp only [hnw, hn]; exact ⟨h.1, h.2.1, h.2.2.1, h.2.2.2.1, h.2.2.2.2.1, hK⟩)⟩
      · exact h.elim
    · exact h.elim
  · exact h.elim

theorem fillP_pt {pl : Nat → Option (Nat × Nat)} : ∀ (ps : List (Nat × V)) (cs : List V), PtL (fillP pl cs ps)
  | [], cs => fun K0 h => ⟨cs, h, fun K hK => hK⟩
  | (i, v) :: r, cs => fun K0 h => by
    simp only [fillP] at h ⊢
    split at h
    · rename_i hp
      obtain ⟨cs', h1, h2⟩ := fillP_pt r _ K0 h.2.2.2
      exact ⟨cs', h1, fun K hK => by first | exact ⟨h.1, h.2.1, h.2.2.1, h2 K hK⟩ | (simp only [hp]; exact ⟨h.1, h.2.1, h.2.2.1, h2 K hK⟩)⟩
    · exact h.elim

theorem opV_pt {P : Program} {t : List (Nat × V)} {op : Op} (hc : isCall op = false) : Pt (opV T P t H k op) := by
  intro K0 h
  unfold opV at h ⊢
  split at h
  · exact ⟨_, _, _, h, fun K hK => hK⟩
  · exact ⟨_, _, _, h, fun K hK => hK⟩
  · split at h
    · rename_i b hb
      cases b with
      | true => exact ⟨_, _, _, (by simpa using h : K0 _ _ _), fun K hK => by first | simpa using hK | (simp only [hb]; simpa using hK)⟩
      | false => exact ⟨_, _, _, (by simpa using h : K0 _ _ _), fun K hK => by first | simpa using hK | (simp only [hb]; simpa using hK)⟩
    · exact h.elim
  · split at h
    · rename_i ht; exact ⟨_, _, _, h.2, fun K hK => by first | exact ⟨h.1, hK⟩ | (simp only [ht]; exact ⟨h.1, hK⟩)⟩
    · exact h.elim
  · split at h
    · rename_i ht; exact ⟨_, _, _, h, fun K hK => by first | exact hK | (simp only [ht]; exact hK)⟩
    · exact h.elim
  · split at h
    · rename_i ht; obtain ⟨v, h1, h2⟩ := loadV_pt _ h; exact ⟨_, _, _, h1, fun K hK => by first | exact h2 _ hK | (simp only [ht]; exact h2 _ hK)⟩
    · exact h.elim
  · split at h
    · rename_i ht; obtain ⟨v, h1, h2⟩ := storeV_pt _ h; exact ⟨_, _, _, h1, fun K hK => by first | exact h2 _ hK | (simp only [ht]; exact h2 _ hK)⟩
    · exact h.elim
  · split at h
    · rename_i ht; obtain ⟨v, h1, h2⟩ := indexAddrV_pt _ h; exact ⟨_, _, _, h1, fun K hK => by first | exact h2 _ hK | (simp only [ht]; exact h2 _ hK)⟩
    · exact h.elim
  · split at h
    · rename_i ht; obtain ⟨v, h1, h2⟩ := indexV_pt _ h; exact ⟨_, _, _, h1, fun K hK => by first | exact h2 _ hK | (simp only [ht]; exact h2 _ hK)⟩
    · exact h.elim
  · split at h
    · rename_i ht; obtain ⟨v, h1, h2⟩ := fieldAddrV_pt _ h; exact ⟨_, _, _, h1, fun K hK => by first | exact h2 _ hK | (simp only [ht]; exact h2 _ hK)⟩
    · exact h.elim
  · split at h
    · rename_i ht; obtain ⟨v, h1, h2⟩ := fieldV_pt _ h; exact ⟨_, _, _, h1, fun K hK => by first | exact h2 _ hK | (simp only [ht]; exact h2 _ hK)⟩
    · exact h.elim
  · split at h
    · rename_i ht; exact ⟨_, _, _, h.2, fun K hK => by first | exact ⟨h.1, hK⟩ | (simp only [ht]; exact ⟨h.1, hK⟩)⟩
    · exact h.elim
  · obtain ⟨v, h1, h2⟩ := binV_pt _ h; exact ⟨_, _, _, h1, fun K hK => h2 _ hK⟩
  · split at h
    · rename_i hx; exact ⟨_, _, _, h, fun K hK => by first | exact hK | (simp only [hx]; exact hK)⟩
    · rename_i hx; exact ⟨_, _, _, h, fun K hK => by first | exact hK | (simp only [hx]; exact hK)⟩
    · rename_i hx; exact ⟨_, _, _, h, fun K hK => by first | exact hK | (simp only [hx]; exact hK)⟩
    · exact h.elim
  · split at h
    · rename_i h1 h2 h3
      split at h
      · rename_i h4 h5; exact ⟨_, _, _, h.2, fun K hK => by first | exact ⟨h.1, hK⟩ | (simp only [h1, h2, h3, h4, h5]; exact ⟨h.1, hK⟩)⟩
      · exact h.elim
    · exact h.elim
  · split at h
    · rename_i ht
      split at h
      · rename_i hd
        obtain ⟨cs, h1, h2⟩ := fillP_pt _ _ _ h.2
        exact ⟨_, _, _, h1, fun K hK => by first | exact ⟨h.1, h2 _ hK⟩ | (simp only [ht, hd]; exact ⟨h.1, h2 _ hK⟩)⟩
      · rename_i hd
        split at h
        · rename_i he
          obtain ⟨cs, h1, h2⟩ := fillP_pt _ _ _ h
          exact ⟨_, _, _, h1, fun K hK => by first | exact h2 _ hK | (simp only [ht, hd, he]; exact h2 _ hK)⟩
        · exact h.elim
      · exact h.elim
    · exact h.elim
  · split at h
    · rename_i ht
      split at h
      · rename_i hd
        split at h
        · rename_i he; exact ⟨_, _, _, h.2.2.2.2, fun K hK => by first | exact ⟨h.1, h.2.1, h.2.2.1, h.2.2.2.1, hK⟩ | (simp only [ht, hd, he]; exact ⟨h.1, h.2.1, h.2.2.1, h.2.2.2.1, hK⟩)⟩
        · exact h.elim
      · exact h.elim
    · exact h.elim
  · split at h
    · rename_i ht
      split at h
      · rename_i hd
        split at h
        · rename_i hx
          split at h
          · rename_i h1 h2; exact ⟨_, _, _, h.2.2.2, fun K hK => by first | exact ⟨h.1, h.2.1, h.2.2.1, hK⟩ | (simp only [ht, hd, hx, h1, h2]; exact ⟨h.1, h.2.1, h.2.2.1, hK⟩)⟩
          · exact h.elim
        · exact h.elim
      · rename_i hd
        split at h
        · rename_i he
          obtain ⟨v, h1, h2⟩ := sliceV_pt _ h
          exact ⟨_, _, _, h1, fun K hK => by first | exact h2 _ hK | (simp only [ht, hd, he]; exact h2 _ hK)⟩
        · exact h.elim
      · exact h.elim
    · exact h.elim
  · exact ⟨_, _, _, h.2, fun K hK => ⟨h.1, hK⟩⟩
  · obtain ⟨v, H', k', h1, h2⟩ := makeV_pt _ h; exact ⟨_, _, _, h1, fun K hK => h2 _ hK⟩
  · exact ⟨_, _, _, h, fun K hK => hK⟩
  · simp [isCall] at hc
  · split at h
    · rename_i h1 h2
      split at h
      · rename_i h3
        split at h
        · rename_i h4; exact ⟨_, _, _, h.2, fun K hK => by first | exact ⟨h.1, hK⟩ | (simp only [h1, h2, h3, h4]; exact ⟨h.1, hK⟩)⟩
        · exact h.elim
      · exact h.elim
    · exact h.elim
  · split at h
    · rename_i h1
      split at h
      · rename_i h2 h3; exact ⟨_, _, _, h, fun K hK => by first | exact hK | (simp only [h1, h2, h3]; exact hK)⟩
      · exact h.elim
    · exact h.elim
  · split at h
    · rename_i h1
      split at h
      · rename_i h2 h3; exact ⟨_, _, _, h, fun K hK => by first | exact hK | (simp only [h1, h2, h3]; exact hK)⟩
      · exact h.elim
    · exact h.elim
  · split at h
    · rename_i h1 h2
      split at h
      · rename_i h3 h4
        split at h
        · rename_i h5 h6
          split at h
          · rename_i h7
            obtain ⟨v, H', k', e1, e2⟩ := appendV_pt _ h
            exact ⟨_, _, _, e1, fun K hK => by first | exact e2 _ hK | (simp only [h1, h2, h3, h4, h5, h6, h7]; exact e2 _ hK)⟩
          · exact h.elim
        · exact h.elim
      · exact h.elim
    · exact h.elim
  · exact h.elim

end
end Go.Sl
/- Calls that only read; the operations of a region whose order is open, each over what it touches. -/
namespace Go.Sl

section
variable {fr : Nat → Prop} {F : Nat → Prop} {ι ι' : Names} {O : Nat → Prop} {H H' : Heap} {σ σ' : St} {a a' : Act} {w w' : World} {P : Program} {T : Tab}

/-- a call that reads what it is handed, and changes nothing -/
structure PfH (P : Program) (f : FuncId) (args : List V) (H : Heap) (r : V) : Prop where
  enters : Enters P f
  calls : ∀ F ι w cargs, VRels ι (Own F ι H) w args cargs → Rep F ι H w → Calls P f cargs.toArray w fun e w' => ∃ cv, e = .returned cv ∧ VRel ι (Own F ι H) w' r cv ∧
    w'.os = w.os ∧ w'.tape = w.tape ∧ w'.output = w.output ∧ w.heap.size ≤ w'.heap.size ∧ ∀ b, b < w.heap.size → w'.heap[b]? = w.heap[b]?

theorem Rep.own_lt (R : Rep F ι H w) : ∀ b, Own F ι H b → b < w.heap.size := by
  rintro b (hF | ⟨n, B, l, hm, hl, hg, rfl⟩)
  · exact R.frame b hF
  · obtain ⟨l', hl', _, h'⟩ := R.own n B hm
    rw [hl] at hl'; cases hl'
    exact (h' hg).1

theorem Pf.pfH {f : FuncId} {args : List V} {r : V} (h : Pf P f args r) (H : Heap) : PfH P f args H r :=
  ⟨h.enters, fun F ι w cargs h1 h2 => h.calls ι (Own F ι H) w cargs h2.own_lt h1⟩

theorem Rep.later (R : Rep F ι H w) (ho : w'.os = w.os) (ht : w'.tape = w.tape) (hu : w'.output = w.output) (hs : w.heap.size ≤ w'.heap.size) (hb : ∀ b, b < w.heap.size → w'.heap[b]? = w.heap[b]?) :
    Rep F ι H w' ∧ Kept ι H w ι H w' := by
  have K' : Kept ι H w ι H w' := ⟨fun _ _ h => h, ho, ht, hu, hs, fun b hb' _ => hb b hb', fun _ _ h => h⟩
  refine ⟨⟨fun b hF => Nat.lt_of_lt_of_le (R.frame b hF) hs, R.names, fun n B hm => ?_, R.apart⟩, K'⟩
  obtain ⟨l, hl, hB, hg⟩ := R.own n B hm
  exact ⟨l, hl, BRel.stays K'.stays (fun hgh => hb _ (hg hgh).1) hB, fun hgh => ⟨Nat.lt_of_lt_of_le (hg hgh).1 hs, (hg hgh).2⟩⟩

theorem PfH.fn {f : FuncId} {args : List V} {r : V} (h : PfH P f args H r) {k : Nat} {K : V → Heap → Nat → Prop} (hk : K r H k) : Fn P f args H k K := by
  refine ⟨h.enters, fun F ι w cargs h1 h2 h3 => (h.calls F ι w cargs h1 h2).mono ?_⟩
  rintro e w' ⟨cv, he, hv, ho, ht, hu, hs, hb⟩
  obtain ⟨R', K'⟩ := h2.later ho ht hu hs hb
  exact ⟨ι, r, cv, H, k, he, hk, ⟨K', Nat.le_refl _, fun _ _ => rfl, fun _ h => .inl h⟩, R', fun n _ => h3 n, hv⟩

theorem op_callD {o : Oper} {K : V → Heap → Nat → Prop} (f : Operand) (args : Array Operand) (ts : Array TypeId) (ho : o.op = .call ⟨.value f, args, ts⟩) {g : FuncId} {fs cs : List V} (hf : evalV σ.t f = .fn (.func g) fs cs) {r : V}
    (h : PfH P g (fs ++ args.toList.map (evalV σ.t) ++ cs) σ.H r) (hk : K r σ.H σ.k) : OpT fr P o σ K := by
  intro F ι a w hh next Q hn
  have he := hh.eval f
  rw [hf] at he
  generalize hcv : a.eval f = cv at he
  cases he with
  | fn h1 h2 =>
    rename_i fs' cs'
    obtain ⟨fn, hg, hnm, hbody⟩ := h.enters
    have hargs := (h1.append (VRels.evals hh args.toList)).append h2
    have hc := h.calls F ι w _ hargs hh.rep
    have hrun : (execOp a.eval o).run P w = .ok (.enter g (fs' ++ args.toList.map a.eval ++ cs').toArray) w := by
      unfold execOp; rw [ho]
      have e1 : fs'.toArray ++ args.map a.eval ++ cs'.toArray = (fs' ++ args.toList.map a.eval ++ cs').toArray := by
        apply Array.ext'; simp
      simp only [resolve, hcv, Deferred.ofValue, invoke, callFunc, Sem.run_bind, Sem.run_pure, Result.andThen_ok, run_program, hg, hnm, hbody, Bool.false_eq_true, if_false, e1]
    unfold Oper.wp
    rw [hrun]
    refine Calls.mono hc ?_
    rintro e w' ⟨cv', rfl, hv, ho', ht, hu, hs, hb⟩
    obtain ⟨R', K'⟩ := hh.rep.later ho' ht hu hs hb
    exact hn ι r cv' σ.H σ.k w' hk ⟨⟨K', Nat.le_refl _, fun _ _ => rfl, fun _ h => .inl h⟩, R', hh.fresh, hv⟩

/-- a call that only reads -/
def callD (P : Program) (g : FuncId) (args : List V) (H : Heap) [i : Inhabited (V → Prop)] : Prop := ∃ r, PfH P g args H r ∧ i.default r

/-- one operation of such a region -/
def opVD (T : Tab) (P : Program) (t : List (Nat × V)) (H : Heap) (k : Nat) (op : Op) (K : V → Heap → Nat → Prop) : Prop :=
  match op with
  | .call ⟨.value f, args, _⟩ =>
    match evalV t f with
    | .fn (.func g) fs cs => @callD P g (fs ++ args.toList.map (evalV t) ++ cs) H ⟨fun r => K r H k⟩
    | _ => False
  | op => opV T P t H k op K

theorem opVD_det (hT : TabOk P T) {o : Oper} {t : List (Nat × V)} {k : Nat} {K : V → Heap → Nat → Prop} (hfr : fr k) (h : opVD T P t H k o.op K) :
    ∃ v H' k', K v H' k' ∧ ∀ N, OpT fr P o ⟨N, t, H, k⟩ fun v' H'' k'' => v' = v ∧ H'' = H' ∧ k'' = k' := by
  unfold opVD at h
  split at h
  · rename_i f args ts ho
    split at h
    · rename_i g fs cs hf
      obtain ⟨r, h1, h2⟩ := h
      exact ⟨r, H, k, h2, fun N => op_callD (σ := ⟨N, t, H, k⟩) f args ts ho hf h1 ⟨rfl, rfl, rfl⟩⟩
    · exact h.elim
  · rename_i hno
    have hc : isCall o.op = false := by
      unfold isCall
      split
      · rename_i f args ts e; exact absurd e (hno f args ts)
      · rfl
    obtain ⟨v, H', k', h1, h2⟩ := opV_pt hc K h
    exact ⟨v, H', k', h1, fun N => opV_sound (σ := ⟨N, t, H, k⟩) hT hfr (fun e => by rw [hc] at e; cases e) (h2 _ ⟨rfl, rfl, rfl⟩)⟩

end

/-! ## what an operation touches -/

def opTmps (op : Op) : List Nat := op.operands.toList.filterMap fun | .tmp t => some t | _ => none

def rtT (t : List (Nat × V)) (op : Op) : List (Nat × V) := (opTmps op).map fun x => (x, get t x)

def V.nm : V → List Nat
  | .ptr n _ _ => [n]
  | .sl n _ _ => [n]
  | .sub n _ _ _ => [n]
  | .map n => [n]
  | _ => []

/-- what an address is taken of, as far as the heap is looked into for it -/
def atNm : V → List Nat
  | .sl n _ _ => [n]
  | .sub n _ _ _ => [n]
  | .map n => [n]
  | _ => []

def opNames (t : List (Nat × V)) (op : Op) : List Nat :=
  match op with
  | .move _ | .assign _ | .nilCheck _ | .fieldAddr _ _ _ => []
  | .indexAddr _ x _ => atNm (evalV t x)
  | op => (opTmps op).flatMap fun x => (get t x).nm

def pickH (ns : List Nat) (H : Heap) : Heap := H.filter fun p => decide (p.1 ∈ ns)
def restH (ns : List Nat) (H : Heap) : Heap := H.filter fun p => !decide (p.1 ∈ ns)

/-- 0: it changes no memory; 1: it makes a block; 2: it writes -/
def kindOf : Op → Nat
  | .box .. | .alloc .. | .buildSlice .. | .makeSlice .. | .makeMap .. => 1
  | .store .. | .mapUpdate .. | .insert .. | .mapEntry .. | .entryStore .. => 2
  | .call ⟨.builtin .append, _, _⟩ | .call ⟨.builtin .copy, _, _⟩ | .call ⟨.builtin .delete, _, _⟩ | .call ⟨.builtin .clear, _, _⟩ => 2
  | _ => 0

def stepOk (kd κ : Nat) (hs hs' : Heap) : Prop :=
  match kd with
  | 0 => hs' = hs
  | 1 => match hs' with
    | (n, _) :: r => n = κ ∧ r = hs
    | [] => False
  | _ => (hs'.map Prod.fst).Nodup ∧ ∀ n ∈ hs'.map Prod.fst, n = κ ∨ n ∈ hs.map Prod.fst

def nextH (kd : Nat) (ns : List Nat) (hs' H : Heap) : Heap :=
  match kd with
  | 0 => H
  | 1 => match hs' with
    | e :: _ => e :: H
    | [] => H
  | _ => hs' ++ restH ns H

def writes (kd κ : Nat) (ns : List Nat) : List Nat :=
  match kd with
  | 0 => []
  | 1 => [κ]
  | _ => κ :: ns

theorem get_rtT (t : List (Nat × V)) (op : Op) (x : Nat) : get (rtT t op) x = if x ∈ opTmps op then get t x else .any := by
  unfold rtT
  induction opTmps op with
  | nil => simp [get]
  | cons y ys ih =>
    simp only [List.map_cons, get, ih, List.mem_cons]
    by_cases h : x = y
    · subst h; simp
    · simp [h]

theorem pick_rest (ns : List Nat) (H : Heap) : H.Perm (pickH ns H ++ restH ns H) := by
  unfold pickH restH
  exact (List.filter_append_perm _ _).symm

theorem look_filter (p : Nat → Bool) (n : Nat) : ∀ H : Heap, look n (H.filter fun e => p e.1) = if p n then look n H else none
  | [] => by simp [look]
  | (m, b) :: r => by
    simp only [List.filter_cons, look]
    by_cases h : p m = true
    · rw [if_pos h]; simp only [look]
      by_cases hn : n = m
      · subst hn; simp [h]
      · simp only [hn, if_false]; exact look_filter p n r
    · rw [if_neg h, look_filter p n r]
      by_cases hn : n = m
      · subst hn; simp [h]
      · simp [hn]

theorem look_pick (ns : List Nat) (n : Nat) (H : Heap) : look n (pickH ns H) = if n ∈ ns then look n H else none := by
  have := look_filter (fun m => decide (m ∈ ns)) n H
  simpa [pickH] using this

theorem look_rest (ns : List Nat) (n : Nat) (H : Heap) : look n (restH ns H) = if n ∈ ns then none else look n H := by
  have := look_filter (fun m => !decide (m ∈ ns)) n H
  rw [restH, this]
  by_cases h : n ∈ ns <;> simp [h]

theorem look_append (n : Nat) (G : Heap) : ∀ H : Heap, look n (H ++ G) = (look n H).or (look n G)
  | [] => by simp [look]
  | (m, b) :: r => by
    simp only [List.cons_append, look]
    split
    · rfl
    · exact look_append n G r

theorem look_none {n : Nat} : ∀ {H : Heap}, look n H = none ↔ n ∉ H.map Prod.fst
  | [] => by simp [look]
  | (m, b) :: r => by
    simp only [look, List.map_cons, List.mem_cons, not_or]
    by_cases h : n = m
    · subst h; simp
    · simp only [h, if_false, not_false_eq_true, true_and]; exact look_none

theorem perm_of_look : ∀ {H H' : Heap}, (H.map Prod.fst).Nodup → (H'.map Prod.fst).Nodup → (∀ n, look n H = look n H') → H.Perm H' := by
  intro H
  induction H with
  | nil =>
    intro H' _ _ h
    cases H' with
    | nil => exact .refl _
    | cons p r => obtain ⟨m, b⟩ := p; have := h m; simp [look] at this
  | cons p r ih =>
    obtain ⟨m, b⟩ := p
    intro H' hd hd' h
    have hm : (m, b) ∈ H' := look_mem (by rw [← h m]; simp [look])
    obtain ⟨l1, l2, rfl⟩ := List.append_of_mem hm
    have hp : (l1 ++ (m, b) :: l2).Perm ((m, b) :: (l1 ++ l2)) := List.perm_middle
    have hd2 : (((m, b) :: (l1 ++ l2)).map Prod.fst).Nodup := (hp.map _).nodup_iff.1 hd'
    simp only [List.map_cons, List.nodup_cons] at hd hd2
    refine List.Perm.trans (List.Perm.cons _ (ih hd.2 hd2.2 fun n => ?_)) hp.symm
    have hn := h n
    rw [look_append] at hn ⊢
    simp only [look] at hn
    by_cases e : n = m
    · subst e
      rw [look_none.2 hd.1]
      have hnot := hd2.1
      simp only [List.map_append, List.mem_append, not_or] at hnot
      rw [look_none.2 hnot.1, look_none.2 hnot.2]; rfl
    · simp only [e, if_false] at hn
      exact hn

theorem names_pick (ns : List Nat) (H : Heap) (h : (H.map Prod.fst).Nodup) : ((pickH ns H).map Prod.fst).Nodup :=
  ((List.filter_sublist (l := H)).map Prod.fst).nodup h

theorem names_rest (ns : List Nat) (H : Heap) (h : (H.map Prod.fst).Nodup) : ((restH ns H).map Prod.fst).Nodup :=
  ((List.filter_sublist (l := H)).map Prod.fst).nodup h

/-! ## the run in the order of the text -/

structure Rec where
  t : List (Nat × V)
  H : Heap
  ran : Bool
  v : V
  hs : Heap

/-- does an operation run, by its guard? -/
def gw (ops : List Oper) (t : List (Nat × V)) : Option (Nat × Bool) → Option Bool
  | none => some true
  | some (j, want) =>
    match (ops[j]?).bind (·.dst) with
    | some d =>
      match get t d with
      | .val (.bool b) => some (b == want)
      | .tup [] => some false
      | _ => none
    | none => none

def logOf (o : Oper) (κ : Nat) (r : Rec) : List Nat × List Nat := if r.ran then (opNames r.t o.op, writes (kindOf o.op) κ (opNames r.t o.op)) else ([], [])

structure Good (P : Program) (ops : List Oper) (N κ : Nat) (o : Oper) (r r' : Rec) : Prop where
  dst : dstLt o.dst N
  guard : gw ops r.t o.guard = some r.ran
  t' : r'.t = setT r.t o.dst r.v
  yes : r.ran = true → (∀ N, OpT (· = κ) P o ⟨N, rtT r.t o.op, pickH (opNames r.t o.op) r.H, κ⟩ fun v H' _ => v = r.v ∧ H' = r.hs) ∧ stepOk (kindOf o.op) κ (pickH (opNames r.t o.op) r.H) r.hs ∧ r'.H = nextH (kindOf o.op) (opNames r.t o.op) r.hs r.H
  no : r.ran = false → r.v = .tup [] ∧ r'.H = r.H

def vcD (T : Tab) (P : Program) (ops : List Oper) (N : Nat) : Nat → List Oper → (List (Nat × V) → Heap → List (List Nat × List Nat) → Prop) → List (Nat × V) → Heap → List (List Nat × List Nat) → Prop
  | _, [], K, t, H, lg => K t H lg
  | κ, o :: rest, K, t, H, lg => dstLt o.dst N ∧ guardV ops t o.guard
      (opVD T P (rtT t o.op) (pickH (opNames t o.op) H) κ o.op fun v hs' _ => stepOk (kindOf o.op) κ (pickH (opNames t o.op) H) hs' ∧
        vcD T P ops N (κ + 1) rest K (setT t o.dst v) (nextH (kindOf o.op) (opNames t o.op) hs' H) (lg ++ [(opNames t o.op, writes (kindOf o.op) κ (opNames t o.op))]))
      (vcD T P ops N (κ + 1) rest K (setT t o.dst (.tup [])) H (lg ++ [([], [])]))

theorem guardV_gw {ops : List Oper} {t : List (Nat × V)} {g : Option (Nat × Bool)} {p q : Prop} (h : guardV ops t g p q) : (gw ops t g = some true ∧ p) ∨ (gw ops t g = some false ∧ q) := by
  have h := guardO_of h
  unfold guardO at h
  unfold gw
  cases g with
  | none => exact .inl ⟨rfl, h⟩
  | some g =>
    obtain ⟨j, want⟩ := g
    simp only at h ⊢
    cases hj : (ops[j]?).bind (·.dst) with
    | none => rw [hj] at h; exact h.elim
    | some d =>
      rw [hj] at h
      simp only at h ⊢
      split at h
      · rename_i b hb
        simp only [hb]
        cases want <;> cases b
        · exact .inl ⟨by first | trivial | simp, by first | exact h.1 trivial | exact h.1 rfl⟩
        · exact .inr ⟨by first | trivial | simp, by first | exact h.2 trivial | exact h.2 rfl⟩
        · exact .inr ⟨by first | trivial | simp, by first | exact h.2 trivial | exact h.2 rfl⟩
        · exact .inl ⟨by first | trivial | simp, by first | exact h.1 trivial | exact h.1 rfl⟩
      · rename_i hb; simp only [hb]; exact .inr ⟨by first | trivial | simp, h⟩
      · exact h.elim

theorem vcD_run {P : Program} {T : Tab} (hT : TabOk P T) (ops : List Oper) (N : Nat) (K : List (Nat × V) → Heap → List (List Nat × List Nat) → Prop) : ∀ (l : List Oper) (κ : Nat) (t : List (Nat × V)) (H : Heap) (lg : List (List Nat × List Nat)), vcD T P ops N κ l K t H lg →
    ∃ R : Nat → Rec, (R 0).t = t ∧ (R 0).H = H ∧ (∀ j o, l[j]? = some o → Good P ops N (κ + j) o (R j) (R (j + 1))) ∧ K (R l.length).t (R l.length).H (lg ++ l.mapIdx fun j o => logOf o (κ + j) (R j))
  | [], κ, t, H, lg, h => ⟨fun _ => ⟨t, H, true, .any, []⟩, rfl, rfl, by intro j o h; simp at h, by simpa [vcD] using h⟩
  | o :: rest, κ, t, H, lg, h => by
    simp only [vcD] at h
    obtain ⟨hd, hg⟩ := h
    rcases guardV_gw hg with ⟨hgw, hy⟩ | ⟨hgw, hn⟩
    · obtain ⟨v, hs', k', ⟨h1, h2⟩, h3⟩ := opVD_det (fr := (· = κ)) hT rfl hy
      obtain ⟨R, r0, r1, r2, r3⟩ := vcD_run hT ops N K rest (κ + 1) _ _ _ h2
      refine ⟨fun | 0 => ⟨t, H, true, v, hs'⟩ | j + 1 => R j, rfl, rfl, ?_, ?_⟩
      · intro j o' hj
        cases j with
        | zero =>
          simp at hj; subst hj
          exact ⟨hd, hgw, r0, fun _ => ⟨fun N => by
            intro F ι a w hh next Q hnx
            exact h3 N F ι a w hh next Q fun ι' v' cv H'' k'' w' e => hnx ι' v' cv H'' k'' w' ⟨e.1, e.2.1⟩, h1, r1⟩, (fun e => by cases e)⟩
        | succ j =>
          have := r2 j o' (by simpa using hj)
          rw [show κ + 1 + j = κ + (j + 1) by omega] at this
          exact this
      · simp only [List.length_cons, List.mapIdx_cons]
        rw [List.append_assoc] at r3
        have hfun : (fun j o => logOf o (κ + 1 + j) (R j)) = fun j o => logOf o (κ + (j + 1)) (R j) := by funext j o; rw [show κ + 1 + j = κ + (j + 1) by omega]
        rw [hfun] at r3
        exact r3
    · obtain ⟨R, r0, r1, r2, r3⟩ := vcD_run hT ops N K rest (κ + 1) _ _ _ hn
      refine ⟨fun | 0 => ⟨t, H, false, .tup [], []⟩ | j + 1 => R j, rfl, rfl, ?_, ?_⟩
      · intro j o' hj
        cases j with
        | zero =>
          simp at hj; subst hj
          exact ⟨hd, hgw, r0, (fun e => by cases e), fun _ => ⟨rfl, r1⟩⟩
        | succ j =>
          have := r2 j o' (by simpa using hj)
          rw [show κ + 1 + j = κ + (j + 1) by omega] at this
          exact this
      · simp only [List.length_cons, List.mapIdx_cons]
        rw [List.append_assoc] at r3
        have hfun : (fun j o => logOf o (κ + 1 + j) (R j)) = fun j o => logOf o (κ + (j + 1)) (R j) := by funext j o; rw [show κ + 1 + j = κ + (j + 1) by omega]
        rw [hfun] at r3
        exact r3

end Go.Sl
/- A region whose order is open: whatever order it takes, it comes to what the order of its text comes to. -/
namespace Go.Sl

/-! ## last writers -/

def last (p : Nat → Bool) : Nat → Nat
  | 0 => 0
  | n + 1 => if p n then n + 1 else last p n

theorem last_le (p : Nat → Bool) : ∀ n, last p n ≤ n
  | 0 => Nat.le_refl _
  | n + 1 => by simp only [last]; split; exact Nat.le_refl _; exact Nat.le_succ_of_le (last_le p n)

theorem last_none (p : Nat → Bool) : ∀ n k, last p n ≤ k → k < n → p k = false
  | 0, k, _, h => by omega
  | n + 1, k, h, hk => by
    simp only [last] at h
    split at h
    · omega
    · rename_i hp
      by_cases e : k = n
      · subst e; simpa using hp
      · exact last_none p n k h (by omega)

theorem last_congr {p q : Nat → Bool} : ∀ n, (∀ k, k < n → p k = q k) → last p n = last q n
  | 0, _ => rfl
  | n + 1, h => by simp only [last, h n (by omega), last_congr n fun k hk => h k (by omega)]

theorem last_skip {p : Nat → Bool} {a : Nat} : ∀ n, a ≤ n → (∀ k, a ≤ k → k < n → p k = false) → last p n = last p a
  | 0, h, _ => by have : a = 0 := by omega
                  subst this; rfl
  | n + 1, h, hp => by
    by_cases e : a = n + 1
    · subst e; rfl
    · simp only [last, hp n (by omega) (by omega), Bool.false_eq_true, if_false]
      exact last_skip n (by omega) fun k h1 h2 => hp k h1 (by omega)

theorem last_at {p : Nat → Bool} {i n : Nat} (hi : i < n) (hp : p i = true) (h : ∀ k, i < k → k < n → p k = false) : last p n = i + 1 := by
  rw [last_skip (a := i + 1) n (by omega) fun k h1 h2 => h k (by omega) h2]
  simp only [last, hp, if_true]

theorem last_zero {p : Nat → Bool} : ∀ n, (∀ k, k < n → p k = false) → last p n = 0
  | 0, _ => rfl
  | n + 1, h => by simp only [last, h n (by omega), Bool.false_eq_true, if_false]; exact last_zero n fun k hk => h k (by omega)

/-! ## what is asked of the region's edges -/

def direct (ops : List Oper) (j : Nat) : List Nat :=
  match ops[j]? with
  | some o => (o.after.toList.filter (Region.binds .any)).map (·.on)
  | none => []

def dstOf (ops : List Oper) (j : Nat) : Option Nat := (ops[j]?).bind (·.dst)

def readsOf (ops : List Oper) (j : Nat) : List Nat :=
  match ops[j]? with
  | some o => opTmps o.op ++ (match o.guard with | some (g, _) => (dstOf ops g).toList | none => [])
  | none => []

def tmpConf (ops : List Oper) (i j : Nat) : Bool :=
  (match dstOf ops i with | some d => (readsOf ops j).contains d || dstOf ops j == some d | none => false) ||
  (match dstOf ops j with | some d => (readsOf ops i).contains d | none => false)

def row (tbl : List (List Nat)) (j : Nat) : List Nat := tbl.getD j []

def drawOk (ops : List Oper) (tbl : List (List Nat)) (m : Nat) : Bool :=
  decide (m ≤ ops.length) &&
  (List.range ops.length).all (fun j =>
    (direct ops j).all (fun e => decide (e < j)) &&
    (row tbl j).all (fun i => decide (i < j) && ((direct ops j).contains i || (direct ops j).any fun k => (row tbl k).contains i)) &&
    (decide (j < m) || (List.range j).all fun i => (row tbl j).contains i)) &&
  (List.range m).all (fun j => (List.range j).all fun i => !tmpConf ops i j || (row tbl j).contains i)

def disj (a b : List Nat) : Prop := ∀ x ∈ a, ∀ y ∈ b, x ≠ y

def disj3 (x y : List Nat × List Nat) : Prop := disj x.1 y.2 ∧ disj x.2 y.1 ∧ disj x.2 y.2

def confOne (tbl : List (List Nat)) (i : Nat) (x : List Nat × List Nat) : Nat → List (List Nat × List Nat) → Prop
  | _, [] => True
  | j, y :: r => (if (row tbl j).contains i then True else disj3 x y) ∧ confOne tbl i x (j + 1) r

def confP (tbl : List (List Nat)) : Nat → List (List Nat × List Nat) → Prop
  | _, [] => True
  | i, x :: r => confOne tbl i x (i + 1) r ∧ confP tbl (i + 1) r

/-- every two of the first m are ordered, or change no memory, or stand in the list -/
def pairsOk (ops : List Oper) (tbl : List (List Nat)) (prs : List (Nat × Nat)) (m : Nat) : Bool :=
  (List.range m).all fun j => (List.range j).all fun i => (row tbl j).contains i || prs.contains (i, j) ||
    (((ops[i]?).map fun o => kindOf o.op) == some 0 && ((ops[j]?).map fun o => kindOf o.op) == some 0)

def confQ : List (Nat × Nat) → List (List Nat × List Nat) → Prop
  | [], _ => True
  | (i, j) :: r, lg => disj3 (lg.getD i ([], [])) (lg.getD j ([], [])) ∧ confQ r lg

theorem confQ_spec : ∀ {prs : List (Nat × Nat)} {lg : List (List Nat × List Nat)}, confQ prs lg → ∀ i j, (i, j) ∈ prs → disj3 (lg.getD i ([], [])) (lg.getD j ([], []))
  | [], _, _, i, j, hm => by simp at hm
  | (i', j') :: r, lg, h, i, j, hm => by
    simp only [confQ] at h
    rcases List.mem_cons.1 hm with e | hm
    · cases e; exact h.1
    · exact confQ_spec h.2 i j hm

theorem disj3_quiet {x y : List Nat × List Nat} (hx : x.2 = []) (hy : y.2 = []) : disj3 x y := by
  unfold disj3 disj
  rw [hx, hy]
  simp

theorem confOne_spec {tbl : List (List Nat)} {i : Nat} {x : List Nat × List Nat} : ∀ (l : List (List Nat × List Nat)) (s : Nat), confOne tbl i x s l → ∀ q y, l[q]? = some y → i ∈ row tbl (s + q) ∨ disj3 x y
  | [], s, h, q, y, hq => by simp at hq
  | z :: l, s, h, q, y, hq => by
    simp only [confOne] at h
    cases q with
    | zero =>
      simp at hq; subst hq
      have h1 := h.1
      split at h1
      · rename_i hc; exact .inl (by simpa using hc)
      · exact .inr h1
    | succ q =>
      have := confOne_spec l (s + 1) h.2 q y (by simpa using hq)
      rw [show s + 1 + q = s + (q + 1) by omega] at this
      exact this

theorem confP_spec {tbl : List (List Nat)} : ∀ (l : List (List Nat × List Nat)) (s : Nat), confP tbl s l → ∀ i j x y, i < j → l[i]? = some x → l[j]? = some y → s + i ∈ row tbl (s + j) ∨ disj3 x y
  | [], s, h, i, j, x, y, hij, hi, hj => by simp at hi
  | z :: l, s, h, i, j, x, y, hij, hi, hj => by
    simp only [confP] at h
    cases j with
    | zero => omega
    | succ j =>
      cases i with
      | zero =>
        simp at hi; subst hi
        have := confOne_spec l (s + 1) h.1 j y (by simpa using hj)
        rw [show s + 1 + j = s + (j + 1) by omega] at this
        exact this
      | succ i =>
        have := confP_spec l (s + 1) h.2 i j x y (by omega) (by simpa using hi) (by simpa using hj)
        rw [show s + 1 + i = s + (i + 1) by omega, show s + 1 + j = s + (j + 1) by omega] at this
        exact this

def lgOf (ops : List Oper) (κ0 : Nat) (R : Nat → Rec) (k : Nat) : List Nat × List Nat :=
  match ops[k]? with
  | some o => logOf o (κ0 + k) (R k)
  | none => ([], [])

structure Ctx (P : Program) (ops : List Oper) (N κ0 m : Nat) (R : Nat → Rec) (tbl : List (List Nat)) : Prop where
  good : ∀ j, j < m → ∀ o, ops[j]? = some o → Good P ops N (κ0 + j) o (R j) (R (j + 1))
  mle : m ≤ ops.length
  edges : ∀ j, j < ops.length → ∀ e ∈ direct ops j, e < j
  tblOk : ∀ j, j < ops.length → ∀ i ∈ row tbl j, i < j ∧ (i ∈ direct ops j ∨ ∃ k ∈ direct ops j, i ∈ row tbl k)
  tail : ∀ j, m ≤ j → j < ops.length → ∀ i, i < j → i ∈ row tbl j
  tmp : ∀ i j, i < j → j < m → tmpConf ops i j = true → i ∈ row tbl j
  mem : ∀ i j, i < j → j < m → i ∈ row tbl j ∨ disj3 (lgOf ops κ0 R i) (lgOf ops κ0 R j)
  dl : ∀ o ∈ ops, dstLt o.dst N
  h0 : ((R 0).H.map Prod.fst).Nodup
  h1 : ∀ n ∈ (R 0).H.map Prod.fst, n < κ0

section
variable {P : Program} {ops : List Oper} {N κ0 m : Nat} {R : Nat → Rec} {tbl : List (List Nat)}

theorem Ctx.op (C : Ctx P ops N κ0 m R tbl) {j : Nat} (h : j < m) : ∃ o, ops[j]? = some o := ⟨_, List.getElem?_eq_getElem (Nat.lt_of_lt_of_le h C.mle)⟩

/-- names of the heap in the order of the text -/
theorem Ctx.names (C : Ctx P ops N κ0 m R tbl) : ∀ j, j ≤ m → ((R j).H.map Prod.fst).Nodup ∧ ∀ n ∈ (R j).H.map Prod.fst, n < κ0 + j
  | 0, _ => ⟨C.h0, C.h1⟩
  | j + 1, h => by
    obtain ⟨i1, i2⟩ := C.names j (by omega)
    obtain ⟨o, ho⟩ := C.op (show j < m by omega)
    have G := C.good j (by omega) o ho
    cases hr : (R j).ran with
    | false =>
      rw [(G.no hr).2]
      exact ⟨i1, fun n hn => by have := i2 n hn; omega⟩
    | true =>
      obtain ⟨_, hs, hH⟩ := G.yes hr
      rw [hH]
      unfold nextH
      unfold stepOk at hs
      split
      · exact ⟨i1, fun n hn => by have := i2 n hn; omega⟩
      · rename_i hk
        rw [hk] at hs
        simp only at hs
        cases hhs : (R j).hs with
        | nil => simp only; exact ⟨i1, fun n hn => by have := i2 n hn; omega⟩
        | cons e r =>
          obtain ⟨n0, b0⟩ := e
          rw [hhs] at hs
          simp only at hs
          simp only [List.map_cons, List.nodup_cons, List.mem_cons]
          refine ⟨⟨fun hc => by have := i2 _ hc; omega, i1⟩, fun n hn => ?_⟩
          rcases hn with rfl | hn
          · omega
          · have := i2 n hn; omega
      · rename_i hk1 hk2
        have hs' : ((R j).hs.map Prod.fst).Nodup ∧ ∀ n ∈ (R j).hs.map Prod.fst, n = κ0 + j ∨ n ∈ (pickH (opNames (R j).t o.op) (R j).H).map Prod.fst := by
          split at hs
          · rename_i e; exact absurd e hk1
          · rename_i e; exact absurd e hk2
          · exact hs
        obtain ⟨s1, s2⟩ := hs'
        have hpk : ∀ n ∈ (pickH (opNames (R j).t o.op) (R j).H).map Prod.fst, n ∈ opNames (R j).t o.op ∧ n ∈ (R j).H.map Prod.fst := by
          intro n hn
          obtain ⟨p, hp, rfl⟩ := List.mem_map.1 hn
          have := List.mem_filter.1 hp
          exact ⟨by simpa using this.2, List.mem_map.2 ⟨p, this.1, rfl⟩⟩
        have hrs : ∀ n ∈ (restH (opNames (R j).t o.op) (R j).H).map Prod.fst, n ∉ opNames (R j).t o.op ∧ n ∈ (R j).H.map Prod.fst := by
          intro n hn
          obtain ⟨p, hp, rfl⟩ := List.mem_map.1 hn
          have := List.mem_filter.1 hp
          exact ⟨by simpa using this.2, List.mem_map.2 ⟨p, this.1, rfl⟩⟩
        simp only [List.map_append]
        rw [List.nodup_append]
        refine ⟨⟨s1, names_rest _ _ i1, ?_⟩, ?_⟩
        · rintro x hx y hy rfl
          rcases s2 x hx with h | h
          · have := i2 x (hrs x hy).2; omega
          · exact (hrs x hy).1 (hpk x h).1
        · intro n hn
          rcases List.mem_append.1 hn with hn | hn
          · rcases s2 n hn with h | h
            · omega
            · have := i2 n (hpk n h).2; omega
          · have := i2 n (hrs n hn).2; omega

/-- what an operation doesn't write stays -/
theorem Ctx.stepT (C : Ctx P ops N κ0 m R tbl) {k x : Nat} (hk : k < m) (h : dstOf ops k ≠ some x) : get (R (k + 1)).t x = get (R k).t x := by
  obtain ⟨o, ho⟩ := C.op hk
  have G := C.good k hk o ho
  rw [G.t']
  unfold dstOf at h
  rw [ho] at h
  simp only [Option.bind_some] at h
  cases hd : o.dst with
  | none => rfl
  | some d =>
    rw [hd] at h
    simp only [setT, get]
    rw [if_neg (fun e => h (by rw [e]))]

theorem Ctx.stepH (C : Ctx P ops N κ0 m R tbl) {k β : Nat} (hk : k < m) (h : β ∉ (lgOf ops κ0 R k).2) : look β (R (k + 1)).H = look β (R k).H := by
  obtain ⟨o, ho⟩ := C.op hk
  have G := C.good k hk o ho
  unfold lgOf at h
  rw [ho] at h
  simp only [logOf] at h
  cases hr : (R k).ran with
  | false => rw [(G.no hr).2]
  | true =>
    rw [hr] at h
    simp only [if_true] at h
    obtain ⟨_, hs, hH⟩ := G.yes hr
    rw [hH]
    unfold nextH
    unfold stepOk at hs
    unfold writes at h
    split
    · rfl
    · rename_i hk1
      rw [hk1] at hs h
      simp only [List.mem_singleton] at hs h
      cases hhs : (R k).hs with
      | nil => rfl
      | cons e r =>
        obtain ⟨n0, b0⟩ := e
        rw [hhs] at hs
        simp only at hs ⊢
        simp only [look]
        rw [if_neg (fun e => h (e.trans hs.1))]
    · rename_i hk1 hk2
      have hs' : ((R k).hs.map Prod.fst).Nodup ∧ ∀ n ∈ (R k).hs.map Prod.fst, n = κ0 + k ∨ n ∈ (pickH (opNames (R k).t o.op) (R k).H).map Prod.fst := by
        split at hs
        · rename_i e; exact absurd e hk1
        · rename_i e; exact absurd e hk2
        · exact hs
      have h' : β ≠ κ0 + k ∧ β ∉ opNames (R k).t o.op := by
        split at h
        · rename_i e; exact absurd e hk1
        · rename_i e; exact absurd e hk2
        · simpa using h
      rw [look_append, look_rest, if_neg h'.2]
      have : look β (R k).hs = none := look_none.2 fun hm => by
        rcases hs'.2 β hm with e | e
        · exact h'.1 e
        · obtain ⟨p, hp, rfl⟩ := List.mem_map.1 e
          exact h'.2 (by simpa using (List.mem_filter.1 hp).2)
      rw [this]; rfl

theorem Ctx.runT (C : Ctx P ops N κ0 m R tbl) {x q : Nat} : ∀ i, q ≤ i → i ≤ m → (∀ k, q ≤ k → k < i → dstOf ops k ≠ some x) → get (R i).t x = get (R q).t x
  | 0, h, _, _ => by have : q = 0 := by omega
                     subst this; rfl
  | i + 1, h, hi, hd => by
    by_cases e : q = i + 1
    · subst e; rfl
    · rw [C.stepT (by omega) (hd i (by omega) (by omega))]
      exact C.runT i (by omega) (by omega) fun k h1 h2 => hd k h1 (by omega)

theorem Ctx.runH (C : Ctx P ops N κ0 m R tbl) {x q : Nat} : ∀ i, q ≤ i → i ≤ m → (∀ k, q ≤ k → k < i → x ∉ (lgOf ops κ0 R k).2) → look x (R i).H = look x (R q).H
  | 0, h, _, _ => by have : q = 0 := by omega
                     subst this; rfl
  | i + 1, h, hi, hd => by
    by_cases e : q = i + 1
    · subst e; rfl
    · rw [C.stepH (by omega) (hd i (by omega) (by omega))]
      exact C.runH i (by omega) (by omega) fun k h1 h2 => hd k h1 (by omega)

/-- what is listed is closed backwards -/
def Down (ops : List Oper) (L : Nat → Bool) : Prop := ∀ j, L j = true → ∀ e ∈ direct ops j, L e = true

theorem Ctx.before (C : Ctx P ops N κ0 m R tbl) {L : Nat → Bool} (hL : Down ops L) : ∀ j, j < ops.length → (∀ e ∈ direct ops j, L e = true) → ∀ i ∈ row tbl j, L i = true := by
  intro j
  induction j using Nat.strongRecOn with
  | _ j ih =>
    intro hj hd i hi
    rcases (C.tblOk j hj i hi).2 with h | ⟨k, hk, h⟩
    · exact hd i h
    · have hlt := C.edges j hj k hk
      exact ih k hlt (by omega) (hL k (hd k hk)) i h

def pT (ops : List Oper) (L : Nat → Bool) (x k : Nat) : Bool := L k && dstOf ops k == some x
def pH (ops : List Oper) (κ0 : Nat) (R : Nat → Rec) (L : Nat → Bool) (β k : Nat) : Bool := L k && decide (β ∈ (lgOf ops κ0 R k).2)

theorem Ctx.agreeT (C : Ctx P ops N κ0 m R tbl) {L : Nat → Bool} {i x : Nat} (hi : i < m) (hLi : L i = false) (h : ∀ k, k < m → k ≠ i → dstOf ops k = some x → (k < i → L k = true) ∧ (i < k → L k = false)) :
    get (R (last (pT ops L x) m)).t x = get (R i).t x := by
  have e1 : last (pT ops L x) m = last (pT ops L x) i := last_skip m (by omega) fun k h1 h2 => by
    unfold pT
    by_cases e : k = i
    · subst e; simp [hLi]
    · by_cases hd : dstOf ops k = some x
      · simp [(h k h2 e hd).2 (by omega)]
      · simp [hd]
  have e2 : last (pT ops L x) i = last (fun k => dstOf ops k == some x) i := last_congr i fun k hk => by
    unfold pT
    by_cases hd : dstOf ops k = some x
    · simp [(h k (by omega) (by omega) hd).1 hk]
    · simp [hd]
  rw [e1, e2]
  exact (C.runT i (last_le _ _) (by omega) fun k h1 h2 => by
    have := last_none _ i k h1 h2
    simpa using this).symm

theorem Ctx.agreeH (C : Ctx P ops N κ0 m R tbl) {L : Nat → Bool} {i β : Nat} (hi : i < m) (hLi : L i = false) (h : ∀ k, k < m → k ≠ i → β ∈ (lgOf ops κ0 R k).2 → (k < i → L k = true) ∧ (i < k → L k = false)) :
    look β (R (last (pH ops κ0 R L β) m)).H = look β (R i).H := by
  have e1 : last (pH ops κ0 R L β) m = last (pH ops κ0 R L β) i := last_skip m (by omega) fun k h1 h2 => by
    unfold pH
    by_cases e : k = i
    · subst e; simp [hLi]
    · by_cases hd : β ∈ (lgOf ops κ0 R k).2
      · simp [(h k h2 e hd).2 (by omega)]
      · simp [hd]
  have e2 : last (pH ops κ0 R L β) i = last (fun k => decide (β ∈ (lgOf ops κ0 R k).2)) i := last_congr i fun k hk => by
    unfold pH
    by_cases hd : β ∈ (lgOf ops κ0 R k).2
    · simp [(h k (by omega) (by omega) hd).1 hk, hd]
    · simp [hd]
  rw [e1, e2]
  exact (C.runH i (last_le _ _) (by omega) fun k h1 h2 => by
    have := last_none _ i k h1 h2
    simpa using this).symm

/-! ## the invariant -/

structure Inv (ops : List Oper) (N κ0 m : Nat) (R : Nat → Rec) (F : Nat → Prop) (ι0 : Names) (H0 : Heap) (w0 : World) (L : Nat → Bool) (ι : Names) (HD : Heap) (a : Act) (w : World) : Prop where
  down : Down ops L
  only : ∀ j, L j = true → j < m
  defers : a.defers = []
  size : a.tmps.size = N
  tm : ∀ x, VRel ι (Own F ι HD) w (get (R (last (pT ops L x) m)).t x) (a.tmps.getD x undef)
  rep : Rep F ι HD w
  lk : ∀ β, look β HD = look β (R (last (pH ops κ0 R L β) m)).H
  fq : ∀ i, i < m → L i = false → ι (κ0 + i) = none
  fr : ∀ n, κ0 + m ≤ n → ι n = none
  kept : Kept ι0 H0 w0 ι HD w
  same : ∀ n, n < κ0 → ι n = ι0 n
  dom : ∀ n ∈ HD.map Prod.fst, n ∈ H0.map Prod.fst ∨ κ0 ≤ n

def addL (L : Nat → Bool) (i : Nat) : Nat → Bool := fun k => if k = i then true else L k

theorem tmpConf_read {i k x : Nat} (hr : x ∈ readsOf ops i) (hd : dstOf ops k = some x) : tmpConf ops k i = true ∧ tmpConf ops i k = true := by
  unfold tmpConf
  rw [hd]
  constructor
  · simp [hr]
  · simp [hr]

theorem tmpConf_dst {i k x : Nat} (hi : dstOf ops i = some x) (hd : dstOf ops k = some x) : tmpConf ops k i = true ∧ tmpConf ops i k = true := by
  unfold tmpConf
  rw [hd, hi]
  simp

variable {F : Nat → Prop} {ι0 ι : Names} {H0 HD : Heap} {w0 w : World} {L : Nat → Bool} {a : Act} {Q : Exit → Act → World → Prop}

theorem Inv.step (C : Ctx P ops N κ0 m R tbl) (I : Inv ops N κ0 m R F ι0 H0 w0 L ι HD a w) {i : Nat} (hi : i < m) (hLi : L i = false) (hd : ∀ e ∈ direct ops i, L e = true) {o : Oper} (ho : ops[i]? = some o)
    (next : Act → World → Prop) (hn : ∀ ι' HD' a' w', Inv ops N κ0 m R F ι0 H0 w0 (addL L i) ι' HD' a' w' → next a' w') :
    if Region.wanted o (yielded ops.toArray a.tmps) then o.wp P a w next Q else next (a.put o.dst undef) w := by
  have G := C.good i hi o ho
  have hin : i < ops.length := Nat.lt_of_lt_of_le hi C.mle
  have bef : ∀ k ∈ row tbl i, L k = true := C.before I.down i hin hd
  have aft : ∀ k, k < m → i ∈ row tbl k → L k = false := fun k hk h => by
    cases hL : L k with
    | false => rfl
    | true =>
      have := C.before I.down k (Nat.lt_of_lt_of_le hk C.mle) (I.down k hL) i h
      rw [hLi] at this; cases this
  have aT : ∀ x, (∀ k, k < m → k ≠ i → dstOf ops k = some x → tmpConf ops k i = true ∧ tmpConf ops i k = true) → get (R (last (pT ops L x) m)).t x = get (R i).t x := fun x h =>
    C.agreeT hi hLi fun k hk hne hdk => ⟨fun hlt => bef k (C.tmp k i hlt hi (h k hk hne hdk).1), fun hlt => aft k hk (C.tmp i k hlt hk (h k hk hne hdk).2)⟩
  have aTr : ∀ x ∈ readsOf ops i, get (R (last (pT ops L x) m)).t x = get (R i).t x := fun x hx => aT x fun k _ _ hdk => tmpConf_read hx hdk
  have aH : ∀ β, β ∈ (lgOf ops κ0 R i).1 ∨ β ∈ (lgOf ops κ0 R i).2 → ∀ k, k < m → k ≠ i → β ∈ (lgOf ops κ0 R k).2 → (k < i → L k = true) ∧ (i < k → L k = false) := by
    intro β hβ k hk hne hw
    constructor
    · intro hlt
      rcases C.mem k i hlt hi with h | ⟨_, h2, h3⟩
      · exact bef k h
      · rcases hβ with hβ | hβ
        · exact absurd rfl (h2 β hw β hβ)
        · exact absurd rfl (h3 β hw β hβ)
    · intro hlt
      rcases C.mem i k hlt hk with h | ⟨h1, _, h3⟩
      · exact aft k hk h
      · rcases hβ with hβ | hβ
        · exact absurd rfl (h1 β hβ β hw)
        · exact absurd rfl (h3 β hβ β hw)
  have hdst : dstLt o.dst N := C.dl o (List.mem_of_getElem? ho)
  have hdo : dstOf ops i = o.dst := by unfold dstOf; rw [ho]; rfl
  have hro : readsOf ops i = opTmps o.op ++ (match o.guard with | some (g, _) => (dstOf ops g).toList | none => []) := by unfold readsOf; rw [ho]
  -- does it run?
  have hw : Region.wanted o (yielded ops.toArray a.tmps) = (R i).ran := by
    have hg := G.guard
    unfold gw at hg
    unfold Region.wanted
    cases hgd : o.guard with
    | none => rw [hgd] at hg; simpa using hg
    | some p =>
      obtain ⟨j, want⟩ := p
      rw [hgd] at hg
      simp only at hg ⊢
      cases hj : (ops[j]?).bind (·.dst) with
      | none => rw [hj] at hg; cases hg
      | some d =>
        rw [hj] at hg
        simp only at hg
        have hrd : d ∈ readsOf ops i := by rw [hro, hgd]; simp [dstOf, hj]
        have hdN : d < a.tmps.size := by
          obtain ⟨oj, hoj, hdj⟩ := Option.bind_eq_some_iff.1 hj
          have := C.dl oj (List.mem_of_getElem? hoj)
          rw [hdj] at this; rw [I.size]; exact this
        have htm := I.tm d
        rw [aTr d hrd] at htm
        have he : a.tmps.getD d undef = a.tmps[d] := by simp [Array.getD, hdN]
        rw [he] at htm
        have hyd : yielded ops.toArray a.tmps j = match a.tmps[d] with | .bool b => some b | _ => none := by
          unfold yielded
          have : ((ops.toArray[j]?).bind (·.dst)) = some d := by simpa using hj
          rw [this]
          simp only [Option.bind_some, Array.getElem?_eq_getElem hdN]
          generalize a.tmps[d] = z
          cases z <;> rfl
        split at hg
        · rename_i b hb
          rw [hb] at htm
          rw [hyd, htm.inv_bool]
          simp only [Option.some.injEq] at hg
          rw [← hg]
          cases b <;> cases want <;> rfl
        · rename_i hb
          rw [hb] at htm
          generalize a.tmps[d] = x at htm hyd
          cases htm with
          | tup h =>
            cases h
            rw [hyd]
            simp only [Option.some.injEq] at hg
            rw [← hg]; rfl
        · cases hg
  rw [hw]
  have lgi : lgOf ops κ0 R i = logOf o (κ0 + i) (R i) := by unfold lgOf; rw [ho]
  have pTother : ∀ x, o.dst ≠ some x → last (pT ops (addL L i) x) m = last (pT ops L x) m := fun x hx => last_congr m fun k hk => by
    unfold pT addL
    by_cases e : k = i
    · subst e; rw [hdo]; simp [hx, hLi]
    · simp [e]
  have pTdst : ∀ x, o.dst = some x → last (pT ops (addL L i) x) m = i + 1 := fun x hx => by
    refine last_at hi ?_ ?_
    · unfold pT addL; rw [hdo]; simp [hx]
    · intro k h1 h2
      unfold pT addL
      by_cases hdk : dstOf ops k = some x
      · have := aft k h2 (C.tmp i k h1 h2 (tmpConf_dst (hdo.trans hx) hdk).2)
        simp [show k ≠ i by omega, this]
      · simp [hdk]
  have hdown : Down ops (addL L i) := fun j hj e he => by
    unfold addL at hj ⊢
    split
    · rfl
    · by_cases hji : j = i
      · subst hji; exact hd e he
      · rw [if_neg hji] at hj; exact I.down j hj e he
  have honly : ∀ j, addL L i j = true → j < m := fun j hj => by
    unfold addL at hj
    split at hj
    · omega
    · exact I.only j hj
  have hputsize : ∀ v, (a.put o.dst v).tmps.size = N := fun v => by
    cases hd' : o.dst with
    | none => simpa [Act.put] using I.size
    | some d => simpa [Act.put] using I.size
  have hputdef : ∀ v, (a.put o.dst v).defers = [] := fun v => by
    cases hd' : o.dst <;> simpa [Act.put] using I.defers
  have hputget : ∀ v x, (a.put o.dst v).tmps.getD x undef = if o.dst = some x then v else a.tmps.getD x undef := fun v x => by
    cases hd' : o.dst with
    | none => simp [Act.put]
    | some d =>
      rw [hd'] at hdst
      simp only [Act.put]
      rw [getD_setIfInBounds _ _ _ _ (by rw [I.size]; exact hdst)]
      by_cases e : x = d
      · subst e; simp
      · rw [if_neg e, if_neg (by simp; exact fun h => e h.symm)]
  have htnew : ∀ x, o.dst = some x → get (R (i + 1)).t x = (R i).v := fun x hx => by
    rw [G.t', hx]; simp [setT, get]
  cases hr : (R i).ran with
  | false =>
    simp only [Bool.false_eq_true, if_false]
    obtain ⟨hv, hH⟩ := G.no hr
    have hlg : lgOf ops κ0 R i = ([], []) := by rw [lgi]; simp [logOf, hr]
    refine hn ι HD _ w ⟨hdown, honly, hputdef _, hputsize _, fun x => ?_, I.rep, fun β => ?_, fun j hj hL => ?_, I.fr, I.kept, I.same, I.dom⟩
    · rw [hputget]
      by_cases hx : o.dst = some x
      · rw [if_pos hx, pTdst x hx, htnew x hx, hv]; exact .tup .nil
      · rw [if_neg hx, pTother x hx]; exact I.tm x
    · rw [I.lk β]
      congr 2
      exact congrArg R (last_congr m fun k hk => by
        unfold pH addL
        by_cases e : k = i
        · subst e; rw [hlg]; simp
        · simp [e])
    · unfold addL at hL
      split at hL
      · cases hL
      · exact I.fq j hj hL
  | true =>
    simp only [if_true]
    obtain ⟨hop, hst, hH⟩ := G.yes hr
    have hlg : lgOf ops κ0 R i = (opNames (R i).t o.op, writes (kindOf o.op) (κ0 + i) (opNames (R i).t o.op)) := by rw [lgi]; simp [logOf, hr]
    generalize hns : opNames (R i).t o.op = ns at *
    have hcn := C.names i (by omega)
    have hlook : ∀ β ∈ ns, look β HD = look β (R i).H := fun β hβ => by
      rw [I.lk β]
      exact C.agreeH hi hLi (aH β (.inl (by rw [hlg]; exact hβ)))
    have hperm : (pickH ns HD).Perm (pickH ns (R i).H) := perm_of_look (names_pick _ _ I.rep.names) (names_pick _ _ hcn.1) fun n => by
      rw [look_pick, look_pick]
      by_cases h : n ∈ ns
      · rw [if_pos h, if_pos h, hlook n h]
      · rw [if_neg h, if_neg h]
    have hpr : HD.Perm (pickH ns (R i).H ++ restH ns HD) := (pick_rest ns HD).trans (List.Perm.append hperm (.refl _))
    have R2 := I.rep.perm hpr
    have hownD : Own F ι HD = Own (Fr F ι (restH ns HD)) ι (pickH ns (R i).H) := by
      rw [← own_split_eq]; exact funext fun b => propext ⟨fun h => h.imp id (OwnH.perm hpr b).1, fun h => h.imp id (OwnH.perm hpr b).2⟩
    have hκ : ι (κ0 + i) = none := I.fq i hi hLi
    have hh : Holds (· = κ0 + i) (Fr F ι (restH ns HD)) ι ⟨N, rtT (R i).t o.op, pickH ns (R i).H, κ0 + i⟩ a w := by
      refine ⟨I.defers, I.size, fun x => ?_, R2.lend, fun n hn _ => by subst hn; exact hκ⟩
      simp only [get_rtT]
      rw [← hownD]
      by_cases hx : x ∈ opTmps o.op
      · rw [if_pos hx, ← aTr x (by rw [hro]; exact List.mem_append.2 (.inl hx))]
        exact I.tm x
      · rw [if_neg hx]; exact .any _
    refine hop N (Fr F ι (restH ns HD)) ι a w hh next Q ?_
    rintro ι' v cv H' k' w' ⟨rfl, rfl⟩ hO
    have hO1 := Out.frame R2 (fun n hn _ => by subst hn; exact hκ) hO
    have hO2 := Out.perm_in hpr hO1
    have hS := hO2.ext.kept.stays (F := F)
    have hnotκ : look (κ0 + i) HD = none := look_none.2 (I.rep.fresh_names hκ)
    have hnotκ' : look (κ0 + i) (R i).H = none := look_none.2 fun h => by have := hcn.2 _ h; omega
    have hlk : ∀ β, look β ((R i).hs ++ restH ns HD) = if β ∈ writes (kindOf o.op) (κ0 + i) ns then look β (R (i + 1)).H else look β HD := by
      intro β
      have pick0 : (look β (pickH ns (R i).H)).or (if β ∈ ns then none else look β HD) = look β HD := by
        rw [look_pick]
        by_cases h : β ∈ ns
        · rw [if_pos h, if_pos h, hlook β h]; cases look β (R i).H <;> rfl
        · rw [if_neg h, if_neg h]; rfl
      rw [look_append, look_rest, hH]
      have h012 : kindOf o.op = 0 ∨ kindOf o.op = 1 ∨ ∃ q, kindOf o.op = q + 2 := by
        cases h : kindOf o.op with
        | zero => exact .inl rfl
        | succ k => cases k with
          | zero => exact .inr (.inl rfl)
          | succ k => exact .inr (.inr ⟨k, rfl⟩)
      rcases h012 with hk | hk | ⟨q, hk⟩
      · rw [hk] at hst ⊢
        simp only [stepOk] at hst
        simp only [writes, nextH, List.not_mem_nil, if_false]
        rw [hst]; exact pick0
      · rw [hk] at hst ⊢
        simp only [stepOk] at hst
        simp only [writes, nextH, List.mem_singleton]
        cases hhs : (R i).hs with
        | nil => rw [hhs] at hst; exact hst.elim
        | cons e r =>
          obtain ⟨n0, b0⟩ := e
          rw [hhs] at hst
          simp only at hst
          obtain ⟨rfl, rfl⟩ := hst
          simp only [look]
          by_cases e : β = κ0 + i
          · simp [e]
          · simp only [e, if_false]; exact pick0
      · rw [hk] at hst ⊢
        simp only [stepOk] at hst
        simp only [writes, nextH, List.mem_cons]
        by_cases e : β = κ0 + i ∨ β ∈ ns
        · rw [if_pos e, look_append, look_rest]
          by_cases h : β ∈ ns
          · rw [if_pos h, if_pos h]
          · rw [if_neg h, if_neg h]
            have : β = κ0 + i := e.resolve_right h
            rw [this, hnotκ, hnotκ']
        · rw [if_neg e]
          have h2 : β ∉ ns := fun h => e (.inr h)
          have : look β (R i).hs = none := look_none.2 fun hm => by
            rcases hst.2 β hm with h | h
            · exact e (.inl h)
            · obtain ⟨p, hp, rfl⟩ := List.mem_map.1 h
              exact h2 (by simpa using (List.mem_filter.1 hp).2)
          rw [this, if_neg h2]; rfl
    have hsame : ∀ n, n ≠ κ0 + i → ι' n = ι n := fun n hne => hO2.ext.same n fun e => absurd e hne
    refine hn ι' ((R i).hs ++ restH ns HD) _ w' ⟨hdown, honly, hputdef _, hputsize _, fun x => ?_, hO2.rep, fun β => ?_, fun j hj hL => ?_, fun n hn' => ?_, I.kept.trans hO2.ext.kept, fun n hn' => ?_, fun n hn' => ?_⟩
    · rw [hputget]
      by_cases hx : o.dst = some x
      · rw [if_pos hx, pTdst x hx, htnew x hx]; exact hO2.val
      · rw [if_neg hx, pTother x hx]; exact (I.tm x).stays hS
    · rw [hlk β]
      by_cases hβ : β ∈ writes (kindOf o.op) (κ0 + i) ns
      · rw [if_pos hβ]
        have : last (pH ops κ0 R (addL L i) β) m = i + 1 := by
          refine last_at hi ?_ ?_
          · unfold pH addL; rw [hlg]; simp [hβ]
          · intro k h1 h2
            unfold pH addL
            by_cases hk : β ∈ (lgOf ops κ0 R k).2
            · have := (aH β (.inr (by rw [hlg]; exact hβ)) k h2 (by omega) hk).2 h1
              simp [show k ≠ i by omega, this]
            · simp [hk]
        rw [this]
      · rw [if_neg hβ, I.lk β]
        congr 2
        exact congrArg R (last_congr m fun k hk => by
          unfold pH addL
          by_cases e : k = i
          · subst e; rw [hlg]; simp [hβ]
          · simp [e])
    · unfold addL at hL
      split at hL
      · cases hL
      · rename_i hne
        rw [hsame _ (by omega)]; exact I.fq j hj hL
    · rw [hsame n (by omega)]; exact I.fr n hn'
    · rw [hsame n (by omega)]; exact I.same n hn'
    · rcases hO2.ext.dom n hn' with h | h
      · exact I.dom n h
      · exact .inr (by have := h.1; omega)

end
end Go.Sl
/- The rule for a region whose order is open. -/
namespace Go.Sl

section
variable {P : Program} {ops : List Oper} {N κ0 m : Nat} {R : Nat → Rec} {tbl : List (List Nat)}
variable {F : Nat → Prop} {ι0 ι : Names} {H0 HD : Heap} {w0 w : World} {L : Nat → Bool} {a : Act} {Q : Exit → Act → World → Prop}

theorem Inv.done (C : Ctx P ops N κ0 m R tbl) (I : Inv ops N κ0 m R F ι0 H0 w0 L ι HD a w) (hL : ∀ j, j < m → L j = true) :
    Holds All F ι ⟨N, (R m).t, (R m).H, κ0 + m⟩ a w ∧ Ext All ι0 H0 κ0 w0 ι (R m).H (κ0 + m) w := by
  have hT : ∀ x, get (R (last (pT ops L x) m)).t x = get (R m).t x := fun x =>
    (C.runT m (last_le _ _) (Nat.le_refl _) fun k h1 h2 => by
      have := last_none _ m k h1 h2
      unfold pT at this
      simpa [hL k h2] using this).symm
  have hH : ∀ β, look β HD = look β (R m).H := fun β => by
    rw [I.lk β]
    exact (C.runH m (last_le _ _) (Nat.le_refl _) fun k h1 h2 => by
      have := last_none _ m k h1 h2
      unfold pH at this
      simpa [hL k h2] using this).symm
  have hp : HD.Perm (R m).H := perm_of_look I.rep.names (C.names m (Nat.le_refl _)).1 hH
  refine ⟨⟨I.defers, I.size, fun x => ?_, I.rep.perm hp, fun n _ hn => I.fr n hn⟩, I.kept.trans (Kept.perm hp), Nat.le_add_right _ _, fun n hn => I.same n (hn trivial), fun n hn => ?_⟩
  · have := I.tm x
    rw [hT x] at this
    exact this.stays (Kept.perm hp).stays
  · rcases I.dom n ((hp.map _).mem_iff.2 hn) with h | h
    · exact .inl h
    · exact .inr ⟨trivial, h⟩

/-! ## counting -/

def cnt (l : List Bool) : Nat := (l.filter (!·)).length

theorem cnt_set : ∀ (l : List Bool) (i : Nat), l[i]? = some false → cnt (l.set i true) + 1 = cnt l
  | [], i, h => by simp at h
  | b :: l, 0, h => by simp at h; subst h; simp [cnt]
  | b :: l, i + 1, h => by
    have := cnt_set l i (by simpa using h)
    cases b <;> simp [cnt] at this ⊢ <;> omega

theorem cnt_zero : ∀ (l : List Bool), cnt l = 0 → ∀ (i : Nat) (b : Bool), l[i]? = some b → b = true
  | [], _, i, b, h => by simp at h
  | c :: l, hc, i, b, h => by
    cases c with
    | false => simp [cnt] at hc
    | true =>
      cases i with
      | zero => simp at h; exact h
      | succ i => exact cnt_zero l (by simpa [cnt] using hc) i b (by simpa using h)

theorem cnt_rep (n : Nat) : cnt (List.replicate n false) = n := by simp [cnt]

def lst (listed : Array Bool) (j : Nat) : Bool := listed.getD j false

theorem lst_set {listed : Array Bool} {i : Nat} (h : i < listed.size) : lst (listed.setIfInBounds i true) = addL (lst listed) i := by
  funext k
  unfold lst addL
  simp only [Array.getD_eq_getD_getElem?, Array.getElem?_setIfInBounds]
  by_cases e : k = i
  · subst e; simp [h]
  · simp [e, Ne.symm e]

theorem ready_iff {listed : Array Bool} {i : Nat} (hs : listed.size = ops.length) : i ∈ Region.ready .any ops.toArray listed ↔ i < ops.length ∧ lst listed i = false ∧ ∀ e ∈ direct ops i, lst listed e = true := by
  unfold Region.ready
  simp only [List.mem_filter, List.mem_range, List.size_toArray, Bool.and_eq_true]
  constructor
  · rintro ⟨h1, h2, h3⟩
    refine ⟨h1, ?_, ?_⟩
    · unfold lst
      have hlt : i < listed.size := by omega
      simp [Array.getD, hlt] at h2 ⊢
      exact h2
    · intro e he
      unfold direct at he
      obtain ⟨o, ho⟩ : ∃ o, ops[i]? = some o := ⟨_, List.getElem?_eq_getElem h1⟩
      rw [ho] at he
      simp only [List.mem_map, List.mem_filter] at he
      obtain ⟨ed, ⟨h4, h5⟩, rfl⟩ := he
      simp only [List.getElem?_toArray, ho, Option.map_some, Option.getD_some] at h3
      rw [Array.all_eq_true_iff_forall_mem] at h3
      have := h3 ed (by simpa using h4)
      unfold lst
      simpa [h5] using this
  · rintro ⟨h1, h2, h3⟩
    refine ⟨h1, ?_, ?_⟩
    · unfold lst at h2
      have hlt : i < listed.size := by omega
      simp [Array.getD, hlt] at h2 ⊢
      exact h2
    · obtain ⟨o, ho⟩ : ∃ o, ops[i]? = some o := ⟨_, List.getElem?_eq_getElem h1⟩
      simp only [List.getElem?_toArray, ho, Option.map_some, Option.getD_some]
      rw [Array.all_eq_true_iff_forall_mem]
      intro ed hed
      by_cases hb : Region.binds .any ed = true
      · have := h3 ed.on (by
          unfold direct
          rw [ho]
          simp only [List.mem_map, List.mem_filter]
          exact ⟨ed, ⟨by simpa using hed, hb⟩, rfl⟩)
        unfold lst at this
        simp [hb, this]
      · simp [hb]

/-- where nothing may come up any more, all is done -/
theorem all_listed (C : Ctx P ops N κ0 m R tbl) {listed : Array Bool} (hs : listed.size = ops.length) (h : Region.ready .any ops.toArray listed = []) : ∀ j, j < ops.length → lst listed j = true := by
  intro j
  induction j using Nat.strongRecOn with
  | _ j ih =>
    intro hj
    cases hl : lst listed j with
    | true => rfl
    | false =>
      have : j ∈ Region.ready .any ops.toArray listed := (ready_iff hs).2 ⟨hj, hl, fun e he => ih e (C.edges j hj e he) (by have := C.edges j hj e he; omega)⟩
      rw [h] at this; cases this

theorem cnt_lst {listed : Array Bool} (h : cnt listed.toList = 0) : ∀ j, j < listed.size → lst listed j = true := by
  intro j hj
  have := cnt_zero listed.toList h j listed[j] (by simp [hj])
  unfold lst
  simp [Array.getD, hj, this]

theorem cnt_add {listed : Array Bool} {i f : Nat} (hi : i < listed.size) (hl : lst listed i = false) (h : cnt listed.toList = f + 1) : cnt (listed.setIfInBounds i true).toList = f := by
  have h1 : listed.toList[i]? = some false := by
    unfold lst at hl
    simp [Array.getD, hi] at hl
    simp [hi, hl]
  have := cnt_set listed.toList i h1
  have e : (listed.setIfInBounds i true).toList = listed.toList.set i true := by simp
  rw [e]; omega

/-- the tail, one by one -/
theorem forced (C : Ctx P ops N κ0 m R tbl) : ∀ (f : Nat) (q : Nat) (listed : Array Bool) (a : Act) (w : World), m ≤ q → q ≤ ops.length → listed.size = ops.length → cnt listed.toList = f → (∀ j, lst listed j = decide (j < q)) →
    wpList P ops.toArray Q (ops.drop q) a w → wpAny P .any ops.toArray Q f listed a w := by
  intro f
  induction f with
  | zero =>
    intro q listed a w hmq hq hs hc hl hw
    have hqn : q = ops.length := by
      rcases Nat.lt_or_ge q ops.length with h | h
      · have := cnt_lst hc q (by omega)
        rw [hl] at this; simp at this
      · omega
    subst hqn
    rw [List.drop_length] at hw
    refine ⟨?_, hw⟩
    cases hr : Region.ready .any ops.toArray listed with
    | nil => rfl
    | cons i r =>
      have := (ready_iff hs).1 (by rw [hr]; exact .head _ : i ∈ Region.ready .any ops.toArray listed)
      have h1 := cnt_lst hc i (by omega)
      rw [this.2.1] at h1; cases h1
  | succ f ih =>
    intro q listed a w hmq hq hs hc hl hw
    constructor
    · intro hr
      have hqn : q = ops.length := by
        rcases Nat.lt_or_ge q ops.length with h | h
        · have := all_listed C hs hr q h
          rw [hl] at this; simp at this
        · omega
      subst hqn
      rw [List.drop_length] at hw
      exact hw
    · intro i hi
      obtain ⟨h1, h2, h3⟩ := (ready_iff hs).1 hi
      rw [hl] at h2
      have hiq : q ≤ i := by simpa using h2
      have hi' : i = q := by
        rcases Nat.lt_or_ge q i with h | h
        · exfalso
          have hdown : Down ops (lst listed) := fun j hj e he => by
            rw [hl] at hj ⊢
            simp only [decide_eq_true_eq] at hj ⊢
            have := C.edges j (by omega) e he; omega
          have := C.before hdown i h1 h3 q (C.tail i (by omega) h1 q h)
          rw [hl] at this; simp at this
        · omega
      subst hi'
      obtain ⟨o, ho⟩ : ∃ o, ops[i]? = some o := ⟨_, List.getElem?_eq_getElem h1⟩
      have hdrop : ops.drop i = o :: ops.drop (i + 1) := by
        rw [List.drop_eq_getElem_cons h1]; congr 1; exact (List.getElem?_eq_some_iff.1 ho).2
      rw [hdrop] at hw
      simp only [wpList] at hw
      have hnext : ∀ a w, wpList P ops.toArray Q (ops.drop (i + 1)) a w → wpAny P .any ops.toArray Q f (listed.setIfInBounds i true) a w := fun a w h => by
        refine ih (i + 1) _ a w (by omega) (by omega) (by simpa using hs) (cnt_add (by omega) (by rw [hl]; simp) hc) (fun j => ?_) h
        rw [lst_set (by omega)]
        unfold addL
        by_cases e : j = i
        · subst e; simp
        · rw [if_neg e, hl]
          by_cases h : j < i
          · simp [h]; omega
          · simp [h]; omega
      unfold wpOp
      simp only [List.getElem?_toArray, ho]
      split
      · rename_i hwt
        rw [if_pos hwt] at hw
        exact hw.imp (Oper.wp_mono hnext) id
      · rename_i hwt
        rw [if_neg hwt] at hw
        exact hnext _ _ hw

theorem quiet (C : Ctx P ops N κ0 m R tbl) (hend : ∀ ι a w, Holds All F ι ⟨N, (R m).t, (R m).H, κ0 + m⟩ a w → Ext All ι0 H0 κ0 w0 ι (R m).H (κ0 + m) w → wpList P ops.toArray Q (ops.drop m) a w) :
    ∀ (f : Nat) (listed : Array Bool) (ι : Names) (HD : Heap) (a : Act) (w : World), listed.size = ops.length → cnt listed.toList = f → Inv ops N κ0 m R F ι0 H0 w0 (lst listed) ι HD a w → wpAny P .any ops.toArray Q f listed a w := by
  intro f
  induction f with
  | zero =>
    intro listed ι HD a w hs hc I
    have hall : ∀ j, j < m → lst listed j = true := fun j hj => cnt_lst hc j (by have := C.mle; omega)
    obtain ⟨h1, h2⟩ := I.done C hall
    refine forced C 0 m listed a w (Nat.le_refl _) C.mle hs hc (fun j => ?_) (hend ι a w h1 h2)
    by_cases h : j < m
    · simp [hall j h, h]
    · cases hl : lst listed j with
      | false => simp [h]
      | true => exact absurd (I.only j hl) h
  | succ f ih =>
    intro listed ι HD a w hs hc I
    by_cases hall : ∀ j, j < m → lst listed j = true
    · obtain ⟨h1, h2⟩ := I.done C hall
      refine forced C (f + 1) m listed a w (Nat.le_refl _) C.mle hs hc (fun j => ?_) (hend ι a w h1 h2)
      by_cases h : j < m
      · simp [hall j h, h]
      · cases hl : lst listed j with
        | false => simp [h]
        | true => exact absurd (I.only j hl) h
    · have hex : ∃ j, j < m ∧ lst listed j = false := by
        refine Classical.byContradiction fun h => hall fun j hj => ?_
        cases hl : lst listed j with
        | true => rfl
        | false => exact absurd ⟨j, hj, hl⟩ h
      obtain ⟨j, hj, hlj⟩ := hex
      constructor
      · intro hr
        have := all_listed C hs hr j (by have := C.mle; omega)
        rw [hlj] at this; cases this
      · intro i hi
        obtain ⟨h1, h2, h3⟩ := (ready_iff hs).1 hi
        have him : i < m := by
          rcases Nat.lt_or_ge i m with h | h
          · exact h
          · have := C.before I.down i h1 h3 j (C.tail i h h1 j (by omega))
            rw [hlj] at this; cases this
        obtain ⟨o, ho⟩ := C.op him
        have hst := I.step (Q := Q) C him h2 h3 ho (wpAny P .any ops.toArray Q f (listed.setIfInBounds i true)) fun ι' HD' a' w' I' => by
          refine ih _ ι' HD' a' w' (by simpa using hs) (cnt_add (by omega) h2 hc) ?_
          rw [lst_set (by omega)]; exact I'
        unfold wpOp
        simp only [List.getElem?_toArray, ho]
        split
        · rename_i hwt; rw [if_pos hwt] at hst; exact .inl hst
        · rename_i hwt; rw [if_neg hwt] at hst; exact hst

end

section
variable {P : Program} {T : Tab} {Q : Exit → St → Prop}

theorem drawOk_spec {ops : List Oper} {tbl : List (List Nat)} {m : Nat} (h : drawOk ops tbl m = true) :
    m ≤ ops.length ∧ (∀ j, j < ops.length → ∀ e ∈ direct ops j, e < j) ∧ (∀ j, j < ops.length → ∀ i ∈ row tbl j, i < j ∧ (i ∈ direct ops j ∨ ∃ k ∈ direct ops j, i ∈ row tbl k)) ∧
      (∀ j, m ≤ j → j < ops.length → ∀ i, i < j → i ∈ row tbl j) ∧ (∀ i j, i < j → j < m → tmpConf ops i j = true → i ∈ row tbl j) := by
  unfold drawOk at h
  simp only [Bool.and_eq_true, decide_eq_true_eq, List.all_eq_true, List.mem_range, Bool.or_eq_true, List.contains_iff_mem, List.any_eq_true, Bool.not_eq_true'] at h
  obtain ⟨⟨h1, h2⟩, h3⟩ := h
  refine ⟨h1, fun j hj e he => (h2 j hj).1.1 e he, fun j hj i hi => ?_, fun j hm hj i hi => ?_, fun i j hij hj hc => ?_⟩
  · have := (h2 j hj).1.2 i hi
    exact ⟨this.1, this.2⟩
  · rcases (h2 j hj).2 with h | h
    · omega
    · exact h i hi
  · rcases h3 j hj i hij with h | h
    · rw [hc] at h; cases h
    · exact h

theorem tr_draw (hT : TabOk P T) (hm : P.follows .mixedOrders = true) {id : Nat} {l : List Oper} {N k m : Nat} {t : List (Nat × V)} {H : Heap} (tbl : List (List Nat)) (prs : List (Nat × Nat)) (hN : dstsLt l N = true) (hd : drawOk l tbl m = true) (hp : pairsOk l tbl prs m = true)
    (h : vcD T P l N k (l.take m) (fun t' H' lg => confQ prs lg ∧ vcL T P l N (l.drop m) (fun σ' => Q .normal σ') t' H' (k + m)) t H []) : Tr P (.region id l.toArray true) Q ⟨N, t, H, k⟩ := by
  intro F ι a w hh
  obtain ⟨d1, d2, d3, d4, d5⟩ := drawOk_spec hd
  obtain ⟨R, r0, r1, r2, r3⟩ := vcD_run hT l N _ (l.take m) k t H [] h
  have hlen : (l.take m).length = m := by rw [List.length_take]; omega
  rw [hlen] at r3
  simp only [List.nil_append] at r3
  obtain ⟨r3, r4⟩ := r3
  have hget : ∀ j, j < m → (l.take m)[j]? = l[j]? := fun j hj => by rw [List.getElem?_take, if_pos hj]
  have hlg : ∀ j, j < m → ((l.take m).mapIdx fun j o => logOf o (k + j) (R j))[j]? = some (lgOf l k R j) := fun j hj => by
    obtain ⟨o, ho⟩ : ∃ o, l[j]? = some o := ⟨_, List.getElem?_eq_getElem (by omega)⟩
    rw [List.getElem?_mapIdx, hget j hj, ho]
    simp [lgOf, ho]
  have C : Ctx P l N k m R tbl := by
    refine ⟨fun j hj o ho => r2 j o (by rw [hget j hj]; exact ho), d1, d2, d3, d4, d5, fun i j hij hj => ?_, dstsLt_spec hN, ?_, ?_⟩
    · have hp' := hp
      unfold pairsOk at hp'
      simp only [List.all_eq_true, List.mem_range, Bool.or_eq_true, Bool.and_eq_true] at hp'
      rcases hp' j hj i hij with (h1 | h1) | ⟨h1, h2⟩
      · exact .inl (by simpa using h1)
      · have := confQ_spec r3 i j (by simpa using h1)
        simp only [List.getD, hlg i (by omega), hlg j hj, Option.getD_some] at this
        exact .inr this
      · refine .inr (disj3_quiet ?_ ?_)
        · cases ho : l[i]? with
          | none => rw [ho] at h1; simp at h1
          | some o =>
            rw [ho] at h1
            have h1 : kindOf o.op = 0 := by simpa using h1
            simp only [lgOf, ho, logOf]
            split <;> simp [writes, h1]
        · cases ho : l[j]? with
          | none => rw [ho] at h2; simp at h2
          | some o =>
            rw [ho] at h2
            have h2 : kindOf o.op = 0 := by simpa using h2
            simp only [lgOf, ho, logOf]
            split <;> simp [writes, h2]
    · rw [r1]; exact hh.rep.names
    · rw [r1]
      intro n hn
      obtain ⟨⟨n', b⟩, hmem, he⟩ := List.mem_map.1 hn
      simp only at he; subst he
      obtain ⟨l', hl', _⟩ := hh.rep.own _ b hmem
      refine Nat.lt_of_not_le fun hk => ?_
      rw [hh.fresh _ trivial hk] at hl'; cases hl'
  refine wp_region_any hm ?_
  have hdrew : ({ w with drawn := w.drawn + 1 } : World) = w.drew := rfl
  rw [hdrew]
  obtain ⟨R', K'⟩ := hh.rep.later (w' := w.drew) rfl rfl rfl (Nat.le_refl _) fun _ _ => rfl
  have hfuel : cnt (Array.replicate l.toArray.size false).toList = l.toArray.size := by simp [cnt]
  have hsz : (Array.replicate l.toArray.size false).size = l.length := by simp
  refine quiet (F := F) (ι0 := ι) (H0 := H) (w0 := w) C ?_ l.toArray.size _ ι H a w.drew hsz hfuel ?_
  · intro ι' a' w' h1 h2
    refine vcL_sound hT l (l.drop m) _ ⟨N, (R m).t, (R m).H, k + m⟩ r4 (dstsLt_spec hN) F ι' a' w' h1 _ ?_
    intro ι'' σ'' a'' w'' hK hh'' hx
    exact ⟨ι'', σ'', hK, hh'', h2.trans hx⟩
  · have hl0 : ∀ j, lst (Array.replicate l.toArray.size false) j = false := fun j => by
      unfold lst
      simp only [Array.getD_eq_getD_getElem?, Array.getElem?_replicate]
      split <;> rfl
    refine ⟨fun j hj => by rw [hl0] at hj; (cases hj), fun j hj => by rw [hl0] at hj; (cases hj), hh.defers, hh.size, fun x => ?_, R', fun β => ?_, fun i hi _ => hh.fresh _ trivial (by simp only []; omega), fun n hn => hh.fresh n trivial (by simp only []; omega), K', fun _ _ => rfl, fun n hn => .inl hn⟩
    · rw [last_zero m fun q hq => by unfold pT; rw [hl0]; rfl, r0]
      exact (hh.tmps x).stays K'.stays
    · rw [last_zero m fun q hq => by unfold pH; rw [hl0]; rfl, r1]

/-- such a region, then what is behind it -/
theorem draw_k (hT : TabOk P T) (hm : P.follows .mixedOrders = true) {id : Nat} {l : List Oper} {y : Code} {N k : Nat} {t : List (Nat × V)} {H : Heap} (m : Nat) (tbl : List (List Nat)) (prs : List (Nat × Nat)) (hN : dstsLt l N = true) (hd : drawOk l tbl m = true) (hp : pairsOk l tbl prs m = true)
    (h : ∀ K : St → Prop, (∀ σ', Tr P y Q σ' → K σ') → vcD T P l N k (l.take m) (fun t' H' lg => confQ prs lg ∧ vcL T P l N (l.drop m) K t' H' (k + m)) t H []) :
    Tr P (.seq (.region id l.toArray true) y) Q ⟨N, t, H, k⟩ :=
  tr_seq (tr_draw hT hm tbl prs hN hd hp (h _ fun _ h => h))

end
section
variable {H H' : Heap} {T : Tab} {P : Program}
theorem callD_of {g : FuncId} {args : List V} {r : V} {K : V → Prop} (h : Pf P g args r) (k : K r) : @callD P g args H ⟨K⟩ := ⟨r, h.pfH H, k⟩
@[congr] theorem opVD_congr {t t' : List (Nat × V)} {k k' : Nat} {op : Op} {KA : V → Heap → Nat → Prop} (h1 : t = t') (h2 : H = H') (h3 : k = k') : opVD T P t H k op KA = opVD T P t' H' k' op KA := by rw [h1, h2, h3]
@[congr] theorem vcD_congr {ops l : List Oper} {N κ κ' : Nat} {K : List (Nat × V) → Heap → List (List Nat × List Nat) → Prop} {t t' : List (Nat × V)} {lg lg' : List (List Nat × List Nat)} (h0 : κ = κ') (h1 : t = t') (h2 : H = H') (h3 : lg = lg') : vcD T P ops N κ l K t H lg = vcD T P ops N κ' l K t' H' lg' := by rw [h0, h1, h2, h3]
end
attribute [go_sem] opVD vcD
attribute [go_sem] Op.operands Call.operands opTmps rtT V.nm atNm opNames pickH restH kindOf stepOk nextH writes disj disj3 confQ
end Go.Sl
/- What a reading of an argument says of the argument, as abstract values; the row of a law out of its contract. -/
namespace Go.Sl
open Go.ChangeShapes Go.RowKit Go.WideShapes

/-- nothing is owned -/
def No : Nat → Prop := fun _ => False
def noN : Names := fun _ => none

structure ImpAs (P : Program) (t : TypeId) {α : Type} (ok : α → Prop) (f : α → List V) : Prop where
  nl : ∀ a, NLs (f a)
  one : ∀ a, ok a → (f a).all V.one = true
  len : ∀ a, ok a → (f a).length = P.cellsOf t
  imp : ∀ {H : Type} {enc : TypeId × Value → H} {w : World} {base : Nat} {held : Bool} {fuel : Nat} {cs : List Value} {x : DataW H × List MemPlace}, DataW.trod enc P w base (fun _ => true) held fuel t cs = some x → ∃ a, ok a ∧ VRels noN No w (f a) cs

section
variable {P : Program} {t e : TypeId}

theorem imp_bool (ht : P.underlying t = some .bool) (hc : P.cellsOf t = 1) : ImpAs P t (fun _ : Bool => True) fun b => [.val (.bool b)] where
  nl a := .cons (.val _) .nil
  one a _ := rfl
  len a _ := hc.symm
  imp h := by
    obtain ⟨b, rfl, _⟩ := DataW.trod_bool ht h
    exact ⟨b, trivial, .cons (.val _ rfl) .nil⟩

theorem imp_int {k : IntKind} (ht : P.underlying t = some (.int k)) (hc : P.cellsOf t = 1) : ImpAs P t (fun n : Int => (Lit.int k n).wf = true) fun n => [.val (.int k n)] where
  nl a := .cons (.val _) .nil
  one a _ := rfl
  len a _ := hc.symm
  imp h := by
    obtain ⟨n, rfl, _, hw⟩ := DataW.trod_int ht h
    exact ⟨n, hw, .cons (.val _ rfl) .nil⟩

theorem imp_string (ht : P.underlying t = some .string) (hc : P.cellsOf t = 1) : ImpAs P t (fun s : ByteArray => s.size ≤ maxLen) fun s => [.val (.string s)] where
  nl a := .cons (.val _) .nil
  one a _ := rfl
  len a _ := hc.symm
  imp h := by
    obtain ⟨s, rfl, _, hw⟩ := DataW.trod_string ht h
    exact ⟨s, hw, .cons (.val _ rfl) .nil⟩

def sliceOf {α : Type} (sz : Nat) (el : α → V) : Option (List α) → V
  | none => .val (.slice none 0 0)
  | some l => .ro sz (l.map el)

theorem imp_slice {α : Type} {ok : α → Prop} {f : α → List V} {sz : Nat} (el : α → V) (ht : P.underlying t = some (.slice e)) (hc : P.cellsOf t = 1) (hsz : P.cellsOf e = sz) (hpos : 0 < sz) (hel : ∀ a, ok a → (el a).cells = f a) (hnl : ∀ a, NLs (el a).cells)
    (h : ImpAs P e ok f) : ImpAs P t (fun o : Option (List α) => ∀ l, o = some l → l.length ≤ maxLen ∧ ∀ a ∈ l, ok a) fun o => [sliceOf sz el o] where
  nl o := .cons (by
    cases o with
    | none => exact .val _
    | some l => exact .ro fun v hv => by obtain ⟨a, _, rfl⟩ := List.mem_map.1 hv; exact hnl a) .nil
  one o _ := by cases o <;> rfl
  len o _ := hc.symm
  imp {H enc w base held fuel cs x} hr := by
    rcases DataW.trod_slice ht hr with ⟨rfl, _⟩ | ⟨a, len, cap, elems, rest, n, _, rfl, _, hb, hl, hm, hlen, hel', _, _⟩
    · exact ⟨none, ⟨fun l h => (nomatch h), .cons (.val _ rfl) .nil⟩⟩
    · rw [hsz] at hel'
      rcases Nat.eq_zero_or_pos len with h0 | h0
      · subst h0
        exact ⟨some [], fun l h => (by cases h; simp), .cons .ro0 .nil⟩
      · have key : ∀ i, i < len → ∃ csi, w.cells? base (a.add (i * sz)) sz = some csi ∧ ∃ b, ok b ∧ VRels noN No w (f b) csi := by
          intro i hi
          obtain ⟨y, hy⟩ : ∃ y, elems[i]? = some y := ⟨_, List.getElem?_eq_getElem (by omega)⟩
          have := hel' i hi
          rw [hy, Option.bind_eq_some_iff] at this
          obtain ⟨csi, h1, h2⟩ := this
          obtain ⟨b, hb1, hb2⟩ := h.imp h2
          exact ⟨csi, h1, b, hb1, hb2⟩
        obtain ⟨cs0, hcs0, _⟩ := key 0 h0
        obtain ⟨_, hcl, hcell⟩ := World.cells?_some hcs0
        have h00 := hcell 0 hpos
        rw [List.getElem?_eq_getElem (by omega)] at h00
        simp only [Nat.zero_mul, Addr.add, if_true] at h00
        obtain ⟨b, off, spot⟩ := a
        unfold World.cell? at h00
        split at h00
        · rename_i c ty fr hw
          split at h00
          · cases h00
          · rename_i hsp
            have hsp : spot = none := by cases spot <;> simp_all
            subst hsp
            have hadd : ∀ n, (Addr.mk b off none).add n = ⟨b, off + n, none⟩ := fun n => by unfold Addr.add; split <;> simp_all
            have hw' : w.heap[b]? = some (.cells c ty fr) := hw
            have hcell' : ∀ o, w.cell? ⟨b, o, none⟩ = c[o]? := fun o => by unfold World.cell?; simp only [hw']; simp
            have build : ∀ n, n ≤ len → ∃ l : List α, l.length = n ∧ (∀ a ∈ l, ok a) ∧ off + n * sz ≤ c.size ∧ VRels noN No w (l.flatMap f) ((c.toList.drop off).take (n * sz)) := by
              intro n
              induction n with
              | zero =>
                intro _
                refine ⟨[], rfl, by simp, ?_, by simpa using VRels.nil⟩
                have : c[off]? ≠ none := by have h00' : c[off]? = _ := h00; rw [h00']; simp
                rw [Ne, Array.getElem?_eq_none_iff] at this
                omega
              | succ n ih =>
                intro hn
                obtain ⟨l, hll, hok, hsz', hv⟩ := ih (by omega)
                obtain ⟨csi, h1, a', ha', hv'⟩ := key n (by omega)
                obtain ⟨_, hcl', hcell2⟩ := World.cells?_some h1
                have hcsi : ∀ i, i < sz → c[off + n * sz + i]? = csi[i]? := fun i hi => by
                  have := hcell2 i hi
                  rw [hadd] at this
                  have hadd2 : (Addr.mk b (off + n * sz) none).add i = ⟨b, off + n * sz + i, none⟩ := by unfold Addr.add; split <;> simp_all
                  rw [hadd2, hcell'] at this
                  exact this
                have hlast := hcsi (sz - 1) (by omega)
                rw [List.getElem?_eq_getElem (by omega)] at hlast
                obtain ⟨hlt, _⟩ := Array.getElem?_eq_some_iff.1 hlast
                refine ⟨l ++ [a'], by simp [hll], ?_, by rw [Nat.succ_mul]; omega, ?_⟩
                · intro x hx
                  rcases List.mem_append.1 hx with hx | hx
                  · exact hok x hx
                  · simp at hx; subst hx; exact ha'
                · have e1 : (c.toList.drop off).take ((n + 1) * sz) = (c.toList.drop off).take (n * sz) ++ csi := by
                    apply List.ext_getElem?
                    intro q
                    rw [Nat.succ_mul]
                    have hL : ((c.toList.drop off).take (n * sz)).length = n * sz := by simp; omega
                    by_cases hq : q < n * sz
                    · rw [List.getElem?_append_left (by omega), List.getElem?_take, List.getElem?_take, if_pos (by omega), if_pos hq]
                    · rw [List.getElem?_append_right (by omega), hL]
                      by_cases hq' : q < n * sz + sz
                      · rw [List.getElem?_take, if_pos hq', List.getElem?_drop, Array.getElem?_toList, ← hcsi (q - n * sz) (by omega)]
                        congr 1; omega
                      · rw [List.getElem?_take, if_neg hq', List.getElem?_eq_none (by omega)]
                  rw [e1]
                  simpa using hv.append hv'
            obtain ⟨l, hll, hok, hin, hv⟩ := build len (Nat.le_refl _)
            have hlf : (l.map el).flatMap V.cells = l.flatMap f := by
              rw [List.flatMap_map]
              clear hv hll build
              induction l with
              | nil => rfl
              | cons x xs ih => simp only [List.flatMap_cons, hel x (hok x (by simp)), ih (fun a ha => hok a (by simp [ha]))]
            refine ⟨some l, fun l' hl' => (by cases hl'; exact ⟨by omega, hok⟩), .cons (.ro (c := c) (e := ty) (fr := fr) ?_ (by simp [No]) hw' ?_ (by simp [hll]) hl (by simpa [hll] using hin) rfl ?_) .nil⟩
            · exact (Array.getElem?_eq_some_iff.1 hw').1
            · intro v hv
              obtain ⟨a', ha', rfl⟩ := List.mem_map.1 hv
              have h1 := h.len a' (hok a' ha')
              have h2 := h.one a' (hok a' ha')
              simp only [V.fits, hel a' (hok a' ha'), Bool.and_eq_true, beq_iff_eq]
              exact ⟨by omega, h2⟩
            · simp only [List.length_map, hlf, hll]; exact hv
        · cases h00

theorem imp_array {α : Type} {ok : α → Prop} {f : α → List V} {n sz : Nat} (ht : P.underlying t = some (.array n e)) (hsz : P.cellsOf e = sz) (hc : P.cellsOf t = n * sz) (h : ImpAs P e ok f) :
    ImpAs P t (fun l : List α => l.length = n ∧ ∀ a ∈ l, ok a) fun l => l.flatMap f where
  nl l := fun v hv => by
    obtain ⟨a, _, h2⟩ := List.mem_flatMap.1 hv
    exact h.nl a v h2
  one l hl := by
    rw [List.all_eq_true]
    intro v hv
    obtain ⟨a, h1, h2⟩ := List.mem_flatMap.1 hv
    exact List.all_eq_true.1 (h.one a (hl.2 a h1)) v h2
  len l hl := by
    rw [hc, ← hl.1]
    have := hl.2
    clear hl
    induction l with
    | nil => simp
    | cons x xs ih => simp only [List.flatMap_cons, List.length_append, List.length_cons, Nat.succ_mul, h.len x (this x (by simp)), hsz, ih (fun a ha => this a (by simp [ha]))]; omega
  imp {H enc w base held fuel cs x} hr := by
    obtain ⟨xs, m, _, _, hl, hxs, hi⟩ := DataW.trod_array ht hr
    rw [hsz] at hi
    rw [hc] at hl
    have build : ∀ q, q ≤ n → ∃ l : List α, l.length = q ∧ (∀ a ∈ l, ok a) ∧ VRels noN No w (l.flatMap f) (cs.take (q * sz)) := by
      intro q
      induction q with
      | zero => intro _; exact ⟨[], rfl, by simp, by simpa using VRels.nil⟩
      | succ q ih =>
        intro hq
        obtain ⟨l, hll, hok, hv⟩ := ih (by omega)
        have h1 := hi q (by omega)
        rw [List.getElem?_eq_getElem (by omega)] at h1
        obtain ⟨a, ha, hv'⟩ := h.imp h1
        refine ⟨l ++ [a], by simp [hll], fun x hx => ?_, ?_⟩
        · rcases List.mem_append.1 hx with hx | hx
          · exact hok x hx
          · simp at hx; subst hx; exact ha
        · rw [Nat.succ_mul, List.take_add]
          simpa using hv.append hv'
    obtain ⟨l, hll, hok, hv⟩ := build n (Nat.le_refl _)
    refine ⟨l, ⟨hll, hok⟩, ?_⟩
    rw [← hl, List.take_length] at hv
    exact hv

/-- the fields of a struct from cell o on -/
structure ImpFs (P : Program) (fs : List Field) (o tot : Nat) {α : Type} (ok : α → Prop) (f : α → List V) : Prop where
  nl : ∀ a, NLs (f a)
  one : ∀ a, ok a → (f a).all V.one = true
  len : ∀ a, ok a → o + (f a).length = tot
  imp : ∀ {H : Type} {enc : TypeId × Value → H} {w : World} {base : Nat} {held : Bool} {n : Nat} {cs : List Value}, cs.length = tot →
    (∀ fld ∈ fs, ∃ x, DataW.trod enc P w base (fun _ => true) held n fld.type ((cs.drop fld.offset).take (P.cellsOf fld.type)) = some x) → ∃ a, ok a ∧ VRels noN No w (f a) (cs.drop o)

theorem impF_nil {o : Nat} : ImpFs P [] o o (fun _ : Unit => True) fun _ => [] where
  nl _ := .nil
  one _ _ := rfl
  len _ _ := rfl
  imp hl _ := ⟨(), trivial, by rw [List.drop_eq_nil_of_le (by omega)]; exact .nil⟩

theorem impF_last {α : Type} {ok : α → Prop} {f : α → List V} {fld : Field} {o tot : Nat} (ho : fld.offset = o) (ht : o + P.cellsOf fld.type = tot) (h : ImpAs P fld.type ok f) : ImpFs P [fld] o tot ok f where
  nl := h.nl
  one := h.one
  len a ha := by rw [h.len a ha, ht]
  imp {H enc w base held n cs} hl hf := by
    obtain ⟨x, hx⟩ := hf fld (by simp)
    obtain ⟨a, ha, hv⟩ := h.imp hx
    refine ⟨a, ha, ?_⟩
    rw [ho, List.take_of_length_le (by simp; omega)] at hv
    exact hv

theorem impF_cons {α β : Type} {ok : α → Prop} {f : α → List V} {ok' : β → Prop} {f' : β → List V} {fld : Field} {fs : List Field} {o o' tot : Nat} (ho : fld.offset = o) (hs : o + P.cellsOf fld.type = o') (h : ImpAs P fld.type ok f) (h' : ImpFs P fs o' tot ok' f') :
    ImpFs P (fld :: fs) o tot (fun p : α × β => ok p.1 ∧ ok' p.2) fun p => f p.1 ++ f' p.2 where
  nl p := fun v hv => by
    rcases List.mem_append.1 hv with hv | hv
    · exact h.nl _ v hv
    · exact h'.nl _ v hv
  one p hp := by simp only [List.all_append, h.one _ hp.1, h'.one _ hp.2, Bool.and_self]
  len p hp := by have := h'.len _ hp.2; rw [List.length_append, h.len _ hp.1]; omega
  imp {H enc w base held n cs} hl hf := by
    obtain ⟨x, hx⟩ := hf fld (by simp)
    obtain ⟨a, ha, hv⟩ := h.imp hx
    obtain ⟨b, hb, hv'⟩ := h'.imp hl fun g hg => hf g (by simp [hg])
    refine ⟨(a, b), ⟨ha, hb⟩, ?_⟩
    have : cs.drop o = (cs.drop o).take (P.cellsOf fld.type) ++ cs.drop o' := by rw [← hs, ← List.drop_drop, List.take_append_drop]
    rw [this, ← ho]
    exact hv.append hv'

theorem imp_struct {α : Type} {ok : α → Prop} {f : α → List V} {fs : Array Field} {tot : Nat} (ht : P.underlying t = some (.struct fs)) (hc : P.cellsOf t = tot) (h : ImpFs P fs.toList 0 tot ok f) : ImpAs P t ok f where
  nl := h.nl
  one := h.one
  len a ha := by have := h.len a ha; omega
  imp {H enc w base held fuel cs x} hr := by
    obtain ⟨xs, n, _, _, hl, hxs, hi⟩ := DataW.trod_struct ht hr
    have := h.imp (cs := cs) (n := n) (enc := enc) (w := w) (base := base) (held := held) (by omega) fun fld hfld => by
      obtain ⟨i, hi1⟩ := List.getElem?_of_mem hfld
      have h2 := hi i fld (by simpa using hi1)
      have hlt : i < fs.size := by have := (List.getElem?_eq_some_iff.1 hi1).1; simpa using this
      rw [List.getElem?_eq_getElem (by omega)] at h2
      exact ⟨_, h2⟩
    simpa using this

/-! ## a list of arguments -/

structure ArgsAs (P : Program) (ts : List TypeId) {α : Type} (ok : α → Prop) (f : α → List V) : Prop where
  nl : ∀ a, NLs (f a)
  imp : ∀ {H : Type} {enc : TypeId × Value → H} {w : World} {held : Bool} {vs : List Value} {ds : List (DataW H)} {ps : List MemPlace}, DataW.TrodAll enc P w 0 (fun _ => true) held ts vs ds ps →
    (∀ (j : Nat) (t : TypeId) (v : Value), ts[j]? = some t → vs[j]? = some v → ∃ b, Value.okWide P w .any b t v) → ∃ a, ok a ∧ VRels noN No w (f a) vs

theorem args_nil : ArgsAs P [] (fun _ : Unit => True) fun _ => [] where
  nl _ := .nil
  imp {H enc w held vs ds ps} h _ := by
    cases vs with
    | nil => exact ⟨(), trivial, .nil⟩
    | cons v vs => exact False.elim h

/-- a type of one cell -/
theorem args_one {α β : Type} {ok : α → Prop} {f : α → V} {ok' : β → Prop} {f' : β → List V} {ts : List TypeId} (hu : (match P.underlying t with | some (.struct _) | some (.array _ _) => false | _ => true) = true) (h : ImpAs P t ok fun a => [f a]) (h' : ArgsAs P ts ok' f') :
    ArgsAs P (t :: ts) (fun p : α × β => ok p.1 ∧ ok' p.2) fun p => f p.1 :: f' p.2 where
  nl p := .cons (h.nl p.1 _ (by simp)) (h'.nl _)
  imp {H enc w held vs ds ps} hr hk := by
    match vs, ds, hr with
    | v :: vs, d :: ds, hr =>
      obtain ⟨p, q, ⟨fuel, h1⟩, h2, _⟩ := hr
      obtain ⟨a, ha, hv⟩ := h.imp h1
      obtain ⟨b, hb, hv'⟩ := h'.imp h2 fun j t v h3 h4 => hk (j + 1) t v (by simpa using h3) (by simpa using h4)
      refine ⟨(a, b), ⟨ha, hb⟩, .cons ?_ hv'⟩
      obtain ⟨bb, hok⟩ := hk 0 t v rfl rfl
      have hv1 : v.cells.toList = [v] := by
        have hcell : Cell.okWide P w .any bb t v := by
          unfold Value.okWide at hok
          split at hu
          · cases hu
          · cases hu
          · rename_i hA hB
            split at hok
            · rename_i x hx; exact absurd hx (hA x)
            · rename_i x y hx; exact absurd hx (hB x y)
            · exact hok
        cases v <;> first | rfl | (exfalso; revert hcell; unfold Cell.okWide Cell.ok; (repeat' split) <;> simp_all)
      rw [hv1] at hv
      cases hv with
      | cons hv _ => exact hv

/-- a struct or an array -/
theorem args_agg {α β : Type} {ok : α → Prop} {f : α → List V} {ok' : β → Prop} {f' : β → List V} {ts : List TypeId} (hu : (match P.underlying t with | some (.struct _) | some (.array _ _) => true | _ => false) = true) (h : ImpAs P t ok f) (h' : ArgsAs P ts ok' f') :
    ArgsAs P (t :: ts) (fun p : α × β => ok p.1 ∧ ok' p.2) fun p => .agg (f p.1) :: f' p.2 where
  nl p := .cons (.agg (h.nl p.1)) (h'.nl _)
  imp {H enc w held vs ds ps} hr hk := by
    match vs, ds, hr with
    | v :: vs, d :: ds, hr =>
      obtain ⟨p, q, ⟨fuel, h1⟩, h2, _⟩ := hr
      obtain ⟨a, ha, hv⟩ := h.imp h1
      obtain ⟨b, hb, hv'⟩ := h'.imp h2 fun j t v h3 h4 => hk (j + 1) t v (by simpa using h3) (by simpa using h4)
      refine ⟨(a, b), ⟨ha, hb⟩, .cons ?_ hv'⟩
      obtain ⟨bb, hok⟩ := hk 0 t v rfl rfl
      have hv1 : ∃ cs, v = .agg cs := by
        unfold Value.okWide at hok
        split at hok
        · exact ⟨_, hok.choose_spec.1⟩
        · exact ⟨_, hok.choose_spec.1⟩
        · rename_i hA hB
          split at hu
          · rename_i x hx; exact absurd hx (hA x)
          · rename_i x y hx; exact absurd hx (hB x y)
          · cases hu
      obtain ⟨cs, rfl⟩ := hv1
      have : VRel noN No w (.agg (f a)) (.agg cs.toList.toArray) := .agg (by simpa [Value.cells] using hv)
      simpa using this

end

/-! ## the row -/

theorem trodAll_stays {H : Type} {enc : TypeId × Value → H} {P : Program} (hl : laidOutB P = true) {W W' : World} (hb : Below W.heap.size W W') :
    ∀ {ts : List TypeId} {vs : List Value} {ds : List (DataW H)} {ps : List MemPlace}, (ts.all fun t => P.readableRec t && decide (t < P.types.size)) = true →
    DataW.TrodAll enc P W 0 (fun _ => true) true ts vs ds ps → DataW.TrodAll enc P W' 0 (fun b => decide (b < W.heap.size)) true ts vs ds ps
  | [], [], [], _, _, h => h
  | t :: ts, v :: vs, d :: ds, ps, hr, h => by
    obtain ⟨p, q, h1, h2, h3⟩ := h
    simp only [List.all_cons, Bool.and_eq_true, decide_eq_true_eq] at hr
    refine ⟨p, q, Below.trod hl hr.1.1 hr.1.2 h1 hb ?_, trodAll_stays hl hb (by simpa using hr.2) h2, h3⟩
    obtain ⟨m, hm⟩ := h1
    exact DataW.trod_lt m _ _ _ hm
  | [], _ :: _, _, _, _, h => False.elim h
  | [], [], _ :: _, _, _, h => False.elim h
  | _ :: _, [], _, _, _, h => False.elim h
  | _ :: _, _ :: _, [], _, _, h => False.elim h

theorem trodAll_length {H : Type} {enc : TypeId × Value → H} {P : Program} {W : World} {base : Nat} {sp : Nat → Bool} {held : Bool} :
    ∀ {ts : List TypeId} {vs : List Value} {ds : List (DataW H)} {ps : List MemPlace}, DataW.TrodAll enc P W base sp held ts vs ds ps → ds.length = ts.length
  | [], [], [], _, _ => rfl
  | _ :: _, _ :: _, _ :: _, _, ⟨_, _, _, h, _⟩ => by simp [trodAll_length h]
  | [], _ :: _, _, _, h => False.elim h
  | [], [], _ :: _, _, h => False.elim h
  | _ :: _, [], _, _, h => False.elim h
  | _ :: _, _ :: _, [], _, h => False.elim h

/-- A law: whatever the input, true; what it was given reads as it did. -/
theorem law_lifted {C : Checked} {os : Os} {f : FuncId} {fn : Func} {s : ChangeSpec} {α : Type} {ok : α → Prop} {g : α → List V} {rt : TypeId} (own : ownKnob C.prog.godebug = none) (started : os.Started) (noInit : C.prog.inits.idxOf? f = none) (hfn : C.prog.funcs[f]? = some fn)
    (hl : laidOutB C.prog = true) (hts : (fn.params.toList.all fun t => C.prog.readableRec t && decide (t < C.prog.types.size)) = true) (hrt : fn.resultTypes = #[rt]) (hbool : C.prog.underlying rt = some .bool) (hvars : s.vars = [])
    (hspec : ∀ (H : Type) (ds : List (DataW H)), ds.length = fn.params.size → s.fn H ds = { results := [.lit (.bool true)], args := ds }) {H : Type} {enc : TypeId × Value → H} {conds : List PathCond}
    (witness : ∃ (w : World) (tape : Tape) (i : Input), w.os = os ∧ (w.forCall tape i).Shaped C.prog ∧ i.vars = [] ∧ Input.okWide C.prog (w.forCall tape i) .any w.heap.size f i ∧
      s.pre6 enc C.prog fn conds false (w.forCall tape i).memory i.args ∧ Assume.holds {} C.prog (lone (Frame.enter C.prog f i.args .normal) [] (w.forCall tape i)))
    (ha : ArgsAs C.prog fn.params.toList ok g) (hp : ∀ a, ok a → Pf C.prog f (g a) (.val (.bool true))) :
    ReturnsInHanded {} C os f .any (s.pre6 enc C.prog fn conds false) (s.post enc C.prog fn false true false false) := by
  refine returnsInHanded_of_change_sized own started noInit hfn witness ?_
  intro W base args ds gs before hval hW _ _ _
  have hW' := hW
  obtain ⟨p, q, hA, hV, rfl, hfz, hnd⟩ := hW
  rw [hvars] at hV
  obtain ⟨rfl, rfl, rfl⟩ := trodVars_none hV
  obtain ⟨a, hok, hv⟩ := ha.imp hA fun j t v h1 h2 => ⟨base, hval j t v (by simpa using h1) (by simpa using h2)⟩
  refine ((hp a hok).calls noN No W args.toList (fun _ h => False.elim h) hv).mono ?_
  rintro e W' ⟨cv, he, hr, h1, h2, h3, h4, h5⟩
  have hcv : cv = .bool true := by cases hr; rfl
  subst hcv
  have bel : Below W.heap.size W W' := ⟨h1, h2, h3, h4, fun k hk => h5 k hk⟩
  have hlen := trodAll_length hA
  have hs := hspec H ds (by simpa using hlen)
  refine ⟨_, he, ds, [], p ++ [], [], p, [], hW', ?_, ?_, ?_, bel.frame _, fun h => by cases h⟩
  · rw [hrt, List.append_nil, hs]
    exact trodAll_mk1 (shut_bool hbool _)
  · rw [List.append_nil, hs]
    exact trodAll_stays hl bel hts hA
  · rw [List.append_nil, hs, hvars]
    rfl
end Go.Sl
/- Loops as they are used; what is forgotten at their heads; numbers. -/
namespace Go.Sl

theorem get_mem : ∀ (t : List (Nat × V)) (i : Nat), get t i = .any ∨ (i, get t i) ∈ t
  | [], _ => .inl rfl
  | (j, v) :: r, i => by
    by_cases h : i = j
    · subst h; right; simp [get]
    · rcases get_mem r i with h' | h'
      · left; simp [get, h, h']
      · right; simp only [get, h, if_false]; exact List.mem_cons_of_mem _ h'

theorem nodup_of_map {α β : Type} (f : α → β) {l : List α} (h : (l.map f).Nodup) : l.Nodup := (List.pairwise_map.1 h).imp fun {a b} h e => h (congrArg f e)

theorem Weaker.drop {N k : Nat} {t : List (Nat × V)} {H : Heap} : ∀ G : Heap, Weaker ⟨N, t, G ++ H, k⟩ ⟨N, t, H, k⟩
  | [] => Weaker.refl _
  | p :: r => by
    have h := Weaker.del (N := N) (k := k) (t := t) (H := (p :: r) ++ H) p.1
    simp only [List.cons_append, Sl.del, if_true] at h
    exact h.trans (Weaker.drop r)

theorem Weaker.of {N k : Nat} {H H' : Heap} {t t' : List (Nat × V)} (ht : ∀ p ∈ t', get t p.1 = p.2) (hn : (H'.map Prod.fst).Nodup) (hH : ∀ p ∈ H', look p.1 H = some p.2) : Weaker ⟨N, t, H, k⟩ ⟨N, t', H', k⟩ := by
  refine (Weaker.tmps (t' := t') fun i => ?_).trans ⟨fun F ι a w hh => ?_⟩
  · rcases get_mem t' i with h | h
    · exact .inl h
    · exact .inr (ht _ h).symm
  · have hN := hh.rep.names
    simp only [] at hN
    have hnd : H.Nodup := nodup_of_map _ hN
    have hnd' : H'.Nodup := nodup_of_map _ hn
    have p1 : (H.filter fun p => decide (p.1 ∈ H'.map Prod.fst)).Perm H' := by
      rw [List.perm_ext_iff_of_nodup (hnd.filter _) hnd']
      intro p
      simp only [List.mem_filter, decide_eq_true_eq]
      constructor
      · rintro ⟨h1, h2⟩
        obtain ⟨q, hq, he⟩ := List.mem_map.1 h2
        have e1 := hH q hq
        have e2 := look_of_mem (n := p.1) (b := p.2) hN h1
        rw [← he, e1] at e2
        have e3 := Option.some.inj e2
        have : q = p := Prod.ext he e3
        exact this ▸ hq
      · intro h
        exact ⟨look_mem (hH p h), List.mem_map_of_mem h⟩
    have p2 : H.Perm ((H.filter fun p => !decide (p.1 ∈ H'.map Prod.fst)) ++ H') := by
      refine ((List.filter_append_perm (fun p => decide (p.1 ∈ H'.map Prod.fst)) H).symm.trans ?_)
      exact (List.perm_append_comm).trans (p1.append_left _)
    exact ((Weaker.perm p2).trans (Weaker.drop _)).h F ι a w hh

theorem loop_k {P : Program} {c : Code} {Q : Exit → St → Prop} {σ : St} {α : Type} (S : α → St) (μ : α → Nat) (a0 : α) (h0 : Weaker σ (S a0)) (round : ∀ a, Tr P c (Then (fun σ' => ∃ a', μ a' < μ a ∧ Weaker σ' (S a')) Q) (S a)) : Tr P (.loop c) Q σ :=
  tr_loop (fun n σ => ∃ a, μ a = n ∧ Weaker σ (S a)) (μ a0) ⟨a0, rfl, h0⟩ fun n σ ⟨a, ha, hw⟩ =>
    Tr.weaken hw ((round a).mono fun e σ' h => by
      cases e with
      | normal => obtain ⟨a', h1, h2⟩ := h; exact ⟨μ a', by omega, a', rfl, h2⟩
      | _ => exact h)

/-- with what is known at the loop's head -/
theorem loop_p {P : Program} {c : Code} {Q : Exit → St → Prop} {σ : St} {α : Type} (S : α → St) (I : α → Prop) (μ : α → Nat) (a0 : α) (hI : I a0) (h0 : Weaker σ (S a0)) (round : ∀ a, I a → Tr P c (Then (fun σ' => ∃ a', I a' ∧ μ a' < μ a ∧ Weaker σ' (S a')) Q) (S a)) : Tr P (.loop c) Q σ :=
  loop_k (α := { a // I a }) (fun a => S a.1) (fun a => μ a.1) ⟨a0, hI⟩ h0 fun a => (round a.1 a.2).mono fun e σ' h => by
    cases e with
    | normal => obtain ⟨a', h1, h2, h3⟩ := h; exact ⟨⟨a', h1⟩, h2, h3⟩
    | _ => exact h

/-- a region at the end of a piece -/
theorem region_e {P : Program} {T : Tab} {Q : Exit → St → Prop} (hT : TabOk P T) {id : Nat} {l : List Oper} {N k : Nat} {t : List (Nat × V)} {H : Heap} (hN : dstsLt l N = true)
    (h : ∀ K : St → Prop, (∀ σ', Q .normal σ' → K σ') → vcL T P l N l K t H k) : Tr P (.region id l.toArray false) Q ⟨N, t, H, k⟩ := tr_region hT hN (h _ fun _ h => h)

theorem draw_e {P : Program} {T : Tab} {Q : Exit → St → Prop} (hT : TabOk P T) (hm : P.follows .mixedOrders = true) {id : Nat} {l : List Oper} {N k : Nat} {t : List (Nat × V)} {H : Heap} (m : Nat) (tbl : List (List Nat)) (prs : List (Nat × Nat)) (hN : dstsLt l N = true) (hd : drawOk l tbl m = true) (hp : pairsOk l tbl prs m = true)
    (h : ∀ K : St → Prop, (∀ σ', Q .normal σ' → K σ') → vcD T P l N k (l.take m) (fun t' H' lg => confQ prs lg ∧ vcL T P l N (l.drop m) K t' H' (k + m)) t H []) :
    Tr P (.region id l.toArray true) Q ⟨N, t, H, k⟩ := tr_draw hT hm tbl prs hN hd hp (h _ fun _ h => h)

theorem block_k {P : Program} {Q : Exit → St → Prop} {σ : St} {id : Nat} {c : Code} (h : ∀ K : St → Prop, (∀ σ', Q .normal σ' → K σ') → Tr P c (InBlock id fun e => match e with | .normal => K | e => Q e) σ) : Tr P (.block id c) Q σ :=
  tr_block ((h (Q .normal) fun _ h => h).mono fun e σ' h => by
    cases e with
    | exit i => simp only [InBlock] at h ⊢; split <;> simp_all
    | _ => exact h)

/-! ## numbers: below 2 ^ 16 and below 2 ^ 64, as Nat -/

theorem ofInt_nat (w n : Nat) : BitVec.ofInt w (n : Int) = BitVec.ofNat w n := BitVec.ofInt_natCast w n

theorem w16 (n : Nat) (h : n < 65536) : IntKind.u16.wrap (n : Int) = n := IntWalk.u16_in _ (by omega)
theorem w64 (n : Nat) (h : n < 18446744073709551616) : IntKind.u64.wrap (n : Int) = n := IntWalk.u64_in _ (by omega)

section
variable {m n : Nat}
theorem and16 (hm : m < 65536) (hn : n < 65536) : (BitVec.ofInt 16 (m : Int) &&& BitVec.ofInt 16 (n : Int)).toNat = m &&& n := by
  rw [ofInt_nat, ofInt_nat, BitVec.toNat_and, BitVec.toNat_ofNat, BitVec.toNat_ofNat, Nat.mod_eq_of_lt (show m < 2 ^ 16 from hm), Nat.mod_eq_of_lt (show n < 2 ^ 16 from hn)]
theorem or16 (hm : m < 65536) (hn : n < 65536) : (BitVec.ofInt 16 (m : Int) ||| BitVec.ofInt 16 (n : Int)).toNat = m ||| n := by
  rw [ofInt_nat, ofInt_nat, BitVec.toNat_or, BitVec.toNat_ofNat, BitVec.toNat_ofNat, Nat.mod_eq_of_lt (show m < 2 ^ 16 from hm), Nat.mod_eq_of_lt (show n < 2 ^ 16 from hn)]
theorem andNot_bits (w m n : Nat) : BitVec.ofNat w m &&& ~~~BitVec.ofNat w n = BitVec.ofNat w m ^^^ (BitVec.ofNat w m &&& BitVec.ofNat w n) := by
  ext i hi
  simp only [BitVec.getElem_and, BitVec.getElem_not, BitVec.getElem_xor]
  cases (BitVec.ofNat w m)[i] <;> cases (BitVec.ofNat w n)[i] <;> rfl
theorem andNot16 (hm : m < 65536) (hn : n < 65536) : (BitVec.ofInt 16 (m : Int) &&& ~~~BitVec.ofInt 16 (n : Int)).toNat = m ^^^ (m &&& n) := by
  rw [ofInt_nat, ofInt_nat, andNot_bits, BitVec.toNat_xor, BitVec.toNat_and, BitVec.toNat_ofNat, BitVec.toNat_ofNat, Nat.mod_eq_of_lt (show m < 2 ^ 16 from hm), Nat.mod_eq_of_lt (show n < 2 ^ 16 from hn)]
theorem and64 (hm : m < 18446744073709551616) (hn : n < 18446744073709551616) : (BitVec.ofInt 64 (m : Int) &&& BitVec.ofInt 64 (n : Int)).toNat = m &&& n := by
  rw [ofInt_nat, ofInt_nat, BitVec.toNat_and, BitVec.toNat_ofNat, BitVec.toNat_ofNat, Nat.mod_eq_of_lt (show m < 2 ^ 64 from hm), Nat.mod_eq_of_lt (show n < 2 ^ 64 from hn)]
theorem or64 (hm : m < 18446744073709551616) (hn : n < 18446744073709551616) : (BitVec.ofInt 64 (m : Int) ||| BitVec.ofInt 64 (n : Int)).toNat = m ||| n := by
  rw [ofInt_nat, ofInt_nat, BitVec.toNat_or, BitVec.toNat_ofNat, BitVec.toNat_ofNat, Nat.mod_eq_of_lt (show m < 2 ^ 64 from hm), Nat.mod_eq_of_lt (show n < 2 ^ 64 from hn)]
theorem xor64 (hm : m < 18446744073709551616) (hn : n < 18446744073709551616) : (BitVec.ofInt 64 (m : Int) ^^^ BitVec.ofInt 64 (n : Int)).toNat = m ^^^ n := by
  rw [ofInt_nat, ofInt_nat, BitVec.toNat_xor, BitVec.toNat_ofNat, BitVec.toNat_ofNat, Nat.mod_eq_of_lt (show m < 2 ^ 64 from hm), Nat.mod_eq_of_lt (show n < 2 ^ 64 from hn)]
theorem andNot64 (hm : m < 18446744073709551616) (hn : n < 18446744073709551616) : (BitVec.ofInt 64 (m : Int) &&& ~~~BitVec.ofInt 64 (n : Int)).toNat = m ^^^ (m &&& n) := by
  rw [ofInt_nat, ofInt_nat, andNot_bits, BitVec.toNat_xor, BitVec.toNat_and, BitVec.toNat_ofNat, BitVec.toNat_ofNat, Nat.mod_eq_of_lt (show m < 2 ^ 64 from hm), Nat.mod_eq_of_lt (show n < 2 ^ 64 from hn)]
end

/-! ## operations on numbers, as simp takes them: what is asked of the numbers goes to omega -/
section
variable {k : IntKind} {x y : Int} {K : V → Prop}
theorem bi_add : binIV .add k x y K = K (.val (.int k (k.wrap (x + y)))) := rfl
theorem bi_sub : binIV .sub k x y K = K (.val (.int k (k.wrap (x - y)))) := rfl
theorem bi_mul : binIV .mul k x y K = K (.val (.int k (k.wrap (x * y)))) := rfl
theorem bi_quo : binIV .quo k x y K = (y ≠ 0 ∧ K (.val (.int k (k.wrap (x.tdiv y))))) := rfl
theorem bi_rem : binIV .rem k x y K = (y ≠ 0 ∧ K (.val (.int k (x.tmod y)))) := rfl
theorem bi_eql : binIV .eql k x y K = K (.val (.bool (x == y))) := rfl
theorem bi_neq : binIV .neq k x y K = K (.val (.bool (x != y))) := rfl
theorem bi_lss : binIV .lss k x y K = K (.val (.bool (decide (x < y)))) := rfl
theorem bi_leq : binIV .leq k x y K = K (.val (.bool (decide (x ≤ y)))) := rfl
theorem bi_gtr : binIV .gtr k x y K = K (.val (.bool (decide (x > y)))) := rfl
theorem bi_geq : binIV .geq k x y K = K (.val (.bool (decide (x ≥ y)))) := rfl

theorem bi_and16 (h1 : 0 ≤ x) (h2 : x < 65536) (h3 : 0 ≤ y) (h4 : y < 65536) : binIV .and .u16 x y K = K (.val (.int .u16 ((x.toNat &&& y.toNat : Nat) : Int))) := by
  obtain ⟨m, rfl⟩ := Int.eq_ofNat_of_zero_le h1
  obtain ⟨n, rfl⟩ := Int.eq_ofNat_of_zero_le h3
  show K (.val (.int .u16 (IntKind.u16.wrap (((BitVec.ofInt 16 (m : Int) &&& BitVec.ofInt 16 (n : Int)).toNat : Nat) : Int)))) = _
  rw [and16 (by omega) (by omega), w16 _ (Nat.lt_of_le_of_lt Nat.and_le_left (by omega))]; rfl
theorem bi_or16 (h1 : 0 ≤ x) (h2 : x < 65536) (h3 : 0 ≤ y) (h4 : y < 65536) : binIV .or .u16 x y K = K (.val (.int .u16 ((x.toNat ||| y.toNat : Nat) : Int))) := by
  obtain ⟨m, rfl⟩ := Int.eq_ofNat_of_zero_le h1
  obtain ⟨n, rfl⟩ := Int.eq_ofNat_of_zero_le h3
  show K (.val (.int .u16 (IntKind.u16.wrap (((BitVec.ofInt 16 (m : Int) ||| BitVec.ofInt 16 (n : Int)).toNat : Nat) : Int)))) = _
  rw [or16 (by omega) (by omega), w16 _ (Nat.or_lt_two_pow (n := 16) (by omega) (by omega))]; rfl
theorem bi_andNot16 (h1 : 0 ≤ x) (h2 : x < 65536) (h3 : 0 ≤ y) (h4 : y < 65536) : binIV .andNot .u16 x y K = K (.val (.int .u16 ((x.toNat ^^^ (x.toNat &&& y.toNat) : Nat) : Int))) := by
  obtain ⟨m, rfl⟩ := Int.eq_ofNat_of_zero_le h1
  obtain ⟨n, rfl⟩ := Int.eq_ofNat_of_zero_le h3
  show K (.val (.int .u16 (IntKind.u16.wrap (((BitVec.ofInt 16 (m : Int) &&& ~~~BitVec.ofInt 16 (n : Int)).toNat : Nat) : Int)))) = _
  rw [andNot16 (by omega) (by omega), w16 _ (Nat.xor_lt_two_pow (n := 16) (by omega) (Nat.lt_of_le_of_lt Nat.and_le_left (by omega)))]; rfl
theorem bi_sub16 (h1 : 0 ≤ y) (h2 : y ≤ x) (h3 : x < 65536) : binIV .sub .u16 x y K = K (.val (.int .u16 ((x.toNat - y.toNat : Nat) : Int))) := by
  show K (.val (.int .u16 (IntKind.u16.wrap (x - y)))) = _
  rw [show x - y = ((x.toNat - y.toNat : Nat) : Int) by omega, w16 _ (by omega)]
theorem bi_and64 (h1 : 0 ≤ x) (h2 : x < 18446744073709551616) (h3 : 0 ≤ y) (h4 : y < 18446744073709551616) : binIV .and .u64 x y K = K (.val (.int .u64 ((x.toNat &&& y.toNat : Nat) : Int))) := by
  obtain ⟨m, rfl⟩ := Int.eq_ofNat_of_zero_le h1
  obtain ⟨n, rfl⟩ := Int.eq_ofNat_of_zero_le h3
  show K (.val (.int .u64 (IntKind.u64.wrap (((BitVec.ofInt 64 (m : Int) &&& BitVec.ofInt 64 (n : Int)).toNat : Nat) : Int)))) = _
  rw [and64 (by omega) (by omega), w64 _ (Nat.lt_of_le_of_lt Nat.and_le_left (by omega))]; rfl
theorem bi_or64 (h1 : 0 ≤ x) (h2 : x < 18446744073709551616) (h3 : 0 ≤ y) (h4 : y < 18446744073709551616) : binIV .or .u64 x y K = K (.val (.int .u64 ((x.toNat ||| y.toNat : Nat) : Int))) := by
  obtain ⟨m, rfl⟩ := Int.eq_ofNat_of_zero_le h1
  obtain ⟨n, rfl⟩ := Int.eq_ofNat_of_zero_le h3
  show K (.val (.int .u64 (IntKind.u64.wrap (((BitVec.ofInt 64 (m : Int) ||| BitVec.ofInt 64 (n : Int)).toNat : Nat) : Int)))) = _
  rw [or64 (by omega) (by omega), w64 _ (Nat.or_lt_two_pow (n := 64) (by omega) (by omega))]; rfl
theorem bi_xor64 (h1 : 0 ≤ x) (h2 : x < 18446744073709551616) (h3 : 0 ≤ y) (h4 : y < 18446744073709551616) : binIV .xor .u64 x y K = K (.val (.int .u64 ((x.toNat ^^^ y.toNat : Nat) : Int))) := by
  obtain ⟨m, rfl⟩ := Int.eq_ofNat_of_zero_le h1
  obtain ⟨n, rfl⟩ := Int.eq_ofNat_of_zero_le h3
  show K (.val (.int .u64 (IntKind.u64.wrap (((BitVec.ofInt 64 (m : Int) ^^^ BitVec.ofInt 64 (n : Int)).toNat : Nat) : Int)))) = _
  rw [xor64 (by omega) (by omega), w64 _ (Nat.xor_lt_two_pow (n := 64) (by omega) (by omega))]; rfl
theorem bi_andNot64 (h1 : 0 ≤ x) (h2 : x < 18446744073709551616) (h3 : 0 ≤ y) (h4 : y < 18446744073709551616) : binIV .andNot .u64 x y K = K (.val (.int .u64 ((x.toNat ^^^ (x.toNat &&& y.toNat) : Nat) : Int))) := by
  obtain ⟨m, rfl⟩ := Int.eq_ofNat_of_zero_le h1
  obtain ⟨n, rfl⟩ := Int.eq_ofNat_of_zero_le h3
  show K (.val (.int .u64 (IntKind.u64.wrap (((BitVec.ofInt 64 (m : Int) &&& ~~~BitVec.ofInt 64 (n : Int)).toNat : Nat) : Int)))) = _
  rw [andNot64 (by omega) (by omega), w64 _ (Nat.xor_lt_two_pow (n := 64) (by omega) (Nat.lt_of_le_of_lt Nat.and_le_left (by omega)))]; rfl
theorem bi_sub64 (h1 : 0 ≤ y) (h2 : y ≤ x) (h3 : x < 18446744073709551616) : binIV .sub .u64 x y K = K (.val (.int .u64 ((x.toNat - y.toNat : Nat) : Int))) := by
  show K (.val (.int .u64 (IntKind.u64.wrap (x - y)))) = _
  rw [show x - y = ((x.toNat - y.toNat : Nat) : Int) by omega, w64 _ (by omega)]
theorem neg_u64 (h1 : 0 < x) (h2 : x < 18446744073709551616) : IntKind.u64.wrap (0 - x) = ((18446744073709551616 - x.toNat : Nat) : Int) := by
  simp [IntKind.wrap, IntKind.bits, IntKind.signed]; omega
theorem neg_u64' (h1 : 0 < x) (h2 : x < 18446744073709551616) : IntKind.u64.wrap (-x) = ((18446744073709551616 - x.toNat : Nat) : Int) := by
  rw [← neg_u64 h1 h2, Int.zero_sub]

/-- 2 ^ n, not to be looked into -/
def pw (n : Nat) : Nat := 2 ^ n
theorem pw_pos (n : Nat) : 0 < pw n := Nat.two_pow_pos n
theorem pw_lt {n m : Nat} (h : n < m) : pw n < 2 ^ m := Nat.pow_lt_pow_right (by omega) h
theorem testBit_pw (n i : Nat) : (pw n).testBit i = decide (n = i) := Nat.testBit_two_pow
theorem sh_l16 (h1 : 0 ≤ y) (h2 : y < 16) : shIV .shl .u16 1 y K = K (.val (.int .u16 ((pw y.toNat : Nat) : Int))) := by
  unfold pw
  obtain ⟨n, rfl⟩ := Int.eq_ofNat_of_zero_le h1
  have e : min ((n : Int)).toNat IntKind.u16.bits = n := by simp [IntKind.bits]; omega
  show (0 ≤ (n : Int) ∧ K (.val (.int .u16 (IntKind.u16.wrap (1 * 2 ^ (min ((n : Int)).toNat IntKind.u16.bits)))))) = _
  rw [e, Int.one_mul, show ((2 : Int) ^ n) = ((2 ^ n : Nat) : Int) by simp, w16 _ (Nat.pow_lt_pow_right (by omega) (show n < 16 by omega))]
  simp
/-- m without its n lowest bits, not to be looked into -/
def shr (m n : Nat) : Nat := m >>> n
theorem sh_r16 (h1 : 0 ≤ y) (h2 : y < 16) (h3 : 0 ≤ x) : shIV .shr .u16 x y K = K (.val (.int .u16 ((shr x.toNat y.toNat : Nat) : Int))) := by
  unfold shr
  obtain ⟨n, rfl⟩ := Int.eq_ofNat_of_zero_le h1
  obtain ⟨m, rfl⟩ := Int.eq_ofNat_of_zero_le h3
  have e : min ((n : Int)).toNat IntKind.u16.bits = n := by simp [IntKind.bits]; omega
  show (0 ≤ (n : Int) ∧ K (.val (.int .u16 (Int.fdiv (m : Int) (2 ^ (min ((n : Int)).toNat IntKind.u16.bits)))))) = _
  rw [e, Int.toNat_natCast, Int.toNat_natCast, Nat.shiftRight_eq_div_pow, show ((2 : Int) ^ n) = ((2 ^ n : Nat) : Int) by simp, Int.natCast_ediv, Int.fdiv_eq_ediv_of_nonneg _ (Int.natCast_nonneg _)]
  simp

theorem wrap_i64 (h : -9223372036854775808 ≤ x) (h' : x ≤ 9223372036854775807) : IntKind.i64.wrap x = x := IntWalk.i64_in _ ⟨h, h'⟩
theorem wrap_u64 (h : 0 ≤ x) (h' : x < 18446744073709551616) : IntKind.u64.wrap x = x := IntWalk.u64_in _ (by omega)
theorem wrap_u16 (h : 0 ≤ x) (h' : x < 65536) : IntKind.u16.wrap x = x := IntWalk.u16_in _ (by omega)
theorem wrap_u8 (h : 0 ≤ x) (h' : x < 256) : IntKind.u8.wrap x = x := IntWalk.u8_in _ (by omega)
end
/-! ## parts -/
@[go_sem low] theorem partV_one (n : Nat) (cs : List V) (j : Nat) : partV false n cs j = cs.getD j .any := rfl
@[go_sem low] theorem partV_agg (n : Nat) (cs : List V) (j : Nat) : partV true n cs j = .agg (cut j n cs) := rfl

/-! ## what fits one cell -/
@[go_sem] theorem fits_val (v : Value) : V.fits 1 (.val v) = true := rfl
@[go_sem] theorem fits_ptr (n i j : Nat) : V.fits 1 (.ptr n i j) = true := rfl
@[go_sem] theorem fits_sl (n i l : Nat) : V.fits 1 (.sl n i l) = true := rfl
@[go_sem] theorem fits_ro (n : Nat) (l : List V) : V.fits 1 (.ro n l) = true := rfl
@[go_sem] theorem fits_rp (l : List V) (j : Nat) : V.fits 1 (.rp l j) = true := rfl
@[go_sem] theorem fits_map (n : Nat) : V.fits 1 (.map n) = true := rfl

attribute [go_sem ↓] bi_add bi_sub bi_mul bi_quo bi_rem bi_eql bi_neq bi_lss bi_leq bi_gtr bi_geq bi_and16 bi_or16 bi_andNot16 bi_and64 bi_or64 bi_xor64 bi_andNot64 sh_l16 sh_r16
attribute [go_sem] neg_u64 neg_u64' wrap_i64 wrap_u64 wrap_u16 wrap_u8
attribute [go_sem ↓ high] bi_sub16 bi_sub64
end Go.Sl
/- What is no longer owned is immutable from then on: slices and pointers seen by what they hold, through all their parts. -/
namespace Go.Sl

/-- an element, cell by cell -/
def elemF (g : V → V) : V → V
  | .agg cs => .agg (cs.map g)
  | v => g v

/-- as it is seen when only the names of S stay owned; d: how deep -/
def frz (S : List Nat) (H : Heap) : Nat → V → V
  | 0, v => v
  | d + 1, v =>
    match v with
    | .sl n q len =>
      if n ∈ S then v else
      match look n H with
      | some (.rows sz es) => if q + len ≤ es.length then .ro sz (((es.drop q).take len).map (elemF (frz S H d))) else v
      | _ => v
    | .ptr n i j =>
      if n ∈ S then v else
      match look n H with
      | some (.rows _ es) => if i < es.length then .rp ((es.getD i .any).cells.map (frz S H d)) j else v
      | _ => v
    | .agg cs => .agg (cs.map (frz S H d))
    | .tup vs => .tup (vs.map (frz S H d))
    | v => v

def frzB (S : List Nat) (H : Heap) (d : Nat) : B → B
  | .rows sz es => .rows sz (es.map (elemF (frz S H d)))
  | .map es => .map (es.map fun e => (e.1, frz S H d e.2))

theorem frz_agg {S : List Nat} {H : Heap} {d : Nat} {v : V} (h : ∀ cs, v ≠ .agg cs) : ∀ cs, frz S H d v ≠ .agg cs := by
  intro cs
  cases d with
  | zero => exact h cs
  | succ d =>
    unfold frz
    split
    · split
      · exact h cs
      · split
        · split
          · simp
          · exact h cs
        · exact h cs
    · split
      · exact h cs
      · split
        · split
          · simp
          · exact h cs
        · exact h cs
    · rename_i cs' ; exact absurd rfl (h cs')
    · simp
    · exact h cs

theorem cells_one {v : V} (h : ∀ cs, v ≠ .agg cs) : v.cells = [v] := by
  cases v <;> first | rfl | exact absurd rfl (h _)

theorem elemF_cells {S : List Nat} {H : Heap} {d : Nat} (v : V) : (elemF (frz S H d) v).cells = v.cells.map (frz S H d) := by
  by_cases h : ∃ cs, v = .agg cs
  · obtain ⟨cs, rfl⟩ := h; rfl
  · have h' : ∀ cs, v ≠ .agg cs := fun cs e => h ⟨cs, e⟩
    have e : elemF (frz S H d) v = frz S H d v := by
      cases v <;> first | rfl | exact absurd rfl (h' _)
    rw [e, cells_one (frz_agg h'), cells_one h']; rfl

theorem frz_one {S : List Nat} {H : Heap} {d : Nat} {v : V} (h : v.one = true) : (frz S H d v).one = true := by
  cases d with
  | zero => exact h
  | succ d =>
    unfold frz
    split
    · split
      · exact h
      · split
        · split
          · rfl
          · exact h
        · exact h
    · split
      · exact h
      · split
        · split
          · rfl
          · exact h
        · exact h
    · cases h
    · cases h
    · exact h

theorem elemF_fits {S : List Nat} {H : Heap} {d sz : Nat} {v : V} (h : v.fits sz = true) : (elemF (frz S H d) v).fits sz = true := by
  rw [fits_iff] at h ⊢
  rw [elemF_cells]
  refine ⟨by simpa using h.1, fun c hc => ?_⟩
  obtain ⟨c', hc', rfl⟩ := List.mem_map.1 hc
  exact frz_one (h.2 c' hc')

theorem elemF_flat {S : List Nat} {H : Heap} {d : Nat} (es : List V) : (es.map (elemF (frz S H d))).flatMap V.cells = (es.flatMap V.cells).map (frz S H d) := by
  induction es with
  | nil => rfl
  | cons e es ih => simp only [List.map_cons, List.flatMap_cons, List.map_append, ih, elemF_cells]

section
variable {F : Nat → Prop} {ι ι' : Names} {O O' : Nat → Prop} {H H' : Heap} {w w' : World} {S : List Nat}

theorem VRels.mapF {g : V → V} (h : ∀ v x, VRel ι O w v x → VRel ι O' w (g v) x) : ∀ {vs : List V} {xs : List Value}, VRels ι O w vs xs → VRels ι O' w (vs.map g) xs
  | _, _, .nil => .nil
  | _, _, .cons h1 hs => .cons (h _ _ h1) (VRels.mapF h hs)

theorem callF_mono {P : Program} {f : FuncId} {args : List V} {H : Heap} {k : Nat} {K K' : V → Heap → Nat → Prop} (h : @callF P f args H k ⟨K⟩) (hk : ∀ v H k, K v H k → K' v H k) : @callF P f args H k ⟨K'⟩ := Fn.mono h hk

theorem opV_mono {T : Tab} {P : Program} {t : List (Nat × V)} {H : Heap} {k : Nat} {op : Op} {K K' : V → Heap → Nat → Prop} (h : opV T P t H k op K) (hk : ∀ v H k, K v H k → K' v H k) : opV T P t H k op K' := by
  cases hc : isCall op with
  | false =>
    obtain ⟨v, H', k', h1, h2⟩ := opV_pt hc K h
    exact h2 K' (hk _ _ _ h1)
  | true =>
    unfold isCall at hc
    split at hc
    · rename_i f args ts
      unfold opV at h ⊢
      dsimp only at h ⊢
      split at h
      · rename_i g fs cs hf
        first | exact callF_mono h hk | (simp only [hf]; exact callF_mono h hk)
      · exact h.elim
    · cases hc

theorem guardV_mono {ops : List Oper} {t : List (Nat × V)} {g : Option (Nat × Bool)} {p q p' q' : Prop} (h : guardV ops t g p q) (hp : p → p') (hq : q → q') : guardV ops t g p' q' := by
  cases g with
  | none => exact hp h
  | some g =>
    obtain ⟨j, want⟩ := g
    unfold guardV at h ⊢
    dsimp only at h ⊢
    cases hd : (ops[j]?).bind (·.dst) with
    | none => rw [hd] at h; exact h.elim
    | some d =>
      rw [hd] at h
      dsimp only at h ⊢
      cases hg : get t d with
      | val v =>
        rw [hg] at h
        cases v with
        | bool b =>
          dsimp only at h ⊢
          by_cases e : b = want
          · rw [if_pos e] at h ⊢; exact hp h
          · rw [if_neg e] at h ⊢; exact hq h
        | _ => exact h.elim
      | tup vs =>
        rw [hg] at h
        cases vs with
        | nil => exact hq h
        | cons => exact h.elim
      | _ => rw [hg] at h; exact h.elim

theorem vcL_mono {T : Tab} {P : Program} {ops : List Oper} {N : Nat} {K K' : St → Prop} : ∀ {l : List Oper} {t : List (Nat × V)} {H : Heap} {k : Nat}, vcL T P ops N l K t H k → (∀ σ, K σ → K' σ) → vcL T P ops N l K' t H k
  | [], _, _, _, h, hk => hk _ h
  | _ :: _, _, _, _, h, hk => ⟨h.1, guardV_mono h.2 (fun h => opV_mono h fun _ _ _ h => vcL_mono h hk) fun h => vcL_mono h hk⟩

theorem opVD_mono {T : Tab} {P : Program} {t : List (Nat × V)} {H : Heap} {k : Nat} {op : Op} {K K' : V → Heap → Nat → Prop} (h : opVD T P t H k op K) (hk : ∀ v H k, K v H k → K' v H k) : opVD T P t H k op K' := by
  unfold opVD at h ⊢
  split
  · rename_i f args ts
    dsimp only at h
    split at h
    · rename_i hf
      obtain ⟨r, h1, h2⟩ := h
      first | exact ⟨r, h1, hk _ _ _ h2⟩ | (simp only [hf]; exact ⟨r, h1, hk _ _ _ h2⟩)
    · exact h.elim
  · rename_i hno
    split at h
    · rename_i f args ts; exact absurd rfl (hno f args ts)
    · exact opV_mono h hk

theorem vcD_mono {T : Tab} {P : Program} {ops : List Oper} {N : Nat} {K K' : List (Nat × V) → Heap → List (List Nat × List Nat) → Prop} : ∀ {l : List Oper} {κ : Nat} {t : List (Nat × V)} {H : Heap} {lg : List (List Nat × List Nat)}, vcD T P ops N κ l K t H lg → (∀ t H lg, K t H lg → K' t H lg) → vcD T P ops N κ l K' t H lg
  | [], _, _, _, _, h, hk => hk _ _ _ h
  | _ :: _, _, _, _, _, h, hk => ⟨h.1, guardV_mono h.2 (fun h => opVD_mono h fun _ _ _ h => ⟨h.1, vcD_mono h.2 hk⟩) fun h => vcD_mono h hk⟩

/-- what stays owned -/
structure Less (ι : Names) (S : List Nat) (H H' : Heap) : Prop where
  sub : ∀ n B, (n, B) ∈ H' → n ∈ S ∧ ∃ C, (n, C) ∈ H

theorem Less.own (L : Less ι S H H') {b : Nat} (h : Own F ι H' b) : F b ∨ ∃ n C l, n ∈ S ∧ (n, C) ∈ H ∧ ι n = some l ∧ l.ghost = false ∧ l.b = b := by
  rcases h with h | ⟨n, B, l, hm, hl, hg, hb⟩
  · exact .inl h
  · obtain ⟨h1, C, h2⟩ := L.sub n B hm
    exact .inr ⟨n, C, l, h1, h2, hl, hg, hb⟩

theorem Less.stays (L : Less ι S H H') : Stays ι (Own F ι H) w ι (Own F ι H') w :=
  ⟨fun _ _ h => h, Nat.le_refl _, fun b _ hn => ⟨fun h => hn (by
    rcases L.own h with h | ⟨n, C, l, _, h2, hl, hg, hb⟩
    · exact .inl h
    · exact .inr ⟨n, C, l, h2, hl, hg, hb⟩), rfl⟩⟩

theorem Less.free (L : Less ι S H H') (R : Rep F ι H w) {n : Nat} {B : B} {l : Loc} (hn : look n H = some B) (hS : n ∉ S) (hl : ι n = some l) (hg : l.ghost = false) (hF : ¬ F l.b) : ¬ Own F ι H' l.b := by
  intro h
  rcases L.own h with h | ⟨m, C, l', h1, h2, hl', hg', hb⟩
  · exact hF h
  · exact R.apart m C n B l' l h2 (look_mem hn) (fun e => hS (e ▸ h1)) hl' hl hg' hg hb

theorem frz_ok (L : Less ι S H H') (R : Rep F ι H w) : ∀ (d : Nat) (v : V) (x : Value), VRel ι (Own F ι H) w v x → VRel ι (Own F ι H') w (frz S H d v) x
  | 0, v, x, h => h.stays L.stays
  | d + 1, v, x, h => by
    have ih := frz_ok L R d
    unfold frz
    split
    · rename_i n q len
      split
      · exact h.stays L.stays
      · rename_i hS
        split
        · rename_i sz es hn
          split
          · rename_i hl
            have hlen : ((es.drop q).take len).length = len := by rw [List.length_take, List.length_drop]; omega
            cases h with
            | sl0 h => simpa using VRel.ro0
            | sl hl' hg hm hoff hc0 hlc hcm hs =>
              rename_i off cap l
              obtain ⟨e1, e2, e3, e4, e5, c, e, hw, hc, hlo, hv⟩ := R.block hn hl' hg
              have hcl : ∀ v ∈ es, v.cells.length = sz := fun v hv => (fits_iff.1 (e3 v hv)).1
              have hmul : (q + len) * sz ≤ es.length * sz := Nat.mul_le_mul_right _ hl
              rw [Nat.add_mul] at hmul
              have hv' := (hv.drop (q * sz)).take (len * sz)
              rw [flatMap_drop hcl, flatMap_take (fun v hv => hcl v (List.mem_of_mem_drop hv))] at hv'
              have hlist : (((c.toList.drop l.o).take (es.length * sz)).drop (q * sz)).take (len * sz) = (c.toList.drop off).take (((es.drop q).take len).length * sz) := by
                rw [hlen]
                apply List.ext_getElem?
                intro p
                simp only [List.getElem?_take, List.getElem?_drop]
                by_cases hq : p < len * sz
                · simp only [hq, if_true, show q * sz + p < es.length * sz by omega]
                  congr 1; rw [hoff, e1]; omega
                · simp [hq]
              rw [hlist] at hv'
              refine .ro e4 (L.free R hn hS hl' hg e5) hw (fun v hv => ?_) (by rw [List.length_map, hlen]) hlc ?_ rfl ?_
              · obtain ⟨v', hv', rfl⟩ := List.mem_map.1 hv
                exact elemF_fits (e3 v' (List.mem_of_mem_drop (List.mem_of_mem_take hv')))
              · rw [List.length_map, hlen, hoff, e1]; omega
              · rw [elemF_flat, List.length_map]; exact hv'.mapF ih
          · exact h.stays L.stays
        · exact h.stays L.stays
    · rename_i n i j
      split
      · exact h.stays L.stays
      · rename_i hS
        split
        · rename_i sz es hn
          split
          · rename_i hl
            cases h with
            | ptr hl' hg hm hoff =>
              rename_i off l
              obtain ⟨e1, e2, e3, e4, e5, c, e, hw, hc, hlo, hv⟩ := R.block hn hl' hg
              have hcl : ∀ v ∈ es, v.cells.length = sz := fun v hv => (fits_iff.1 (e3 v hv)).1
              obtain ⟨v, hvi⟩ : ∃ v, es[i]? = some v := ⟨_, List.getElem?_eq_getElem hl⟩
              have hd : es.getD i .any = v := by simp [List.getD, hvi]
              have hvf := fits_iff.1 (e3 v (List.mem_of_getElem? hvi))
              have hmul : i * sz + sz ≤ es.length * sz := by rw [← Nat.succ_mul]; exact Nat.mul_le_mul_right _ hl
              have hel := (hv.drop (i * sz)).take sz
              rw [flatMap_elem hcl hvi] at hel
              have hlist : (((c.toList.drop l.o).take (es.length * sz)).drop (i * sz)).take sz = (c.toList.drop (l.o + i * sz)).take v.cells.length := by
                rw [hvf.1]
                apply List.ext_getElem?
                intro p
                simp only [List.getElem?_take, List.getElem?_drop]
                by_cases hq : p < sz
                · simp only [hq, if_true, show i * sz + p < es.length * sz by omega]
                  congr 1; omega
                · simp [hq]
              rw [hlist] at hel
              rw [hd]
              refine VRel.rp (off := l.o + i * sz) e4 (L.free R hn hS hl' hg e5) hw ?_ (by rw [List.length_map, hvf.1]; omega) rfl (by rw [List.length_map]; exact hel.mapF ih) (by rw [hoff, e1])
              rw [List.all_eq_true]
              intro c hc
              obtain ⟨c', hc', rfl⟩ := List.mem_map.1 hc
              exact frz_one (hvf.2 c' hc')
          · exact h.stays L.stays
        · exact h.stays L.stays
    · cases h with
      | agg h => exact .agg (h.mapF ih)
    · cases h with
      | tup h => exact .tup (h.mapF ih)
    · exact h.stays L.stays

theorem frzB_ok (L : Less ι S H H') (R : Rep F ι H w) (d : Nat) {l : Loc} {B : B} (h : BRel ι (Own F ι H) w l B) : BRel ι (Own F ι H') w l (frzB S H d B) := by
  have ih := frz_ok L R d
  cases B with
  | rows sz es =>
    obtain ⟨h1, h2, h3, h4⟩ := h
    refine ⟨h1, h2, fun v hv => ?_, ?_⟩
    · obtain ⟨v', hv', rfl⟩ := List.mem_map.1 hv
      exact elemF_fits (h3 v' hv')
    · rcases h4 with ⟨h4, h5⟩ | ⟨h4, c, e, h5, h6, h7, h8⟩
      · subst h5; exact .inl ⟨h4, rfl⟩
      · refine .inr ⟨h4, c, e, h5, h6, by simpa using h7, ?_⟩
        rw [elemF_flat, List.length_map]; exact h8.mapF ih
  | map es =>
    obtain ⟨h1, h2, mes, clock, h3, h4, h5, h6, h7⟩ := h
    refine ⟨h1, h2, mes, clock, h3, by simpa [Function.comp_def] using h4, ?_, h6, h7⟩
    have := h5.mapF ih
    simpa [frzB, Function.comp_def] using this

theorem Weaker.fz {N k : Nat} {t t' : List (Nat × V)} (d dh : Nat) (ht : ∀ p ∈ t', frz (H'.map Prod.fst) H d (get t p.1) = p.2) (hn : (H'.map Prod.fst).Nodup)
    (hH : ∀ p ∈ H', ∃ B, look p.1 H = some B ∧ frzB (H'.map Prod.fst) H dh B = p.2) : Weaker ⟨N, t, H, k⟩ ⟨N, t', H', k⟩ :=
  ⟨fun F ι a w hh => by
    have R := hh.rep
    simp only [] at R
    have L : Less ι (H'.map Prod.fst) H H' := ⟨fun n B hm => ⟨List.mem_map_of_mem (f := Prod.fst) hm, by
      obtain ⟨C, hC, _⟩ := hH _ hm
      exact ⟨C, look_mem hC⟩⟩⟩
    have hno : ∀ b, ¬ OwnH ι H b → ¬ OwnH ι H' b := fun b hb ⟨n, B, l, hm, hl, hg, he⟩ => by
      obtain ⟨C, hC, _⟩ := hH _ hm
      exact hb ⟨n, C, l, look_mem hC, hl, hg, he⟩
    have K : Kept ι H w ι H' w := ⟨fun _ _ h => h, rfl, rfl, rfl, Nat.le_refl _, fun _ _ _ => rfl, fun b _ h => Classical.byContradiction fun hc => hno b hc h⟩
    refine ⟨ι, ⟨hh.defers, hh.size, fun i => ?_, ⟨R.frame, hn, fun n B hm => ?_, fun n B m C l l' h1 h2 => ?_⟩, hh.fresh⟩, K, Nat.le_refl _, fun _ _ => rfl, fun n h => ?_⟩
    · rcases get_mem t' i with h | h
      · simp only []; rw [h]; exact .any _
      · have h1 := ht _ h
        simp only [] at h1 ⊢
        rw [← h1]
        exact frz_ok L R d _ _ (hh.tmps i)
    · obtain ⟨C, hC, hB⟩ := hH _ hm
      obtain ⟨l, hl, hr, hg⟩ := R.own n C (look_mem hC)
      refine ⟨l, hl, ?_, hg⟩
      have := frzB_ok L R dh hr
      rw [hB] at this; exact this
    · obtain ⟨B', hB', _⟩ := hH _ h1
      obtain ⟨C', hC', _⟩ := hH _ h2
      exact R.apart n B' m C' l l' (look_mem hB') (look_mem hC')
    · obtain ⟨p, hp, rfl⟩ := List.mem_map.1 h
      obtain ⟨C, hC, _⟩ := hH _ hp
      exact .inl (List.mem_map.2 ⟨(p.1, C), look_mem hC, rfl⟩)⟩

theorem Weaker.up {N k k' : Nat} {t : List (Nat × V)} (hk : k ≤ k') : Weaker ⟨N, t, H, k⟩ ⟨N, t, H, k'⟩ :=
  ⟨fun F ι a w hh => ⟨ι, ⟨hh.defers, hh.size, hh.tmps, hh.rep, fun n hn h => hh.fresh n hn (Nat.le_trans hk h)⟩, ⟨Kept.refl _ _ _, hk, fun _ _ => rfl, fun _ h => .inl h⟩⟩⟩

theorem Weaker.fzk {N k k' : Nat} {t t' : List (Nat × V)} (d dh : Nat) (hk : k ≤ k') (ht : ∀ p ∈ t', frz (H'.map Prod.fst) H d (get t p.1) = p.2) (hn : (H'.map Prod.fst).Nodup)
    (hH : ∀ p ∈ H', ∃ B, look p.1 H = some B ∧ frzB (H'.map Prod.fst) H dh B = p.2) : Weaker ⟨N, t, H, k⟩ ⟨N, t', H', k'⟩ := (Weaker.up hk).trans (Weaker.fz d dh ht hn hH)

/-- nil slices in a block's cells, seen as an empty row of its own -/
inductive NilTos (m : Nat) : List V → List V → Prop
  | nil : NilTos m [] []
  | same {c : V} {cs ds : List V} (h : NilTos m cs ds) : NilTos m (c :: cs) (c :: ds)
  | to {cs ds : List V} (h : NilTos m cs ds) : NilTos m (.val (.slice none 0 0) :: cs) (.sl m 0 0 :: ds)

theorem NilTos.rels {m : Nat} {l : Loc} (hm : ι m = some l) {cs ds : List V} (h : NilTos m cs ds) {xs : List Value} (hv : VRels ι O w cs xs) : VRels ι O w ds xs := by
  induction h generalizing xs with
  | nil => exact hv
  | same _ ih => cases hv with | cons a b => exact .cons a (ih b)
  | to _ ih => cases hv with | cons a b => cases a; exact .cons (.sl0 hm) (ih b)

theorem Weaker.ghostH {N k sz : Nat} {t : List (Nat × V)} (n s : Nat) {es : List V} (es' : List V) (hn : look n H = some (.rows sz es)) (h0 : es ≠ []) (hl : es'.length = es.length) (hf : ∀ v ∈ es', v.fits sz = true) (hc : NilTos k (es.flatMap V.cells) (es'.flatMap V.cells)) :
    Weaker ⟨N, t, H, k⟩ ⟨N, t, (k, .rows s []) :: put n (.rows sz es') H, k + 1⟩ :=
  ⟨fun F ι a w hh => by
    have hk := hh.fresh k trivial (Nat.le_refl _)
    obtain ⟨R, K⟩ := hh.rep.ghost hk s
    have hkn : n ≠ k := fun e => by
      obtain ⟨l, hl, _⟩ := hh.rep.own n _ (look_mem hn)
      rw [e, hk] at hl; cases hl
    simp only [] at R K
    have hmem : (n, B.rows sz es) ∈ (k, B.rows s []) :: H := List.mem_cons_of_mem _ (look_mem hn)
    obtain ⟨l, hιl, hB, _⟩ := R.own n _ hmem
    have hg : l.ghost = false := by
      obtain ⟨_, _, _, h4⟩ := hB
      rcases h4 with ⟨_, h5⟩ | ⟨h4, _⟩
      · exact absurd h5 h0
      · exact h4
    have hkk : upd ι k ⟨0, 0, s, 0, true, false⟩ k = some ⟨0, 0, s, 0, true, false⟩ := upd_same _ _ _
    have R2 := R.put (b' := .rows sz es') hmem hιl hg rfl rfl rfl (Nat.le_refl _) (fun _ _ _ => rfl) (fun O' S => by
      obtain ⟨h1, h2, h3, h4⟩ := hB
      refine ⟨h1, h2, hf, ?_⟩
      rcases h4 with ⟨h4, _⟩ | ⟨h4, c, e, h5, h6, h7, h8⟩
      · rw [hg] at h4; cases h4
      · exact .inr ⟨h4, c, e, h5, h6, by rw [hl]; exact h7, by rw [hl]; exact hc.rels hkk (h8.stays S)⟩)
    have K2 := kept_put (b' := .rows sz es') hmem hιl hg R.names (w := w) (w' := w) rfl rfl rfl (Nat.le_refl _) (fun _ _ _ => rfl)
    have he : put n (.rows sz es') ((k, .rows s []) :: H) = (k, .rows s []) :: put n (.rows sz es') H := by simp [Sl.put, hkn]
    rw [he] at R2 K2
    have K3 := K.trans K2
    refine ⟨_, ⟨hh.defers, hh.size, fun j => (hh.tmps j).stays K3.stays, R2, fun q _ hq => ?_⟩, K3, Nat.le_succ _, fun q hq => upd_other _ _ _ _ (by have := hq trivial; simp only [] at this; omega), fun q hq => ?_⟩
    · simp only [] at hq
      rw [upd_other _ _ _ _ (by omega)]
      exact hh.fresh q trivial (by simp only []; omega)
    · simp only [List.map_cons, List.mem_cons, names_put] at hq
      rcases hq with hq | hq
      · exact .inr ⟨trivial, by simp only []; omega⟩
      · exact .inl hq⟩

theorem View.fz (d : Nat) (v : V) : View H v [] (frz [] H d v) := fun F ι w cv R hv => by
  have L : Less ι [] H [] := ⟨fun n B hm => by simp at hm⟩
  obtain ⟨R', K, N, _⟩ := View.nil (H := H) v F ι w cv R hv
  exact ⟨R', K, N, frz_ok L R d v cv hv⟩

/-- the same value, seen otherwise -/
def SeenAs (v v' : V) : Prop := ∀ ι O w x, VRel ι O w v x → VRel ι O w v' x
theorem SeenAs.refl (v : V) : SeenAs v v := fun _ _ _ _ h => h
theorem seen_slice {α : Type} (sz : Nat) (el : α → V) (o : Option (List α)) : SeenAs (sliceOf sz el o) (.ro sz ((o.getD []).map el)) := by
  cases o with
  | none => intro ι O w x h; cases h; exact .ro0
  | some l => exact SeenAs.refl _
inductive SeenAll : List V → List V → Prop
  | nil : SeenAll [] []
  | cons {v v' : V} {vs vs' : List V} (h : SeenAs v v') (hs : SeenAll vs vs') : SeenAll (v :: vs) (v' :: vs')
theorem SeenAll.rels {vs vs' : List V} (h : SeenAll vs vs') {xs : List Value} (hv : VRels ι O w vs xs) : VRels ι O w vs' xs := by
  induction h generalizing xs with
  | nil => exact hv
  | cons h1 _ ih => cases hv with | cons a b => exact .cons (h1 _ _ _ _ a) (ih b)
theorem seen_nil (sz : Nat) : SeenAs (.val (.slice none 0 0)) (.ro sz []) := fun ι O w x h => by cases h; exact .ro0
theorem seen_agg {cs cs' : List V} (h : SeenAll cs cs') : SeenAs (.agg cs) (.agg cs') := fun ι O w x hv => by cases hv with | agg hv => exact .agg (h.rels hv)
theorem SeenAll.len {cs cs' : List V} (h : SeenAll cs cs') : cs.length = cs'.length := by induction h with | nil => rfl | cons _ _ ih => simp [ih]
theorem SeenAll.refl : ∀ cs : List V, SeenAll cs cs
  | [] => .nil
  | _ :: cs => .cons (SeenAs.refl _) (SeenAll.refl cs)
theorem seen_rp {cs cs' : List V} {j : Nat} (h : SeenAll cs cs') (h1 : cs'.all V.one = true) : SeenAs (.rp cs j) (.rp cs' j) := fun ι O w x hv => by
  cases hv with
  | rp hb hO hw hsz hin hvs hr ho => exact .rp hb hO hw h1 (by rw [← h.len]; exact hin) (by rw [← h.len]; exact hvs) (h.rels hr) ho
theorem Pf.seen {P : Program} {f : FuncId} {args args' : List V} {r : V} (h : SeenAll args args') (p : Pf P f args' r) : Pf P f args r :=
  ⟨p.enters, fun ι O w cargs hO hv => p.calls ι O w cargs hO (h.rels hv)⟩

/-- a result that is seen as immutable -/
theorem Pf.of_fz {P : Program} {f : FuncId} {args : List V} {r : V} (d : Nat) (ha : NLs args) (hr : NL r) (h : Fn P f args [] 0 fun v H _ => frz [] H d v = r) : Pf P f args r :=
  Pf.of_fn ha hr (Fn.view (h.mono fun v H k e => ⟨[], r, e ▸ View.fz d v, rfl⟩))

theorem elemF_id : elemF id = id := by
  funext v
  cases v <;> simp [elemF]
theorem elemF_id' : elemF (fun x => x) = id := elemF_id
theorem frz_zero (S : List Nat) (H : Heap) : frz S H 0 = id := by funext v; rfl

@[go_sem] theorem nm_l1 (n j : Nat) : (n = n + j + 1) = False := eq_false (by omega)
@[go_sem] theorem nm_r1 (n j : Nat) : (n + j + 1 = n) = False := eq_false (by omega)
@[go_sem] theorem nm_l2 (n j : Nat) : (n = n + j + 1 + 1) = False := eq_false (by omega)
@[go_sem] theorem nm_r2 (n j : Nat) : (n + j + 1 + 1 = n) = False := eq_false (by omega)
@[go_sem] theorem nm_l3 (n j : Nat) : (n = n + j + 1 + 1 + 1) = False := eq_false (by omega)
@[go_sem] theorem nm_r3 (n j : Nat) : (n + j + 1 + 1 + 1 = n) = False := eq_false (by omega)
@[go_sem] theorem nm_l4 (n j : Nat) : (n = n + j + 1 + 1 + 1 + 1) = False := eq_false (by omega)
@[go_sem] theorem nm_r4 (n j : Nat) : (n + j + 1 + 1 + 1 + 1 = n) = False := eq_false (by omega)
@[go_sem] theorem nm_l5 (n j : Nat) : (n = n + j + 1 + 1 + 1 + 1 + 1) = False := eq_false (by omega)
@[go_sem] theorem nm_r5 (n j : Nat) : (n + j + 1 + 1 + 1 + 1 + 1 = n) = False := eq_false (by omega)
@[go_sem] theorem nm_l6 (n j : Nat) : (n = n + j + 1 + 1 + 1 + 1 + 1 + 1) = False := eq_false (by omega)
@[go_sem] theorem nm_r6 (n j : Nat) : (n + j + 1 + 1 + 1 + 1 + 1 + 1 = n) = False := eq_false (by omega)
@[go_sem] theorem nm_l7 (n j : Nat) : (n = n + j + 1 + 1 + 1 + 1 + 1 + 1 + 1) = False := eq_false (by omega)
@[go_sem] theorem nm_r7 (n j : Nat) : (n + j + 1 + 1 + 1 + 1 + 1 + 1 + 1 = n) = False := eq_false (by omega)
@[go_sem] theorem nm_l8 (n j : Nat) : (n = n + j + 1 + 1 + 1 + 1 + 1 + 1 + 1 + 1) = False := eq_false (by omega)
@[go_sem] theorem nm_r8 (n j : Nat) : (n + j + 1 + 1 + 1 + 1 + 1 + 1 + 1 + 1 = n) = False := eq_false (by omega)
@[go_sem] theorem nm_l9 (n j : Nat) : (n = n + j + 1 + 1 + 1 + 1 + 1 + 1 + 1 + 1 + 1) = False := eq_false (by omega)
@[go_sem] theorem nm_r9 (n j : Nat) : (n + j + 1 + 1 + 1 + 1 + 1 + 1 + 1 + 1 + 1 = n) = False := eq_false (by omega)
@[go_sem] theorem nm_l10 (n j : Nat) : (n = n + j + 1 + 1 + 1 + 1 + 1 + 1 + 1 + 1 + 1 + 1) = False := eq_false (by omega)
@[go_sem] theorem nm_r10 (n j : Nat) : (n + j + 1 + 1 + 1 + 1 + 1 + 1 + 1 + 1 + 1 + 1 = n) = False := eq_false (by omega)
@[go_sem] theorem nm_l11 (n j : Nat) : (n = n + j + 1 + 1 + 1 + 1 + 1 + 1 + 1 + 1 + 1 + 1 + 1) = False := eq_false (by omega)
@[go_sem] theorem nm_r11 (n j : Nat) : (n + j + 1 + 1 + 1 + 1 + 1 + 1 + 1 + 1 + 1 + 1 + 1 = n) = False := eq_false (by omega)
@[go_sem] theorem nm_l12 (n j : Nat) : (n = n + j + 1 + 1 + 1 + 1 + 1 + 1 + 1 + 1 + 1 + 1 + 1 + 1) = False := eq_false (by omega)
@[go_sem] theorem nm_r12 (n j : Nat) : (n + j + 1 + 1 + 1 + 1 + 1 + 1 + 1 + 1 + 1 + 1 + 1 + 1 = n) = False := eq_false (by omega)
/-- a piece whose ways meet again in one state -/
theorem seq_to {P : Program} {x y : Code} {Q : Exit → St → Prop} {σ : St} (σ' : St) (h : Tr P x (Then (fun σ => Weaker σ σ') Q) σ) (hy : Tr P y Q σ') : Tr P (.seq x y) Q σ :=
  tr_seq (h.mono fun e σ'' hq => by
    cases e with
    | normal => exact Tr.weaken hq hy
    | _ => exact hq)

/-- a region whose ways meet again in one state -/
theorem region_to {P : Program} {T : Tab} {Q : Exit → St → Prop} (hT : TabOk P T) {id : Nat} {l : List Oper} {y : Code} {N k : Nat} {t : List (Nat × V)} {H : Heap} (hN : dstsLt l N = true) (σ' : St)
    (h : vcL T P l N l (fun σ => Weaker σ σ') t H k) (hy : Tr P y Q σ') : Tr P (.seq (.region id l.toArray false) y) Q ⟨N, t, H, k⟩ :=
  region_k hT hN fun K hK => vcL_mono h fun σ hw => hK _ (Tr.weaken hw hy)

theorem draw_to {P : Program} {T : Tab} {Q : Exit → St → Prop} (hT : TabOk P T) (hm : P.follows .mixedOrders = true) {id : Nat} {l : List Oper} {y : Code} {N k : Nat} {t : List (Nat × V)} {H : Heap} (m : Nat) (tbl : List (List Nat)) (prs : List (Nat × Nat)) (hN : dstsLt l N = true) (hd : drawOk l tbl m = true) (hp : pairsOk l tbl prs m = true) (σ' : St)
    (h : vcD T P l N k (l.take m) (fun t' H' lg => confQ prs lg ∧ vcL T P l N (l.drop m) (fun σ => Weaker σ σ') t' H' (k + m)) t H []) (hy : Tr P y Q σ') : Tr P (.seq (.region id l.toArray true) y) Q ⟨N, t, H, k⟩ :=
  draw_k hT hm m tbl prs hN hd hp fun K hK => vcD_mono h fun t' H' lg hc => ⟨hc.1, vcL_mono hc.2 fun σ hw => hK _ (Tr.weaken hw hy)⟩

end
section
variable {S : List Nat} {H : Heap} {d : Nat}
@[go_sem] theorem frz_sl {n q len : Nat} : frz S H (d + 1) (.sl n q len) = if n ∈ S then .sl n q len else (match look n H with | some (.rows sz es) => if q + len ≤ es.length then .ro sz (((es.drop q).take len).map (elemF (frz S H d))) else .sl n q len | _ => .sl n q len) := by rw [frz]
@[go_sem] theorem frz_ptr {n i j : Nat} : frz S H (d + 1) (.ptr n i j) = if n ∈ S then .ptr n i j else (match look n H with | some (.rows _ es) => if i < es.length then .rp ((es.getD i .any).cells.map (frz S H d)) j else .ptr n i j | _ => .ptr n i j) := by rw [frz]
@[go_sem] theorem frz_aggV {cs : List V} : frz S H (d + 1) (.agg cs) = .agg (cs.map (frz S H d)) := by rw [frz]
@[go_sem] theorem frz_tup {cs : List V} : frz S H (d + 1) (.tup cs) = .tup (cs.map (frz S H d)) := by rw [frz]
@[go_sem] theorem frz_val {v : Value} : frz S H d (.val v) = .val v := by cases d <;> simp [frz]
@[go_sem] theorem frz_any : frz S H d .any = .any := by cases d <;> simp [frz]
@[go_sem] theorem frz_ro {sz : Nat} {es : List V} : frz S H d (.ro sz es) = .ro sz es := by cases d <;> simp [frz]
@[go_sem] theorem frz_rp {cs : List V} {j : Nat} : frz S H d (.rp cs j) = .rp cs j := by cases d <;> simp [frz]
@[go_sem] theorem frz_map {n : Nat} : frz S H d (.map n) = .map n := by cases d <;> simp [frz]
@[go_sem] theorem frz_fn {f : Go.Fn} {fs cs : List V} : frz S H d (.fn f fs cs) = .fn f fs cs := by cases d <;> simp [frz]
@[go_sem] theorem frz_sub {n i j l : Nat} : frz S H d (.sub n i j l) = .sub n i j l := by cases d <;> simp [frz]
end
attribute [go_sem] elemF_id elemF_id' frzB frz_zero elemF V.isAny
@[go_sem] theorem one_0 {x : Value} : V.one (.val x) = true := rfl
@[go_sem] theorem one_1 {n i j : Nat} : V.one (.ptr n i j) = true := rfl
@[go_sem] theorem one_2 {n i j : Nat} : V.one (.sl n i j) = true := rfl
@[go_sem] theorem one_3 {n i j l : Nat} : V.one (.sub n i j l) = true := rfl
@[go_sem] theorem one_4 {n : Nat} {es : List V} : V.one (.ro n es) = true := rfl
@[go_sem] theorem one_5 {n : Nat} {es : List V} : V.one (.rp es n) = true := rfl
@[go_sem] theorem one_6 {n : Nat} : V.one (.map n) = true := rfl
@[go_sem] theorem one_7 {f : Go.Fn} {es cs : List V} : V.one (.fn f es cs) = true := rfl
@[go_sem] theorem put_0 {x : Value} {q : Nat} {u : V} : putPart (.val x) q u = u := rfl
@[go_sem] theorem put_1 {n i j : Nat} {q : Nat} {u : V} : putPart (.ptr n i j) q u = u := rfl
@[go_sem] theorem put_2 {n i j : Nat} {q : Nat} {u : V} : putPart (.sl n i j) q u = u := rfl
@[go_sem] theorem put_3 {n i j l : Nat} {q : Nat} {u : V} : putPart (.sub n i j l) q u = u := rfl
@[go_sem] theorem put_4 {n : Nat} {es : List V} {q : Nat} {u : V} : putPart (.ro n es) q u = u := rfl
@[go_sem] theorem put_5 {n : Nat} {es : List V} {q : Nat} {u : V} : putPart (.rp es n) q u = u := rfl
@[go_sem] theorem put_6 {n : Nat} {q : Nat} {u : V} : putPart (.map n) q u = u := rfl
@[go_sem] theorem put_7 {f : Go.Fn} {es cs : List V} {q : Nat} {u : V} : putPart (.fn f es cs) q u = u := rfl
@[go_sem] theorem put_8  {q : Nat} {u : V} : putPart .any q u = u := rfl
@[go_sem low] theorem fits_def (sz : Nat) (v : V) : v.fits sz = (v.cells.length == sz && v.cells.all V.one) := rfl
@[go_sem low] theorem put_agg (cs : List V) (j : Nat) (u : V) : putPart (.agg cs) j u = .agg (splice cs j u.cells) := rfl
@[go_sem low] theorem splice_def (cs us : List V) (o : Nat) : splice cs o us = cs.take o ++ (us ++ cs.drop (o + us.length)) := rfl
@[go_sem low] theorem cut_def (j n : Nat) (cs : List V) : cut j n cs = (cs.drop j).take n := rfl
@[go_sem low] theorem zeroV_def (d : D) (n b : Nat) (z : List Value) : TI.zeroV ⟨d, n, b, z⟩ = if TI.agg ⟨d, n, b, z⟩ then .agg (z.map .val) else (z.map V.val).headD .any := rfl
end Go.Sl
/- Litmus tests: what they are as values. -/
namespace Go.Proofs.Ytokdphmnlcmbbaa
open Go Go.Sl

abbrev iV (n : Int) : V := .val (.int .i64 n)
abbrev uV (n : Int) : V := .val (.int .u64 n)
abbrev bV (b : Bool) : V := .val (.bool b)

theorem pfEq {P : Program} {f : FuncId} {args : List V} {r r' : V} (h : Pf P f args r) (e : r = r') : Pf P f args r' := e ▸ h

/-- an instruction -/
structure Ins where
  op : Int
  rd : Int
  loc : Int
  aR : Bool
  aN : Int
  bR : Bool
  bN : Int
  acq : Bool
  rel : Bool
  dep : Int
  pred : Int
  succ : Int
  skip : Int

def Ins.cs (x : Ins) : List V := [iV x.op, iV x.rd, iV x.loc, bV x.aR, uV x.aN, bV x.bR, uV x.bN, bV x.acq, bV x.rel, iV x.dep, iV x.pred, iV x.succ, iV x.skip]
def insC (x : Ins) : V := .agg x.cs
structure Ini where
  name : ByteArray
  v : Int
def Ini.cs (x : Ini) : List V := [.val (.string x.name), uV x.v]
def iniC (x : Ini) : V := .agg x.cs
structure Atm where
  th : Int
  at_ : Int
  v : Int
def Atm.cs (x : Atm) : List V := [iV x.th, iV x.at_, uV x.v]
def atmC (x : Atm) : V := .agg x.cs
structure Tst where
  locs : List Ini
  ths : List (List Ins)
  asks : List Atm
def inss (l : List Ins) : List V := l.map insC
def inis (l : List Ini) : List V := l.map iniC
def atms (l : List Atm) : List V := l.map atmC
def thrs (l : List (List Ins)) : List V := l.map fun x => .ro 13 (inss x)
def Tst.cs (t : Tst) : List V := [.ro 2 (inis t.locs), .ro 1 (thrs t.ths), .ro 3 (atms t.asks)]

theorem NLs.vals {xs : List Value} : NLs (xs.map V.val) := fun v hv => by
  obtain ⟨x, _, rfl⟩ := List.mem_map.1 hv
  exact .val _
theorem nl_ins (x : Ins) : NLs x.cs := by
  unfold Ins.cs
  exact .cons (.val _) (.cons (.val _) (.cons (.val _) (.cons (.val _) (.cons (.val _) (.cons (.val _) (.cons (.val _) (.cons (.val _) (.cons (.val _) (.cons (.val _) (.cons (.val _) (.cons (.val _) (.cons (.val _) .nil))))))))))))
theorem nl_insC (x : Ins) : NL (insC x) := .agg (nl_ins x)
theorem nl_atm (x : Atm) : NLs x.cs := by unfold Atm.cs; exact .cons (.val _) (.cons (.val _) (.cons (.val _) .nil))
theorem nl_atmC (x : Atm) : NL (atmC x) := .agg (nl_atm x)
theorem nl_ini (x : Ini) : NLs x.cs := by unfold Ini.cs; exact .cons (.val _) (.cons (.val _) .nil)
theorem nl_inss (l : List Ins) : NL (.ro 13 (inss l)) := .ro fun v hv => by
  obtain ⟨a, _, rfl⟩ := List.mem_map.1 hv
  exact nl_ins a
theorem nl_inis (l : List Ini) : NL (.ro 2 (inis l)) := .ro fun v hv => by
  obtain ⟨a, _, rfl⟩ := List.mem_map.1 hv
  exact nl_ini a
theorem nl_atms (l : List Atm) : NL (.ro 3 (atms l)) := .ro fun v hv => by
  obtain ⟨a, _, rfl⟩ := List.mem_map.1 hv
  exact nl_atm a
theorem nl_thrs (l : List (List Ins)) : NL (.ro 1 (thrs l)) := .ro fun v hv => by
  obtain ⟨a, _, rfl⟩ := List.mem_map.1 hv
  exact .cons (nl_inss a) .nil
theorem nl_tst (t : Tst) : NLs t.cs := .cons (nl_inis _) (.cons (nl_thrs _) (.cons (nl_atms _) .nil))
theorem nl_rp (t : Tst) : NL (.rp t.cs 0) := .rp (nl_tst t)
theorem nl_kind (a b : Bool) : NL (.agg [bV a, bV b]) := .agg (.cons (.val _) (.cons (.val _) .nil))

@[go_sem] theorem inss_len (l : List Ins) : (inss l).length = l.length := List.length_map ..
@[go_sem] theorem inis_len (l : List Ini) : (inis l).length = l.length := List.length_map ..
@[go_sem] theorem atms_len (l : List Atm) : (atms l).length = l.length := List.length_map ..
@[go_sem] theorem thrs_len (l : List (List Ins)) : (thrs l).length = l.length := List.length_map ..
@[go_sem] theorem inss_at (l : List Ins) (i : Nat) : (inss l)[i]? = l[i]?.map insC := List.getElem?_map ..
@[go_sem] theorem inis_at (l : List Ini) (i : Nat) : (inis l)[i]? = l[i]?.map iniC := List.getElem?_map ..
@[go_sem] theorem atms_at (l : List Atm) (i : Nat) : (atms l)[i]? = l[i]?.map atmC := List.getElem?_map ..
@[go_sem] theorem thrs_at (l : List (List Ins)) (i : Nat) : (thrs l)[i]? = l[i]?.map fun x => V.ro 13 (inss x) := List.getElem?_map ..
@[go_sem] theorem inss_get (l : List Ins) (i : Nat) (h : i < (inss l).length) : (inss l)[i] = insC (l[i]'(by simpa [inss] using h)) := by simp [inss]
@[go_sem] theorem inis_get (l : List Ini) (i : Nat) (h : i < (inis l).length) : (inis l)[i] = iniC (l[i]'(by simpa [inis] using h)) := by simp [inis]
@[go_sem] theorem atms_get (l : List Atm) (i : Nat) (h : i < (atms l).length) : (atms l)[i] = atmC (l[i]'(by simpa [atms] using h)) := by simp [atms]
@[go_sem] theorem thrs_get (l : List (List Ins)) (i : Nat) (h : i < (thrs l).length) : (thrs l)[i] = .ro 13 (inss (l[i]'(by simpa [thrs] using h))) := by simp [thrs]
theorem getAt {α : Type} {l : List α} {i : Nat} (h : i < l.length) : ∃ x, l[i]? = some x ∧ l[i] = x := ⟨_, List.getElem?_eq_getElem h, rfl⟩
theorem takeAt {α : Type} {l : List α} {i : Nat} {x : α} (h : l[i]? = some x) : l.take (i + 1) = l.take i ++ [x] := by
  rw [List.take_add_one, h]; rfl

/-! ## what instructions are -/

def rdB (op : Int) : Bool := decide (op = 9) || decide (op = 13) || decide (op = 11) || decide (op = 12)
def wrB (op : Int) : Bool := decide (op = 10) || decide (op = 14) || decide (op = 11) || decide (op = 12)
def memB (op : Int) : Bool := rdB op || wrB op
def setB (op : Int) : Bool := decide (op ≥ 1) && (decide (op ≤ 14) && decide (op ≠ 10))
def argOk (r : Bool) (n : Int) : Bool := !r || decide (n < 8)
def beforeB (a b : Atm) : Bool := if a.th ≠ b.th then decide (b.th < 0) || (decide (a.th ≥ 0) && decide (a.th < b.th)) else decide (a.at_ < b.at_)
def askLim (t : Tst) (a : Atm) : Int := if 0 ≤ a.th then 8 else (t.locs.length : Int)
def askBad (t : Tst) (a : Atm) : Bool := decide (a.th < -1) || (decide ((t.ths.length : Int) ≤ a.th) || (decide (a.at_ < 0) || decide (askLim t a ≤ a.at_)))
def askErr (t : Tst) (a : Atm) : Int := if askBad t a then 11 else 0

/-! ## events -/

def evt (x : Ins) : Nat := (rdB x.op).toNat + (wrB x.op).toNat
def evL (l : List Ins) : Nat := (l.map evt).sum
def events (l : List (List Ins)) : Nat := (l.map evL).sum
theorem evL_step {l : List Ins} {i : Nat} {x : Ins} (h : l[i]? = some x) : evL (l.take (i + 1)) = evL (l.take i) + evt x := by
  simp [evL, takeAt h]
theorem events_step {l : List (List Ins)} {i : Nat} {x : List Ins} (h : l[i]? = some x) : events (l.take (i + 1)) = events (l.take i) + evL x := by
  simp [events, takeAt h]
theorem sum_take {α : Type} (f : α → Nat) (l : List α) (i : Nat) : ((l.take i).map f).sum ≤ (l.map f).sum := by
  conv => rhs; rw [← List.take_append_drop i l]
  rw [List.map_append, List.sum_append]; omega
theorem events_le {l : List (List Ins)} {i : Nat} {x : List Ins} (h : l[i]? = some x) {j : Nat} {y : Ins} (hy : x[j]? = some y) : events (l.take i) + evL (x.take j) + evt y ≤ events l := by
  have h1 : events (l.take (i + 1)) ≤ events l := sum_take evL l (i + 1)
  have h2 : evL (x.take (j + 1)) ≤ evL x := sum_take evt x (j + 1)
  rw [events_step h] at h1
  rw [evL_step hy] at h2
  omega
def evP (t : List (List Ins)) (i : Nat) (l : List Ins) (b : Nat) : Nat := events (t.take i) + evL (l.take b)
theorem evP_zero (t : List (List Ins)) (i : Nat) (l : List Ins) : evP t i l 0 = events (t.take i) := by simp [evP, evL]
theorem evP_step {t : List (List Ins)} {i : Nat} {l : List Ins} {b : Nat} {x : Ins} (h : l[b]? = some x) : evP t i l (b + 1) = evP t i l b + (rdB x.op).toNat + (wrB x.op).toNat := by unfold evP; rw [evL_step h]; unfold evt; omega
theorem evP_end {t : List (List Ins)} {i : Nat} {l : List Ins} (h : t[i]? = some l) : evP t i l l.length = events (t.take (i + 1)) := by unfold evP; rw [List.take_length, events_step h]
theorem evP_le {t : List (List Ins)} {i : Nat} {l : List Ins} {b : Nat} {x : Ins} (h : t[i]? = some l) (hx : l[b]? = some x) : evP t i l b + (rdB x.op).toNat + (wrB x.op).toNat ≤ events t := by have := events_le h hx; unfold evt at this; unfold evP; omega
theorem evt_le (x : Ins) : evt x ≤ 2 := by unfold evt; cases rdB x.op <;> cases wrB x.op <;> simp
theorem evL_len (l : List Ins) : evL l ≤ 2 * l.length := by
  induction l with
  | nil => simp [evL]
  | cons x l ih =>
    have := evt_le x
    have e : evL (x :: l) = evt x + evL l := by simp [evL]
    rw [e, List.length_cons]; omega
theorem events_len {n : Nat} (l : List (List Ins)) (h : ∀ x ∈ l, x.length ≤ n) : events l ≤ 2 * n * l.length := by
  induction l with
  | nil => simp [events]
  | cons x l ih =>
    have h1 := ih fun y hy => h y (by simp [hy])
    have h2 := evL_len x
    have h3 := h x (by simp)
    have e : events (x :: l) = evL x + events l := by simp [events]
    rw [e, List.length_cons, Nat.mul_add]; omega

def manyB (t : Tst) : Bool := decide ((4 : Int) < (t.ths.length : Nat)) || (decide ((8 : Int) < (t.locs.length : Nat)) || decide ((40 : Int) < (t.asks.length : Nat)))
def sizeErr (t : Tst) : Int :=
  if t.ths = [] then 15 else if manyB t = true then 12 else if ¬ (∀ x ∈ t.ths, x.length ≤ 8) then 12 else if 8 < events t.ths then 12 else 0

/-! ## the first fault of a list -/

def fe {α : Type} (f : Nat → α → Int) : Nat → List α → Int
  | _, [] => 0
  | i, x :: l => if f i x ≠ 0 then f i x else fe f (i + 1) l
theorem fe_bad {α : Type} {f : Nat → α → Int} {l : List α} {i : Nat} {x : α} (h : l[i]? = some x) (hf : f i x ≠ 0) : fe f i (l.drop i) = f i x := by
  have hlt := (List.getElem?_eq_some_iff.1 h).1
  have e : l[i] = x := (List.getElem?_eq_some_iff.1 h).2
  rw [List.drop_eq_getElem_cons hlt, e, fe, if_pos hf]
theorem fe_good {α : Type} {f : Nat → α → Int} {l : List α} {i : Nat} {x : α} (h : l[i]? = some x) (hf : f i x = 0) : fe f i (l.drop i) = fe f (i + 1) (l.drop (i + 1)) := by
  have hlt := (List.getElem?_eq_some_iff.1 h).1
  have e : l[i] = x := (List.getElem?_eq_some_iff.1 h).2
  rw [List.drop_eq_getElem_cons hlt, e, fe, if_neg (by simp [hf])]
theorem fe_end {α : Type} {f : Nat → α → Int} {l : List α} : fe f l.length (l.drop l.length) = 0 := by rw [List.drop_length]; rfl
theorem fe_zero {α : Type} {f : Nat → α → Int} : ∀ (l : List α) (i : Nat), fe f i l = 0 ↔ ∀ (j : Nat) (x : α), l[j]? = some x → f (i + j) x = 0
  | [], i => by simp [fe]
  | x :: l, i => by
    rw [fe]
    constructor
    · intro h j y hj
      split at h
      · rename_i h1; exact absurd h h1
      · rename_i h1
        cases j with
        | zero => simp at hj; subst hj; simpa using h1
        | succ j =>
          have := (fe_zero l (i + 1)).1 h j y (by simpa using hj)
          rw [show i + (j + 1) = i + 1 + j by omega]; exact this
    · intro h
      have h0 := h 0 x rfl
      rw [Nat.add_zero] at h0
      rw [if_neg (by simp [h0])]
      exact (fe_zero l (i + 1)).2 fun j y hj => by
        have := h (j + 1) y (by simpa using hj)
        rw [show i + (j + 1) = i + 1 + j by omega] at this; exact this

/-! ## names -/

def chI (s : ByteArray) (i : Nat) : Int := ((s.data.toList.getD i 0).toNat : Int)
@[go_sem high] theorem indexV_str {T : Tab} {s : ByteArray} {i : Nat} {kd : IntKind} {K : V → Prop} (h : i < s.size) : indexV T .string (.val (.string s)) (.val (.int kd (i : Int))) K = K (.val (.int .u8 (chI s i))) := by
  simp [indexV, chI, h]
@[go_sem high] theorem indexV_str0 {T : Tab} {s : ByteArray} {kd : IntKind} {K : V → Prop} (h : 0 < s.size) : indexV T .string (.val (.string s)) (.val (.int kd 0)) K = K (.val (.int .u8 (chI s 0))) := by
  simp [indexV, chI, h]
@[go_sem high] theorem indexV_str1 {T : Tab} {s : ByteArray} {kd : IntKind} {K : V → Prop} (h : 1 < s.size) : indexV T .string (.val (.string s)) (.val (.int kd 1)) K = K (.val (.int .u8 (chI s 1))) := by
  have h' : (1 : Int) < (s.size : Int) := by omega
  simp [indexV, chI, h']
def okC (i : Nat) (c : Int) : Bool := decide (97 ≤ c) && decide (c ≤ 122) || decide (0 < i) && (decide (48 ≤ c) && decide (c ≤ 57))
def okCs (s : ByteArray) : Nat → Bool
  | 0 => true
  | i + 1 => okCs s i && okC i (chI s i)
theorem okCs_bad {s : ByteArray} {i n : Nat} (h : i < n) (hc : okC i (chI s i) = false) : okCs s n = false := by
  induction n with
  | zero => omega
  | succ n ih =>
    simp only [okCs]
    by_cases e : i = n
    · subst e; rw [hc, Bool.and_false]
    · rw [ih (by omega), Bool.false_and]
def regN (s : ByteArray) : Bool := decide (s.size = 2) && (decide (chI s 0 = 114) && decide (chI s 1 ≤ 57))
def nmB (s : ByteArray) : Bool := okCs s s.size && (!regN s && (decide (s.size ≠ 0) && decide (s.size ≤ 16)))

end Go.Proofs.Ytokdphmnlcmbbaa
/- Litmus tests: the walks of the package litmus, the first part. -/
namespace Go.Proofs.Ytokdphmnlcmbbaa
open Go Go.Sl Go.Proofs.Try

theorem of_pf (x : Ins) : Pf Try.prog 39 [insC x] (.agg [bV (rdB x.op), bV (wrB x.op)]) := by
  refine Pf.of_fn (.cons (nl_insC x) .nil) (nl_kind _ _) ?_
  refine fn_in T_ok func39 rfl rfl ntmps39 rfl (by simp) ?_
  refine region_k T_ok (by decide) fun K hK => ?_
  simp [go_sem, insC, Ins.cs]
  refine hK _ ?_; clear hK K
  refine seq_k fun K1 hK1 => ?_
  refine region_k T_ok (by decide) fun K hK => ?_
  simp [go_sem, insC, Ins.cs]
  refine hK _ ?_; clear hK K
  refine tr_block ?_
  refine seq_k fun K2 hK2 => ?_
  refine region_k T_ok (by decide) fun K hK => ?_
  simp [go_sem]
  refine hK _ ?_; clear hK K
  refine cond_k rfl (fun h => ?_) (fun h => ?_)
  · simp at h
    have h9 := h
    clear h
    refine tr_skip ?_
    refine hK2 _ ?_; try clear hK2 K2
    refine cond_k rfl (fun h => ?_) (fun h => ?_)
    · clear h
      refine region_k T_ok (by decide) fun K hK => ?_
      simp [go_sem]
      refine hK _ ?_; clear hK K
      refine tr_ret ⟨.inr rfl, ?_⟩
      simp [go_sem, rdB, wrB, h9]
    · simp at h
      exact absurd h9 h
  · simp at h
    have h9 := h
    clear h
    refine region_e T_ok (by decide) fun K hK => ?_
    simp [go_sem]
    refine hK _ ?_; clear hK K
    refine hK2 _ ?_; try clear hK2 K2
    refine cond_k rfl (fun h => ?_) (fun h => ?_)
    · simp at h
      have h13 := h
      clear h
      refine region_k T_ok (by decide) fun K hK => ?_
      simp [go_sem]
      refine hK _ ?_; clear hK K
      refine tr_ret ⟨.inr rfl, ?_⟩
      simp [go_sem, rdB, wrB, h13]
    · simp at h
      have h13 := h
      clear h
      refine seq_k fun K3 hK3 => ?_
      refine region_k T_ok (by decide) fun K hK => ?_
      simp [go_sem]
      refine hK _ ?_; clear hK K
      refine cond_k rfl (fun h => ?_) (fun h => ?_)
      · simp at h
        have h10 := h
        clear h
        refine tr_skip ?_
        refine hK3 _ ?_; try clear hK3 K3
        refine cond_k rfl (fun h => ?_) (fun h => ?_)
        · clear h
          refine region_k T_ok (by decide) fun K hK => ?_
          simp [go_sem]
          refine hK _ ?_; clear hK K
          refine tr_ret ⟨.inr rfl, ?_⟩
          simp [go_sem, rdB, wrB, h9, h13, h10]
        · simp at h
          exact absurd h10 h
      · simp at h
        have h10 := h
        clear h
        refine region_e T_ok (by decide) fun K hK => ?_
        simp [go_sem]
        refine hK _ ?_; clear hK K
        refine hK3 _ ?_; try clear hK3 K3
        refine cond_k rfl (fun h => ?_) (fun h => ?_)
        · simp at h
          have h14 := h
          clear h
          refine region_k T_ok (by decide) fun K hK => ?_
          simp [go_sem]
          refine hK _ ?_; clear hK K
          refine tr_ret ⟨.inr rfl, ?_⟩
          simp [go_sem, rdB, wrB, h9, h13, h14]
        · simp at h
          have h14 := h
          clear h
          refine seq_k fun K4 hK4 => ?_
          refine region_k T_ok (by decide) fun K hK => ?_
          simp [go_sem]
          refine hK _ ?_; clear hK K
          refine cond_k rfl (fun h => ?_) (fun h => ?_)
          · simp at h
            have h11 := h
            clear h
            refine tr_skip ?_
            refine hK4 _ ?_; try clear hK4 K4
            refine cond_k rfl (fun h => ?_) (fun h => ?_)
            · clear h
              refine region_k T_ok (by decide) fun K hK => ?_
              simp [go_sem]
              refine hK _ ?_; clear hK K
              refine tr_ret ⟨.inr rfl, ?_⟩
              simp [go_sem, rdB, wrB, h9, h13, h10, h14, h11]
            · simp at h
              exact absurd h11 h
          · simp at h
            have h11 := h
            clear h
            refine region_e T_ok (by decide) fun K hK => ?_
            simp [go_sem]
            refine hK _ ?_; clear hK K
            refine hK4 _ ?_; try clear hK4 K4
            refine cond_k rfl (fun h => ?_) (fun h => ?_)
            · simp at h
              have h12 := h
              clear h
              refine region_k T_ok (by decide) fun K hK => ?_
              simp [go_sem]
              refine hK _ ?_; clear hK K
              refine tr_ret ⟨.inr rfl, ?_⟩
              simp [go_sem, rdB, wrB, h9, h13, h10, h14, h12]
            · simp at h
              have h12 := h
              clear h
              refine tr_skip ?_
              refine hK1 _ ?_; try clear hK1 K1
              refine region_k T_ok (by decide) fun K hK => ?_
              simp [go_sem]
              refine hK _ ?_; clear hK K
              refine tr_ret ⟨.inr rfl, ?_⟩
              simp [go_sem, rdB, wrB, h9, h13, h10, h14, h11, h12]

theorem ismem_pf (x : Ins) : Pf Try.prog 25 [insC x] (bV (memB x.op)) := by
  refine Pf.of_fn (.cons (nl_insC x) .nil) (.val _) ?_
  refine fn_in T_ok func25 rfl rfl ntmps25 rfl (by simp) ?_
  refine region_k T_ok (by decide) fun K hK => ?_
  simp [go_sem, insC, Ins.cs]
  refine hK _ ?_; clear hK K
  refine region_k T_ok (by decide) fun K hK => ?_
  simp [go_sem, insC, Ins.cs]
  refine call_pf (of_pf x) ?_
  simp [go_sem]
  refine hK _ ?_; clear hK K
  refine tr_ret ⟨.inr rfl, ?_⟩
  simp [go_sem, memB]
  try (cases rdB x.op <;> cases wrB x.op <;> rfl)

theorem sets_pf (x : Ins) : Pf Try.prog 52 [insC x] (bV (setB x.op)) := by
  refine Pf.of_fn (.cons (nl_insC x) .nil) (.val _) ?_
  refine fn_in T_ok func52 rfl rfl ntmps52 rfl (by simp) ?_
  refine region_k T_ok (by decide) fun K hK => ?_
  simp [go_sem, insC, Ins.cs]
  refine hK _ ?_; clear hK K
  refine region_to T_ok (by decide) ⟨16, [(2, bV (setB x.op))], [], 1⟩ ?_ ?_
  · by_cases c1 : 1 ≤ x.op
    · by_cases c2 : x.op ≤ 14
      · by_cases c3 : x.op = 10
        · simp [go_sem, c1, c2, c3, insC, Ins.cs]
          refine Weaker.fz 1 0 ?_ ?_ ?_
          · simp [go_sem, c1, c2, c3, setB]
          · first | (simp; done) | (simp; omega)
          · simp [go_sem, c1, c2, c3, setB]
        · simp [go_sem, c1, c2, c3, insC, Ins.cs]
          refine Weaker.fz 1 0 ?_ ?_ ?_
          · simp [go_sem, c1, c2, c3, setB]
          · first | (simp; done) | (simp; omega)
          · simp [go_sem, c1, c2, c3, setB]
      · simp [go_sem, c1, c2, insC, Ins.cs]
        refine Weaker.fz 1 0 ?_ ?_ ?_
        · simp [go_sem, c1, c2, setB]
        · first | (simp; done) | (simp; omega)
        · simp [go_sem, c1, c2, setB]
    · simp [go_sem, c1, insC, Ins.cs]
      refine Weaker.fz 1 0 ?_ ?_ ?_
      · simp [go_sem, c1, setB]
      · first | (simp; done) | (simp; omega)
      · simp [go_sem, c1, setB]
  · skip
    refine tr_ret ⟨.inr rfl, ?_⟩
    simp [go_sem]

theorem goodArg_pf (r : Bool) (n : Int) : Pf Try.prog 42 [.agg [bV r, uV n]] (bV (argOk r n)) := by
  refine Pf.of_fn (.cons (.agg (.cons (.val _) (.cons (.val _) .nil))) .nil) (.val _) ?_
  refine fn_in T_ok func42 rfl rfl ntmps42 rfl (by simp) ?_
  refine region_k T_ok (by decide) fun K hK => ?_
  simp [go_sem]
  refine hK _ ?_; clear hK K
  refine region_to T_ok (by decide) ⟨11, [(2, bV (argOk r n))], [], 1⟩ ?_ ?_
  · by_cases c1 : r = true
    · simp [go_sem, c1]
      refine Weaker.fz 1 0 ?_ ?_ ?_
      · simp [go_sem, c1, argOk]
      · first | (simp; done) | (simp; omega)
      · simp [go_sem, c1, argOk]
    · simp [go_sem, c1]
      refine Weaker.fz 1 0 ?_ ?_ ?_
      · simp [go_sem, c1, argOk]
      · first | (simp; done) | (simp; omega)
      · simp [go_sem, c1, argOk]
  · skip
    refine tr_ret ⟨.inr rfl, ?_⟩
    simp [go_sem]

theorem before_pf (a b : Atm) : Pf Try.prog 31 [atmC a, atmC b] (bV (beforeB a b)) := by
  refine Pf.of_fn (.cons (nl_atmC a) (.cons (nl_atmC b) .nil)) (.val _) ?_
  refine fn_in T_ok func31 rfl rfl ntmps31 rfl (by simp) ?_
  refine region_k T_ok (by decide) fun K hK => ?_
  simp [go_sem, atmC, Atm.cs]
  refine hK _ ?_; clear hK K
  refine seq_k fun K1 hK1 => ?_
  refine region_k T_ok (by decide) fun K hK => ?_
  simp [go_sem, atmC, Atm.cs]
  refine hK _ ?_; clear hK K
  refine cond_k rfl (fun h => ?_) (fun h => ?_)
  · simp at h
    have hne := h
    refine region_to T_ok (by decide) ⟨30, [(4, bV (beforeB a b))], [], 2⟩ ?_ ?_
    · by_cases c1 : b.th < 0
      · simp [go_sem, c1, atmC, Atm.cs]
        refine Weaker.fz 1 0 ?_ ?_ ?_
        · simp [go_sem, c1, beforeB, hne]
        · first | (simp; done) | (simp; omega)
        · simp [go_sem, c1, beforeB, hne]
      · by_cases c2 : 0 ≤ a.th
        · by_cases c3 : a.th < b.th
          · simp [go_sem, c1, c2, c3, atmC, Atm.cs]
            refine Weaker.fz 1 0 ?_ ?_ ?_
            · simp [go_sem, c1, c2, c3, beforeB, hne]
            · first | (simp; done) | (simp; omega)
            · simp [go_sem, c1, c2, c3, beforeB, hne]
          · simp [go_sem, c1, c2, c3, atmC, Atm.cs]
            refine Weaker.fz 1 0 ?_ ?_ ?_
            · simp [go_sem, c1, c2, c3, beforeB, hne]
            · first | (simp; done) | (simp; omega)
            · simp [go_sem, c1, c2, c3, beforeB, hne]
        · simp [go_sem, c1, c2, atmC, Atm.cs]
          refine Weaker.fz 1 0 ?_ ?_ ?_
          · simp [go_sem, c1, c2, beforeB, hne]
          · first | (simp; done) | (simp; omega)
          · simp [go_sem, c1, c2, beforeB, hne]
    · skip
      refine tr_ret ⟨.inr rfl, ?_⟩
      simp [go_sem]
  · simp at h
    have hne := h
    refine tr_skip ?_
    refine hK1 _ ?_; try clear hK1 K1
    refine region_k T_ok (by decide) fun K hK => ?_
    simp [go_sem, atmC, Atm.cs]
    refine hK _ ?_; clear hK K
    refine tr_ret ⟨.inr rfl, ?_⟩
    simp [go_sem, beforeB, hne]

end Go.Proofs.Ytokdphmnlcmbbaa
