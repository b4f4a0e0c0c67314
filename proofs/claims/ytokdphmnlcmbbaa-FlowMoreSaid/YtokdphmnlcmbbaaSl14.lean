/- Calls that only read; the operations of a region whose order is open, each over what it touches. -/
import Derived.Test.YtokdphmnlcmbbaaSl13
set_option linter.unusedVariables false
set_option linter.unusedSimpArgs false
namespace Go.Sl

section
variable {fr : Nat → Prop} {F : Nat → Prop} {ι ι' : Names} {O : Nat → Prop} {H H' : Heap} {σ σ' : St} {a a' : Act} {w w' : World} {P : Program} {T : Tab}

/-- a call that reads what it is handed, and changes nothing -/
structure PfH (P : Program) (f : FuncId) (args : List V) (H : Heap) (r : V) : Prop where
  enters : Enters P f
  calls : ∀ F ι w cargs, VRels ι (Own F ι H) w args cargs → Rep F ι H w → Calls P f cargs.toArray w fun e w' => ∃ cv, e = .returned cv ∧ VRel ι (Own F ι H) w' r cv ∧
    w'.os = w.os ∧ w'.tape = w.tape ∧ w'.output = w.output ∧ w.heap.size ≤ w'.heap.size ∧ ∀ b, b < w.heap.size → w'.heap[b]? = w.heap[b]?

theorem Rep.own_lt (R : Rep F ι H w) : ∀ b, Own F ι H b → b < w.heap.size := by
  rintro b (hF | ⟨n, B, l, hm, hl, hg, rfl⟩)
  · exact R.frame b hF
  · obtain ⟨l', hl', _, h'⟩ := R.own n B hm
    rw [hl] at hl'; cases hl'
    exact (h' hg).1

theorem Pf.pfH {f : FuncId} {args : List V} {r : V} (h : Pf P f args r) (H : Heap) : PfH P f args H r :=
  ⟨h.enters, fun F ι w cargs h1 h2 => h.calls ι (Own F ι H) w cargs h2.own_lt h1⟩

theorem Rep.later (R : Rep F ι H w) (ho : w'.os = w.os) (ht : w'.tape = w.tape) (hu : w'.output = w.output) (hs : w.heap.size ≤ w'.heap.size) (hb : ∀ b, b < w.heap.size → w'.heap[b]? = w.heap[b]?) :
    Rep F ι H w' ∧ Kept ι H w ι H w' := by
  have K' : Kept ι H w ι H w' := ⟨fun _ _ h => h, ho, ht, hu, hs, fun b hb' _ => hb b hb', fun _ _ h => h⟩
  refine ⟨⟨fun b hF => Nat.lt_of_lt_of_le (R.frame b hF) hs, R.names, fun n B hm => ?_, R.apart⟩, K'⟩
  obtain ⟨l, hl, hB, hg⟩ := R.own n B hm
  exact ⟨l, hl, BRel.stays K'.stays (fun hgh => hb _ (hg hgh).1) hB, fun hgh => ⟨Nat.lt_of_lt_of_le (hg hgh).1 hs, (hg hgh).2⟩⟩

theorem PfH.fn {f : FuncId} {args : List V} {r : V} (h : PfH P f args H r) {k : Nat} {K : V → Heap → Nat → Prop} (hk : K r H k) : Fn P f args H k K := by
  refine ⟨h.enters, fun F ι w cargs h1 h2 h3 => (h.calls F ι w cargs h1 h2).mono ?_⟩
  rintro e w' ⟨cv, he, hv, ho, ht, hu, hs, hb⟩
  obtain ⟨R', K'⟩ := h2.later ho ht hu hs hb
  exact ⟨ι, r, cv, H, k, he, hk, ⟨K', Nat.le_refl _, fun _ _ => rfl, fun _ h => .inl h⟩, R', fun n _ => h3 n, hv⟩

theorem op_callD {o : Oper} {K : V → Heap → Nat → Prop} (f : Operand) (args : Array Operand) (ts : Array TypeId) (ho : o.op = .call ⟨.value f, args, ts⟩) {g : FuncId} {fs cs : List V} (hf : evalV σ.t f = .fn (.func g) fs cs) {r : V}
    (h : PfH P g (fs ++ args.toList.map (evalV σ.t) ++ cs) σ.H r) (hk : K r σ.H σ.k) : OpT fr P o σ K := by
  intro F ι a w hh next Q hn
  have he := hh.eval f
  rw [hf] at he
  generalize hcv : a.eval f = cv at he
  cases he with
  | fn h1 h2 =>
    rename_i fs' cs'
    obtain ⟨fn, hg, hnm, hbody⟩ := h.enters
    have hargs := (h1.append (VRels.evals hh args.toList)).append h2
    have hc := h.calls F ι w _ hargs hh.rep
    have hrun : (execOp a.eval o).run P w = .ok (.enter g (fs' ++ args.toList.map a.eval ++ cs').toArray) w := by
      unfold execOp; rw [ho]
      have e1 : fs'.toArray ++ args.map a.eval ++ cs'.toArray = (fs' ++ args.toList.map a.eval ++ cs').toArray := by
        apply Array.ext'; simp
      simp only [resolve, hcv, Deferred.ofValue, invoke, callFunc, Sem.run_bind, Sem.run_pure, Result.andThen_ok, run_program, hg, hnm, hbody, Bool.false_eq_true, if_false, e1]
    unfold Oper.wp
    rw [hrun]
    refine Calls.mono hc ?_
    rintro e w' ⟨cv', rfl, hv, ho', ht, hu, hs, hb⟩
    obtain ⟨R', K'⟩ := hh.rep.later ho' ht hu hs hb
    exact hn ι r cv' σ.H σ.k w' hk ⟨⟨K', Nat.le_refl _, fun _ _ => rfl, fun _ h => .inl h⟩, R', hh.fresh, hv⟩

/-- a call that only reads -/
def callD (P : Program) (g : FuncId) (args : List V) (H : Heap) [i : Inhabited (V → Prop)] : Prop := ∃ r, PfH P g args H r ∧ i.default r

/-- one operation of such a region -/
def opVD (T : Tab) (P : Program) (t : List (Nat × V)) (H : Heap) (k : Nat) (op : Op) (K : V → Heap → Nat → Prop) : Prop :=
  match op with
  | .call ⟨.value f, args, _⟩ =>
    match evalV t f with
    | .fn (.func g) fs cs => @callD P g (fs ++ args.toList.map (evalV t) ++ cs) H ⟨fun r => K r H k⟩
    | _ => False
  | op => opV T P t H k op K

theorem opVD_det (hT : TabOk P T) {o : Oper} {t : List (Nat × V)} {k : Nat} {K : V → Heap → Nat → Prop} (hfr : fr k) (h : opVD T P t H k o.op K) :
    ∃ v H' k', K v H' k' ∧ ∀ N, OpT fr P o ⟨N, t, H, k⟩ fun v' H'' k'' => v' = v ∧ H'' = H' ∧ k'' = k' := by
  unfold opVD at h
  split at h
  · rename_i f args ts ho
    split at h
    · rename_i g fs cs hf
      obtain ⟨r, h1, h2⟩ := h
      exact ⟨r, H, k, h2, fun N => op_callD (σ := ⟨N, t, H, k⟩) f args ts ho hf h1 ⟨rfl, rfl, rfl⟩⟩
    · exact h.elim
  · rename_i hno
    have hc : isCall o.op = false := by
      unfold isCall
      split
      · rename_i f args ts e; exact absurd e (hno f args ts)
      · rfl
    obtain ⟨v, H', k', h1, h2⟩ := opV_pt hc K h
    exact ⟨v, H', k', h1, fun N => opV_sound (σ := ⟨N, t, H, k⟩) hT hfr (fun e => by rw [hc] at e; cases e) (h2 _ ⟨rfl, rfl, rfl⟩)⟩

end

/-! ## what an operation touches -/

def opTmps (op : Op) : List Nat := op.operands.toList.filterMap fun | .tmp t => some t | _ => none

def rtT (t : List (Nat × V)) (op : Op) : List (Nat × V) := (opTmps op).map fun x => (x, get t x)

def V.nm : V → List Nat
  | .ptr n _ _ => [n]
  | .sl n _ _ => [n]
  | .sub n _ _ _ => [n]
  | .map n => [n]
  | _ => []

/-- what an address is taken of, as far as the heap is looked into for it -/
def atNm : V → List Nat
  | .sl n _ _ => [n]
  | .sub n _ _ _ => [n]
  | .map n => [n]
  | _ => []

def opNames (t : List (Nat × V)) (op : Op) : List Nat :=
  match op with
  | .move _ | .assign _ | .nilCheck _ | .fieldAddr _ _ _ => []
  | .indexAddr _ x _ => atNm (evalV t x)
  | op => (opTmps op).flatMap fun x => (get t x).nm

def pickH (ns : List Nat) (H : Heap) : Heap := H.filter fun p => decide (p.1 ∈ ns)
def restH (ns : List Nat) (H : Heap) : Heap := H.filter fun p => !decide (p.1 ∈ ns)

/-- 0: it changes no memory; 1: it makes a block; 2: it writes -/
def kindOf : Op → Nat
  | .box .. | .alloc .. | .buildSlice .. | .makeSlice .. | .makeMap .. => 1
  | .store .. | .mapUpdate .. | .insert .. | .mapEntry .. | .entryStore .. => 2
  | .call ⟨.builtin .append, _, _⟩ | .call ⟨.builtin .copy, _, _⟩ | .call ⟨.builtin .delete, _, _⟩ | .call ⟨.builtin .clear, _, _⟩ => 2
  | _ => 0

def stepOk (kd κ : Nat) (hs hs' : Heap) : Prop :=
  match kd with
  | 0 => hs' = hs
  | 1 => match hs' with
    | (n, _) :: r => n = κ ∧ r = hs
    | [] => False
  | _ => (hs'.map Prod.fst).Nodup ∧ ∀ n ∈ hs'.map Prod.fst, n = κ ∨ n ∈ hs.map Prod.fst

def nextH (kd : Nat) (ns : List Nat) (hs' H : Heap) : Heap :=
  match kd with
  | 0 => H
  | 1 => match hs' with
    | e :: _ => e :: H
    | [] => H
  | _ => hs' ++ restH ns H

def writes (kd κ : Nat) (ns : List Nat) : List Nat :=
  match kd with
  | 0 => []
  | 1 => [κ]
  | _ => κ :: ns

theorem get_rtT (t : List (Nat × V)) (op : Op) (x : Nat) : get (rtT t op) x = if x ∈ opTmps op then get t x else .any := by
  unfold rtT
  induction opTmps op with
  | nil => simp [get]
  | cons y ys ih =>
    simp only [List.map_cons, get, ih, List.mem_cons]
    by_cases h : x = y
    · subst h; simp
    · simp [h]

theorem pick_rest (ns : List Nat) (H : Heap) : H.Perm (pickH ns H ++ restH ns H) := by
  unfold pickH restH
  exact (List.filter_append_perm _ _).symm

theorem look_filter (p : Nat → Bool) (n : Nat) : ∀ H : Heap, look n (H.filter fun e => p e.1) = if p n then look n H else none
  | [] => by simp [look]
  | (m, b) :: r => by
    simp only [List.filter_cons, look]
    by_cases h : p m = true
    · rw [if_pos h]; simp only [look]
      by_cases hn : n = m
      · subst hn; simp [h]
      · simp only [hn, if_false]; exact look_filter p n r
    · rw [if_neg h, look_filter p n r]
      by_cases hn : n = m
      · subst hn; simp [h]
      · simp [hn]

theorem look_pick (ns : List Nat) (n : Nat) (H : Heap) : look n (pickH ns H) = if n ∈ ns then look n H else none := by
  have := look_filter (fun m => decide (m ∈ ns)) n H
  simpa [pickH] using this

theorem look_rest (ns : List Nat) (n : Nat) (H : Heap) : look n (restH ns H) = if n ∈ ns then none else look n H := by
  have := look_filter (fun m => !decide (m ∈ ns)) n H
  rw [restH, this]
  by_cases h : n ∈ ns <;> simp [h]

theorem look_append (n : Nat) (G : Heap) : ∀ H : Heap, look n (H ++ G) = (look n H).or (look n G)
  | [] => by simp [look]
  | (m, b) :: r => by
    simp only [List.cons_append, look]
    split
    · rfl
    · exact look_append n G r

theorem look_none {n : Nat} : ∀ {H : Heap}, look n H = none ↔ n ∉ H.map Prod.fst
  | [] => by simp [look]
  | (m, b) :: r => by
    simp only [look, List.map_cons, List.mem_cons, not_or]
    by_cases h : n = m
    · subst h; simp
    · simp only [h, if_false, not_false_eq_true, true_and]; exact look_none

theorem perm_of_look : ∀ {H H' : Heap}, (H.map Prod.fst).Nodup → (H'.map Prod.fst).Nodup → (∀ n, look n H = look n H') → H.Perm H' := by
  intro H
  induction H with
  | nil =>
    intro H' _ _ h
    cases H' with
    | nil => exact .refl _
    | cons p r => obtain ⟨m, b⟩ := p; have := h m; simp [look] at this
  | cons p r ih =>
    obtain ⟨m, b⟩ := p
    intro H' hd hd' h
    have hm : (m, b) ∈ H' := look_mem (by rw [← h m]; simp [look])
    obtain ⟨l1, l2, rfl⟩ := List.append_of_mem hm
    have hp : (l1 ++ (m, b) :: l2).Perm ((m, b) :: (l1 ++ l2)) := List.perm_middle
    have hd2 : (((m, b) :: (l1 ++ l2)).map Prod.fst).Nodup := (hp.map _).nodup_iff.1 hd'
    simp only [List.map_cons, List.nodup_cons] at hd hd2
    refine List.Perm.trans (List.Perm.cons _ (ih hd.2 hd2.2 fun n => ?_)) hp.symm
    have hn := h n
    rw [look_append] at hn ⊢
    simp only [look] at hn
    by_cases e : n = m
    · subst e
      rw [look_none.2 hd.1]
      have hnot := hd2.1
      simp only [List.map_append, List.mem_append, not_or] at hnot
      rw [look_none.2 hnot.1, look_none.2 hnot.2]; rfl
    · simp only [e, if_false] at hn
      exact hn

theorem names_pick (ns : List Nat) (H : Heap) (h : (H.map Prod.fst).Nodup) : ((pickH ns H).map Prod.fst).Nodup :=
  ((List.filter_sublist (l := H)).map Prod.fst).nodup h

theorem names_rest (ns : List Nat) (H : Heap) (h : (H.map Prod.fst).Nodup) : ((restH ns H).map Prod.fst).Nodup :=
  ((List.filter_sublist (l := H)).map Prod.fst).nodup h

/-! ## the run in the order of the text -/

structure Rec where
  t : List (Nat × V)
  H : Heap
  ran : Bool
  v : V
  hs : Heap

/-- does an operation run, by its guard? -/
def gw (ops : List Oper) (t : List (Nat × V)) : Option (Nat × Bool) → Option Bool
  | none => some true
  | some (j, want) =>
    match (ops[j]?).bind (·.dst) with
    | some d =>
      match get t d with
      | .val (.bool b) => some (b == want)
      | .tup [] => some false
      | _ => none
    | none => none

def logOf (o : Oper) (κ : Nat) (r : Rec) : List Nat × List Nat := if r.ran then (opNames r.t o.op, writes (kindOf o.op) κ (opNames r.t o.op)) else ([], [])

structure Good (P : Program) (ops : List Oper) (N κ : Nat) (o : Oper) (r r' : Rec) : Prop where
  dst : dstLt o.dst N
  guard : gw ops r.t o.guard = some r.ran
  t' : r'.t = setT r.t o.dst r.v
  yes : r.ran = true → (∀ N, OpT (· = κ) P o ⟨N, rtT r.t o.op, pickH (opNames r.t o.op) r.H, κ⟩ fun v H' _ => v = r.v ∧ H' = r.hs) ∧ stepOk (kindOf o.op) κ (pickH (opNames r.t o.op) r.H) r.hs ∧ r'.H = nextH (kindOf o.op) (opNames r.t o.op) r.hs r.H
  no : r.ran = false → r.v = .tup [] ∧ r'.H = r.H

def vcD (T : Tab) (P : Program) (ops : List Oper) (N : Nat) : Nat → List Oper → (List (Nat × V) → Heap → List (List Nat × List Nat) → Prop) → List (Nat × V) → Heap → List (List Nat × List Nat) → Prop
  | _, [], K, t, H, lg => K t H lg
  | κ, o :: rest, K, t, H, lg => dstLt o.dst N ∧ guardV ops t o.guard
      (opVD T P (rtT t o.op) (pickH (opNames t o.op) H) κ o.op fun v hs' _ => stepOk (kindOf o.op) κ (pickH (opNames t o.op) H) hs' ∧
        vcD T P ops N (κ + 1) rest K (setT t o.dst v) (nextH (kindOf o.op) (opNames t o.op) hs' H) (lg ++ [(opNames t o.op, writes (kindOf o.op) κ (opNames t o.op))]))
      (vcD T P ops N (κ + 1) rest K (setT t o.dst (.tup [])) H (lg ++ [([], [])]))

theorem guardV_gw {ops : List Oper} {t : List (Nat × V)} {g : Option (Nat × Bool)} {p q : Prop} (h : guardV ops t g p q) : (gw ops t g = some true ∧ p) ∨ (gw ops t g = some false ∧ q) := by
  have h := guardO_of h
  unfold guardO at h
  unfold gw
  cases g with
  | none => exact .inl ⟨rfl, h⟩
  | some g =>
    obtain ⟨j, want⟩ := g
    simp only at h ⊢
    cases hj : (ops[j]?).bind (·.dst) with
    | none => rw [hj] at h; exact h.elim
    | some d =>
      rw [hj] at h
      simp only at h ⊢
      split at h
      · rename_i b hb
        simp only [hb]
        cases want <;> cases b
        · exact .inl ⟨by first | trivial | simp, by first | exact h.1 trivial | exact h.1 rfl⟩
        · exact .inr ⟨by first | trivial | simp, by first | exact h.2 trivial | exact h.2 rfl⟩
        · exact .inr ⟨by first | trivial | simp, by first | exact h.2 trivial | exact h.2 rfl⟩
        · exact .inl ⟨by first | trivial | simp, by first | exact h.1 trivial | exact h.1 rfl⟩
      · rename_i hb; simp only [hb]; exact .inr ⟨by first | trivial | simp, h⟩
      · exact h.elim

theorem vcD_run {P : Program} {T : Tab} (hT : TabOk P T) (ops : List Oper) (N : Nat) (K : List (Nat × V) → Heap → List (List Nat × List Nat) → Prop) : ∀ (l : List Oper) (κ : Nat) (t : List (Nat × V)) (H : Heap) (lg : List (List Nat × List Nat)), vcD T P ops N κ l K t H lg →
    ∃ R : Nat → Rec, (R 0).t = t ∧ (R 0).H = H ∧ (∀ j o, l[j]? = some o → Good P ops N (κ + j) o (R j) (R (j + 1))) ∧ K (R l.length).t (R l.length).H (lg ++ l.mapIdx fun j o => logOf o (κ + j) (R j))
  | [], κ, t, H, lg, h => ⟨fun _ => ⟨t, H, true, .any, []⟩, rfl, rfl, by intro j o h; simp at h, by simpa [vcD] using h⟩
  | o :: rest, κ, t, H, lg, h => by
    simp only [vcD] at h
    obtain ⟨hd, hg⟩ := h
    rcases guardV_gw hg with ⟨hgw, hy⟩ | ⟨hgw, hn⟩
    · obtain ⟨v, hs', k', ⟨h1, h2⟩, h3⟩ := opVD_det (fr := (· = κ)) hT rfl hy
      obtain ⟨R, r0, r1, r2, r3⟩ := vcD_run hT ops N K rest (κ + 1) _ _ _ h2
      refine ⟨fun | 0 => ⟨t, H, true, v, hs'⟩ | j + 1 => R j, rfl, rfl, ?_, ?_⟩
      · intro j o' hj
        cases j with
        | zero =>
          simp at hj; subst hj
          exact ⟨hd, hgw, r0, fun _ => ⟨fun N => by
            intro F ι a w hh next Q hnx
            exact h3 N F ι a w hh next Q fun ι' v' cv H'' k'' w' e => hnx ι' v' cv H'' k'' w' ⟨e.1, e.2.1⟩, h1, r1⟩, (fun e => by cases e)⟩
        | succ j =>
          have := r2 j o' (by simpa using hj)
          rw [show κ + 1 + j = κ + (j + 1) by omega] at this
          exact this
      · simp only [List.length_cons, List.mapIdx_cons]
        rw [List.append_assoc] at r3
        have hfun : (fun j o => logOf o (κ + 1 + j) (R j)) = fun j o => logOf o (κ + (j + 1)) (R j) := by funext j o; rw [show κ + 1 + j = κ + (j + 1) by omega]
        rw [hfun] at r3
        exact r3
    · obtain ⟨R, r0, r1, r2, r3⟩ := vcD_run hT ops N K rest (κ + 1) _ _ _ hn
      refine ⟨fun | 0 => ⟨t, H, false, .tup [], []⟩ | j + 1 => R j, rfl, rfl, ?_, ?_⟩
      · intro j o' hj
        cases j with
        | zero =>
          simp at hj; subst hj
          exact ⟨hd, hgw, r0, (fun e => by cases e), fun _ => ⟨rfl, r1⟩⟩
        | succ j =>
          have := r2 j o' (by simpa using hj)
          rw [show κ + 1 + j = κ + (j + 1) by omega] at this
          exact this
      · simp only [List.length_cons, List.mapIdx_cons]
        rw [List.append_assoc] at r3
        have hfun : (fun j o => logOf o (κ + 1 + j) (R j)) = fun j o => logOf o (κ + (j + 1)) (R j) := by funext j o; rw [show κ + 1 + j = κ + (j + 1) by omega]
        rw [hfun] at r3
        exact r3

end Go.Sl
