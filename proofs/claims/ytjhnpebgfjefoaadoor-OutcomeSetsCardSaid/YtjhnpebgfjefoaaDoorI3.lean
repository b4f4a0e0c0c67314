/- Texts put together, in order: Sl14, Sl15, Sl16, Sl17, Sl18, Sl19, W9, Glita, W10, Glitg, Glith, W11, Gclitr, Sl20, Sl21, Sl23, S1, Sl25, Sl24, Sl26, Sl27, Sl28, Sl29, Sl30, W12, W30. -/
import Derived.Orders
import Derived.JoinedOf
import Derived.SizedLaws
import Derived.Carry
import Derived.OpenShut
import Derived.WideShapes
import Derived.KernelRfl
import Derived.IntWalk
import Derived.Test.YtjhnpebgfjefoaaDoorRows
import Derived.Test.YtjhnpebgfjefoaaDoorChecked
import Derived.Shelf.SlSortCmp.PdqK
import Derived.Lib.SliceRun
import Derived.Test.YtjhnpebgfjefoaaDoorI2
set_option linter.unusedVariables false
set_option linter.unusedSimpArgs false
namespace Go.Sl
variable [Md]
section
variable {fr : Nat → Prop} {F : Nat → Prop} {ι ι' : Names} {O : Nat → Prop} {H H' : Heap} {σ σ' : St} {a a' : Act} {w w' : World} {P : Program} {T : Tab}
structure PfH (P : Program) (f : FuncId) (args : List V) (H : Heap) (r : V) : Prop where
 enters : Enters P f
 calls : ∀ F ι w cargs, VRels ι (Own F ι H) w args cargs → Rep F ι H w → Calls P f cargs.toArray w fun e w' => ∃ cv, e = .returned cv ∧ VRel ι (Own F ι H) w' r cv ∧
  w'.os = w.os ∧ Tp w w' ∧ w'.output = w.output ∧ w.heap.size ≤ w'.heap.size ∧ ∀ b, b < w.heap.size → w'.heap[b]? = w.heap[b]?
omit [Md] in
theorem Rep.own_lt (R : Rep F ι H w) : ∀ b, Own F ι H b → b < w.heap.size := by
 rintro b (hF | ⟨n, B, l, hm, hl, hg, rfl⟩)
 ·exact R.frame b hF
 ·obtain ⟨l', hl', _, h'⟩ := R.own n B hm
  rw [hl] at hl'; cases hl'
  exact (h' hg).1
theorem Pf.pfH {f : FuncId} {args : List V} {r : V} (h : Pf P f args r) (H : Heap) : PfH P f args H r :=
 ⟨h.enters, fun F ι w cargs h1 h2 => h.calls ι (Own F ι H) w cargs h2.own_lt h1⟩
theorem Rep.later (R : Rep F ι H w) (ho : w'.os = w.os) (ht : Tp w w') (hu : w'.output = w.output) (hs : w.heap.size ≤ w'.heap.size) (hb : ∀ b, b < w.heap.size → w'.heap[b]? = w.heap[b]?) :
    Rep F ι H w' ∧ Kept ι H w ι H w' := by
  have K' : Kept ι H w ι H w' := ⟨fun _ _ h => h, ho, ht, hu, hs, fun b hb' _ => hb b hb', fun _ _ h => h⟩
  refine ⟨⟨fun b hF => Nat.lt_of_lt_of_le (R.frame b hF) hs, R.names, fun n B hm => ?_, R.apart⟩, K'⟩
  obtain ⟨l, hl, hB, hg⟩ := R.own n B hm
  exact ⟨l, hl, BRel.stays K'.stays (fun hgh => hb _ (hg hgh).1) hB, fun hgh => ⟨Nat.lt_of_lt_of_le (hg hgh).1 hs, (hg hgh).2⟩⟩
theorem PfH.fn {f : FuncId} {args : List V} {r : V} (h : PfH P f args H r) {k : Nat} {K : V → Heap → Nat → Prop} (hk : K r H k) : Fn P f args H k K := by
 refine ⟨h.enters, fun F ι w cargs h1 h2 h3 => (h.calls F ι w cargs h1 h2).mono ?_⟩
 rintro e w' ⟨cv, he, hv, ho, ht, hu, hs, hb⟩
 obtain ⟨R', K'⟩ := h2.later ho ht hu hs hb
 exact ⟨ι, r, cv, H, k, he, hk, ⟨K', Nat.le_refl _, fun _ _ => rfl, fun _ h => .inl h⟩, R', fun n _ => h3 n, hv⟩
theorem op_callD {o : Oper} {K : V → Heap → Nat → Prop} (f : Operand) (args : Array Operand) (ts : Array TypeId) (ho : o.op = .call ⟨.value f, args, ts⟩) {g : FuncId} {fs cs : List V} (hf : evalV σ.t f = .fn (.func g) fs cs) {r : V}
    (h : PfH P g (fs ++ args.toList.map (evalV σ.t) ++ cs) σ.H r) (hk : K r σ.H σ.k) : OpT fr P o σ K := by
  intro F ι a w hh next Q hn
  have he := hh.eval f
  rw [hf] at he
  generalize hcv : a.eval f = cv at he
  cases he with
  | fn h1 h2 =>
    rename_i fs' cs'
    obtain ⟨fn, hg, hnm, hbody⟩ := h.enters
    have hargs := (h1.append (VRels.evals hh args.toList)).append h2
    have hc := h.calls F ι w _ hargs hh.rep
    have hrun : (execOp a.eval o).run P w = .ok (.enter g (fs' ++ args.toList.map a.eval ++ cs').toArray) w := by
      unfold execOp; rw [ho]
      have e1 : fs'.toArray ++ args.map a.eval ++ cs'.toArray = (fs' ++ args.toList.map a.eval ++ cs').toArray := by
        apply Array.ext'; simp
      simp only [resolve, hcv, Deferred.ofValue, invoke, callFunc, Sem.run_bind, Sem.run_pure, Result.andThen_ok, run_program, hg, hnm, hbody, Bool.false_eq_true, if_false, e1]
    unfold Oper.wp
    rw [hrun]
    refine Calls.mono hc ?_
    rintro e w' ⟨cv', rfl, hv, ho', ht, hu, hs, hb⟩
    obtain ⟨R', K'⟩ := hh.rep.later ho' ht hu hs hb
    exact hn ι r cv' σ.H σ.k w' hk ⟨⟨K', Nat.le_refl _, fun _ _ => rfl, fun _ h => .inl h⟩, R', hh.fresh, hv⟩
def callD (P : Program) (g : FuncId) (args : List V) (H : Heap) [i : Inhabited (V → Prop)] : Prop := ∃ r, PfH P g args H r ∧ i.default r
def opVD (T : Tab) (P : Program) (t : List (Nat × V)) (H : Heap) (k : Nat) (op : Op) (K : V → Heap → Nat → Prop) : Prop :=
 match op with
 | .call ⟨.value f, args, _⟩ =>
  match evalV t f with
  | .fn (.func g) fs cs => @callD _ P g (fs ++ args.toList.map (evalV t) ++ cs) H ⟨fun r => K r H k⟩
  | _ => False
 | op => opV T P t H k op K
theorem opVD_det (hT : TabOk P T) {o : Oper} {t : List (Nat × V)} {k : Nat} {K : V → Heap → Nat → Prop} (hfr : fr k) (h : opVD T P t H k o.op K) :
    ∃ v H' k', K v H' k' ∧ ∀ N, OpT fr P o ⟨N, t, H, k⟩ fun v' H'' k'' => v' = v ∧ H'' = H' ∧ k'' = k' := by
  unfold opVD at h
  split at h
  · rename_i f args ts ho
    split at h
    · rename_i g fs cs hf
      obtain ⟨r, h1, h2⟩ := h
      exact ⟨r, H, k, h2, fun N => op_callD (σ := ⟨N, t, H, k⟩) f args ts ho hf h1 ⟨rfl, rfl, rfl⟩⟩
    · exact h.elim
  · rename_i hno
    have hc : isCall o.op = false := by
      unfold isCall
      split
      · rename_i f args ts e; exact absurd e (hno f args ts)
      · rfl
    obtain ⟨v, H', k', h1, h2⟩ := opV_pt hc K h
    exact ⟨v, H', k', h1, fun N => opV_sound (σ := ⟨N, t, H, k⟩) hT hfr (fun e => by rw [hc] at e; cases e) (h2 _ ⟨rfl, rfl, rfl⟩)⟩
end
def opTmps (op : Op) : List Nat := op.operands.toList.filterMap fun | .tmp t => some t | _ => none
def rtT (t : List (Nat × V)) (op : Op) : List (Nat × V) := (opTmps op).map fun x => (x, get t x)
def V.nm1 : V → List Nat
 | .ptr n _ _ => [n]
 | .sl n _ _ => [n]
 | .sub n _ _ _ _ => [n]
 | .map n => [n]
 | _ => []
def V.nm : V → List Nat
 | .ptr n _ _ => [n]
 | .sl n _ _ => [n]
 | .sub n _ _ _ _ => [n]
 | .map n => [n]
 | .fn _ fs cs => (fs ++ cs).flatMap V.nm1
 | _ => []
def atNm : V → List Nat
 | .sl n _ _ => [n]
 | .sub n _ _ _ _ => [n]
 | .map n => [n]
 | _ => []
def opNames (t : List (Nat × V)) (op : Op) : List Nat :=
 match op with
 | .move _ | .assign _ | .nilCheck _ | .fieldAddr _ _ _ => []
 | .indexAddr _ x _ => atNm (evalV t x)
 | op => (opTmps op).flatMap fun x => (get t x).nm
def pickH (ns : List Nat) (H : Heap) : Heap := H.filter fun p => decide (p.1 ∈ ns)
def restH (ns : List Nat) (H : Heap) : Heap := H.filter fun p => !decide (p.1 ∈ ns)
def kindOf : Op → Nat
 | .box .. | .alloc .. | .buildSlice .. | .makeSlice .. | .makeMap .. => 1
 | .store .. | .mapUpdate .. | .insert .. | .mapEntry .. | .entryStore .. => 2
 | .call ⟨.builtin .append, _, _⟩ | .call ⟨.builtin .copy, _, _⟩ | .call ⟨.builtin .delete, _, _⟩ | .call ⟨.builtin .clear, _, _⟩ => 2
 | _ => 0
def stepOk (kd κ : Nat) (hs hs' : Heap) : Prop :=
 match kd with
 | 0 => hs' = hs
 | 1 => match hs' with
  | (n, _) :: r => n = κ ∧ r = hs
  | [] => False
 | _ => (hs'.map Prod.fst).Nodup ∧ ∀ n ∈ hs'.map Prod.fst, n = κ ∨ n ∈ hs.map Prod.fst
def nextH (kd : Nat) (ns : List Nat) (hs' H : Heap) : Heap :=
 match kd with
 | 0 => H
 | 1 => match hs' with
  | e :: _ => e :: H
  | [] => H
 | _ => hs' ++ restH ns H
def writes (kd κ : Nat) (ns : List Nat) : List Nat :=
 match kd with
 | 0 => []
 | 1 => [κ]
 | _ => κ :: ns
omit [Md] in
theorem get_rtT (t : List (Nat × V)) (op : Op) (x : Nat) : get (rtT t op) x = if x ∈ opTmps op then get t x else .any := by
 unfold rtT
 induction opTmps op with
 | nil => simp [get]
 | cons y ys ih =>
  simp only [List.map_cons, get, ih, List.mem_cons]
  by_cases h : x = y
  ·subst h; simp
  ·simp [h]
omit [Md] in
theorem pick_rest (ns : List Nat) (H : Heap) : H.Perm (pickH ns H ++ restH ns H) := by
 unfold pickH restH
 exact (List.filter_append_perm _ _).symm
omit [Md] in
theorem look_filter (p : Nat → Bool) (n : Nat) : ∀ H : Heap, look n (H.filter fun e => p e.1) = if p n then look n H else none
 | [] => by simp [look]
 | (m, b) :: r => by
  simp only [List.filter_cons, look]
  by_cases h : p m = true
  ·rw [if_pos h]; simp only [look]
   by_cases hn : n = m
   ·subst hn; simp [h]
   ·simp only [hn, if_false]; exact look_filter p n r
  ·rw [if_neg h, look_filter p n r]
   by_cases hn : n = m
   ·subst hn; simp [h]
   ·simp [hn]
omit [Md] in
theorem look_pick (ns : List Nat) (n : Nat) (H : Heap) : look n (pickH ns H) = if n ∈ ns then look n H else none := by
 have := look_filter (fun m => decide (m ∈ ns)) n H
 simpa [pickH] using this
omit [Md] in
theorem look_rest (ns : List Nat) (n : Nat) (H : Heap) : look n (restH ns H) = if n ∈ ns then none else look n H := by
 have := look_filter (fun m => !decide (m ∈ ns)) n H
 rw [restH, this]
 by_cases h : n ∈ ns <;> simp [h]
omit [Md] in
theorem look_append (n : Nat) (G : Heap) : ∀ H : Heap, look n (H ++ G) = (look n H).or (look n G)
 | [] => by simp [look]
 | (m, b) :: r => by
  simp only [List.cons_append, look]
  split
  ·rfl
  ·exact look_append n G r
omit [Md] in
theorem look_none {n : Nat} : ∀ {H : Heap}, look n H = none ↔ n ∉ H.map Prod.fst
 | [] => by simp [look]
 | (m, b) :: r => by
  simp only [look, List.map_cons, List.mem_cons, not_or]
  by_cases h : n = m
  ·subst h; simp
  ·simp only [h, if_false, not_false_eq_true, true_and]; exact look_none
omit [Md] in
theorem perm_of_look : ∀ {H H' : Heap}, (H.map Prod.fst).Nodup → (H'.map Prod.fst).Nodup → (∀ n, look n H = look n H') → H.Perm H' := by
 intro H
 induction H with
 | nil =>
  intro H' _ _ h
  cases H' with
  | nil => exact .refl _
  | cons p r => obtain ⟨m, b⟩ := p; have := h m; simp [look] at this
 | cons p r ih =>
  obtain ⟨m, b⟩ := p
  intro H' hd hd' h
  have hm : (m, b) ∈ H' := look_mem (by rw [← h m]; simp [look])
  obtain ⟨l1, l2, rfl⟩ := List.append_of_mem hm
  have hp : (l1 ++ (m, b) :: l2).Perm ((m, b) :: (l1 ++ l2)) := List.perm_middle
  have hd2 : (((m, b) :: (l1 ++ l2)).map Prod.fst).Nodup := (hp.map _).nodup_iff.1 hd'
  simp only [List.map_cons, List.nodup_cons] at hd hd2
  refine List.Perm.trans (List.Perm.cons _ (ih hd.2 hd2.2 fun n => ?_)) hp.symm
  have hn := h n
  rw [look_append] at hn ⊢
  simp only [look] at hn
  by_cases e : n = m
  ·subst e
   rw [look_none.2 hd.1]
   have hnot := hd2.1
   simp only [List.map_append, List.mem_append, not_or] at hnot
   rw [look_none.2 hnot.1, look_none.2 hnot.2]; rfl
  ·simp only [e, if_false] at hn
   exact hn
omit [Md] in
theorem names_pick (ns : List Nat) (H : Heap) (h : (H.map Prod.fst).Nodup) : ((pickH ns H).map Prod.fst).Nodup :=
 ((List.filter_sublist (l := H)).map Prod.fst).nodup h
omit [Md] in
theorem names_rest (ns : List Nat) (H : Heap) (h : (H.map Prod.fst).Nodup) : ((restH ns H).map Prod.fst).Nodup :=
 ((List.filter_sublist (l := H)).map Prod.fst).nodup h
structure Rec where
 t : List (Nat × V)
 H : Heap
 ran : Bool
 v : V
 hs : Heap
def gw (ops : List Oper) (t : List (Nat × V)) : Option (Nat × Bool) → Option Bool
 | none => some true
 | some (j, want) =>
  match (ops[j]?).bind (·.dst) with
  | some d =>
   match get t d with
   | .val (.bool b) => some (b == want)
   | .tup [] => some false
   | _ => none
  | none => none
def logOf (o : Oper) (κ : Nat) (r : Rec) : List Nat × List Nat := if r.ran then (opNames r.t o.op, writes (kindOf o.op) κ (opNames r.t o.op)) else ([], [])
structure Good (P : Program) (ops : List Oper) (N κ : Nat) (o : Oper) (r r' : Rec) : Prop where
 dst : dstLt o.dst N
 guard : gw ops r.t o.guard = some r.ran
 t' : r'.t = setT r.t o.dst r.v
 yes : r.ran = true → (∀ N, OpT (· = κ) P o ⟨N, rtT r.t o.op, pickH (opNames r.t o.op) r.H, κ⟩ fun v H' _ => v = r.v ∧ H' = r.hs) ∧ stepOk (kindOf o.op) κ (pickH (opNames r.t o.op) r.H) r.hs ∧ r'.H = nextH (kindOf o.op) (opNames r.t o.op) r.hs r.H
 no : r.ran = false → r.v = .tup [] ∧ r'.H = r.H
def vcD (T : Tab) (P : Program) (ops : List Oper) (N : Nat) : Nat → List Oper → (List (Nat × V) → Heap → List (List Nat × List Nat) → Prop) → List (Nat × V) → Heap → List (List Nat × List Nat) → Prop
  | _, [], K, t, H, lg => K t H lg
  | κ, o :: rest, K, t, H, lg => dstLt o.dst N ∧ guardV ops t o.guard
      (opVD T P (rtT t o.op) (pickH (opNames t o.op) H) κ o.op fun v hs' _ => stepOk (kindOf o.op) κ (pickH (opNames t o.op) H) hs' ∧
        vcD T P ops N (κ + 1) rest K (setT t o.dst v) (nextH (kindOf o.op) (opNames t o.op) hs' H) (lg ++ [(opNames t o.op, writes (kindOf o.op) κ (opNames t o.op))]))
      (vcD T P ops N (κ + 1) rest K (setT t o.dst (.tup [])) H (lg ++ [([], [])]))
omit [Md] in
theorem guardV_gw {ops : List Oper} {t : List (Nat × V)} {g : Option (Nat × Bool)} {p q : Prop} (h : guardV ops t g p q) : (gw ops t g = some true ∧ p) ∨ (gw ops t g = some false ∧ q) := by
 have h := guardO_of h
 unfold guardO at h
 unfold gw
 cases g with
 | none => exact .inl ⟨rfl, h⟩
 | some g =>
  obtain ⟨j, want⟩ := g
  simp only at h ⊢
  cases hj : (ops[j]?).bind (·.dst) with
  | none => rw [hj] at h; exact h.elim
  | some d =>
   rw [hj] at h
   simp only at h ⊢
   split at h
   ·rename_i b hb
    simp only [hb]
    cases want <;> cases b
    ·exact .inl ⟨by first | trivial | simp, by first | exact h.1 trivial | exact h.1 rfl⟩
    ·exact .inr ⟨by first | trivial | simp, by first | exact h.2 trivial | exact h.2 rfl⟩
    ·exact .inr ⟨by first | trivial | simp, by first | exact h.2 trivial | exact h.2 rfl⟩
    ·exact .inl ⟨by first | trivial | simp, by first | exact h.1 trivial | exact h.1 rfl⟩
   ·rename_i hb; simp only [hb]; exact .inr ⟨by first | trivial | simp, h⟩
   ·exact h.elim
theorem vcD_run {P : Program} {T : Tab} (hT : TabOk P T) (ops : List Oper) (N : Nat) (K : List (Nat × V) → Heap → List (List Nat × List Nat) → Prop) : ∀ (l : List Oper) (κ : Nat) (t : List (Nat × V)) (H : Heap) (lg : List (List Nat × List Nat)), vcD T P ops N κ l K t H lg →
    ∃ R : Nat → Rec, (R 0).t = t ∧ (R 0).H = H ∧ (∀ j o, l[j]? = some o → Good P ops N (κ + j) o (R j) (R (j + 1))) ∧ K (R l.length).t (R l.length).H (lg ++ l.mapIdx fun j o => logOf o (κ + j) (R j))
  | [], κ, t, H, lg, h => ⟨fun _ => ⟨t, H, true, .any, []⟩, rfl, rfl, by intro j o h; simp at h, by simpa [vcD] using h⟩
  | o :: rest, κ, t, H, lg, h => by
    simp only [vcD] at h
    obtain ⟨hd, hg⟩ := h
    rcases guardV_gw hg with ⟨hgw, hy⟩ | ⟨hgw, hn⟩
    · obtain ⟨v, hs', k', ⟨h1, h2⟩, h3⟩ := opVD_det (fr := (· = κ)) hT rfl hy
      obtain ⟨R, r0, r1, r2, r3⟩ := vcD_run hT ops N K rest (κ + 1) _ _ _ h2
      refine ⟨fun | 0 => ⟨t, H, true, v, hs'⟩ | j + 1 => R j, rfl, rfl, ?_, ?_⟩
      · intro j o' hj
        cases j with
        | zero =>
          simp at hj; subst hj
          exact ⟨hd, hgw, r0, fun _ => ⟨fun N => by
            intro F ι a w hh next Q hnx
            exact h3 N F ι a w hh next Q fun ι' v' cv H'' k'' w' e => hnx ι' v' cv H'' k'' w' ⟨e.1, e.2.1⟩, h1, r1⟩, (fun e => by cases e)⟩
        | succ j =>
          have := r2 j o' (by simpa using hj)
          rw [show κ + 1 + j = κ + (j + 1) by omega] at this
          exact this
      · simp only [List.length_cons, List.mapIdx_cons]
        rw [List.append_assoc] at r3
        have hfun : (fun j o => logOf o (κ + 1 + j) (R j)) = fun j o => logOf o (κ + (j + 1)) (R j) := by funext j o; rw [show κ + 1 + j = κ + (j + 1) by omega]
        rw [hfun] at r3
        exact r3
    · obtain ⟨R, r0, r1, r2, r3⟩ := vcD_run hT ops N K rest (κ + 1) _ _ _ hn
      refine ⟨fun | 0 => ⟨t, H, false, .tup [], []⟩ | j + 1 => R j, rfl, rfl, ?_, ?_⟩
      · intro j o' hj
        cases j with
        | zero =>
          simp at hj; subst hj
          exact ⟨hd, hgw, r0, (fun e => by cases e), fun _ => ⟨rfl, r1⟩⟩
        | succ j =>
          have := r2 j o' (by simpa using hj)
          rw [show κ + 1 + j = κ + (j + 1) by omega] at this
          exact this
      · simp only [List.length_cons, List.mapIdx_cons]
        rw [List.append_assoc] at r3
        have hfun : (fun j o => logOf o (κ + 1 + j) (R j)) = fun j o => logOf o (κ + (j + 1)) (R j) := by funext j o; rw [show κ + 1 + j = κ + (j + 1) by omega]
        rw [hfun] at r3
        exact r3
end Go.Sl
namespace Go.Sl
variable [Md]
def last (p : Nat → Bool) : Nat → Nat
 | 0 => 0
 | n + 1 => if p n then n + 1 else last p n
omit [Md] in
theorem last_le (p : Nat → Bool) : ∀ n, last p n ≤ n
 | 0 => Nat.le_refl _
 | n + 1 => by simp only [last]; split; exact Nat.le_refl _; exact Nat.le_succ_of_le (last_le p n)
omit [Md] in
theorem last_none (p : Nat → Bool) : ∀ n k, last p n ≤ k → k < n → p k = false
 | 0, k, _, h => by omega
 | n + 1, k, h, hk => by
  simp only [last] at h
  split at h
  ·omega
  ·rename_i hp
   by_cases e : k = n
   ·subst e; simpa using hp
   ·exact last_none p n k h (by omega)
omit [Md] in
theorem last_congr {p q : Nat → Bool} : ∀ n, (∀ k, k < n → p k = q k) → last p n = last q n
 | 0, _ => rfl
 | n + 1, h => by simp only [last, h n (by omega), last_congr n fun k hk => h k (by omega)]
omit [Md] in
theorem last_skip {p : Nat → Bool} {a : Nat} : ∀ n, a ≤ n → (∀ k, a ≤ k → k < n → p k = false) → last p n = last p a
  | 0, h, _ => by have : a = 0 := by omega
                  subst this; rfl
  | n + 1, h, hp => by
    by_cases e : a = n + 1
    · subst e; rfl
    · simp only [last, hp n (by omega) (by omega), Bool.false_eq_true, if_false]
      exact last_skip n (by omega) fun k h1 h2 => hp k h1 (by omega)
omit [Md] in
theorem last_at {p : Nat → Bool} {i n : Nat} (hi : i < n) (hp : p i = true) (h : ∀ k, i < k → k < n → p k = false) : last p n = i + 1 := by
 rw [last_skip (a := i + 1) n (by omega) fun k h1 h2 => h k (by omega) h2]
 simp only [last, hp, if_true]
omit [Md] in
theorem last_zero {p : Nat → Bool} : ∀ n, (∀ k, k < n → p k = false) → last p n = 0
 | 0, _ => rfl
 | n + 1, h => by simp only [last, h n (by omega), Bool.false_eq_true, if_false]; exact last_zero n fun k hk => h k (by omega)
def direct (ops : List Oper) (j : Nat) : List Nat :=
 match ops[j]? with
 | some o => (o.after.toList.filter (Region.binds .any)).map (·.on)
 | none => []
def dstOf (ops : List Oper) (j : Nat) : Option Nat := (ops[j]?).bind (·.dst)
def readsOf (ops : List Oper) (j : Nat) : List Nat :=
 match ops[j]? with
 | some o => opTmps o.op ++ (match o.guard with | some (g, _) => (dstOf ops g).toList | none => [])
 | none => []
def tmpConf (ops : List Oper) (i j : Nat) : Bool :=
 (match dstOf ops i with | some d => (readsOf ops j).contains d || dstOf ops j == some d | none => false) ||
 (match dstOf ops j with | some d => (readsOf ops i).contains d | none => false)
def row (tbl : List (List Nat)) (j : Nat) : List Nat := tbl.getD j []
def drawOk (ops : List Oper) (tbl : List (List Nat)) (m : Nat) : Bool :=
 decide (m ≤ ops.length) &&
 (List.range ops.length).all (fun j =>
  (direct ops j).all (fun e => decide (e < j)) &&
  (row tbl j).all (fun i => decide (i < j) && ((direct ops j).contains i || (direct ops j).any fun k => (row tbl k).contains i)) &&
  (decide (j < m) || (List.range j).all fun i => (row tbl j).contains i)) &&
 (List.range m).all (fun j => (List.range j).all fun i => !tmpConf ops i j || (row tbl j).contains i)
def disj (a b : List Nat) : Prop := ∀ x ∈ a, ∀ y ∈ b, x ≠ y
def disj3 (x y : List Nat × List Nat) : Prop := disj x.1 y.2 ∧ disj x.2 y.1 ∧ disj x.2 y.2
def confOne (tbl : List (List Nat)) (i : Nat) (x : List Nat × List Nat) : Nat → List (List Nat × List Nat) → Prop
 | _, [] => True
 | j, y :: r => (if (row tbl j).contains i then True else disj3 x y) ∧ confOne tbl i x (j + 1) r
def confP (tbl : List (List Nat)) : Nat → List (List Nat × List Nat) → Prop
 | _, [] => True
 | i, x :: r => confOne tbl i x (i + 1) r ∧ confP tbl (i + 1) r
def pairsOk (ops : List Oper) (tbl : List (List Nat)) (prs : List (Nat × Nat)) (m : Nat) : Bool :=
 (List.range m).all fun j => (List.range j).all fun i => (row tbl j).contains i || prs.contains (i, j) ||
  (((ops[i]?).map fun o => kindOf o.op) == some 0 && ((ops[j]?).map fun o => kindOf o.op) == some 0)
def confQ : List (Nat × Nat) → List (List Nat × List Nat) → Prop
 | [], _ => True
 | (i, j) :: r, lg => disj3 (lg.getD i ([], [])) (lg.getD j ([], [])) ∧ confQ r lg
omit [Md] in
theorem confQ_spec : ∀ {prs : List (Nat × Nat)} {lg : List (List Nat × List Nat)}, confQ prs lg → ∀ i j, (i, j) ∈ prs → disj3 (lg.getD i ([], [])) (lg.getD j ([], []))
 | [], _, _, i, j, hm => by simp at hm
 | (i', j') :: r, lg, h, i, j, hm => by
  simp only [confQ] at h
  rcases List.mem_cons.1 hm with e | hm
  ·cases e; exact h.1
  ·exact confQ_spec h.2 i j hm
omit [Md] in
theorem disj3_quiet {x y : List Nat × List Nat} (hx : x.2 = []) (hy : y.2 = []) : disj3 x y := by
 unfold disj3 disj
 rw [hx, hy]
 simp
omit [Md] in
theorem confOne_spec {tbl : List (List Nat)} {i : Nat} {x : List Nat × List Nat} : ∀ (l : List (List Nat × List Nat)) (s : Nat), confOne tbl i x s l → ∀ q y, l[q]? = some y → i ∈ row tbl (s + q) ∨ disj3 x y
 | [], s, h, q, y, hq => by simp at hq
 | z :: l, s, h, q, y, hq => by
  simp only [confOne] at h
  cases q with
  | zero =>
   simp at hq; subst hq
   have h1 := h.1
   split at h1
   ·rename_i hc; exact .inl (by simpa using hc)
   ·exact .inr h1
  | succ q =>
   have := confOne_spec l (s + 1) h.2 q y (by simpa using hq)
   rw [show s + 1 + q = s + (q + 1) by omega] at this
   exact this
omit [Md] in
theorem confP_spec {tbl : List (List Nat)} : ∀ (l : List (List Nat × List Nat)) (s : Nat), confP tbl s l → ∀ i j x y, i < j → l[i]? = some x → l[j]? = some y → s + i ∈ row tbl (s + j) ∨ disj3 x y
 | [], s, h, i, j, x, y, hij, hi, hj => by simp at hi
 | z :: l, s, h, i, j, x, y, hij, hi, hj => by
  simp only [confP] at h
  cases j with
  | zero => omega
  | succ j =>
   cases i with
   | zero =>
    simp at hi; subst hi
    have := confOne_spec l (s + 1) h.1 j y (by simpa using hj)
    rw [show s + 1 + j = s + (j + 1) by omega] at this
    exact this
   | succ i =>
    have := confP_spec l (s + 1) h.2 i j x y (by omega) (by simpa using hi) (by simpa using hj)
    rw [show s + 1 + i = s + (i + 1) by omega, show s + 1 + j = s + (j + 1) by omega] at this
    exact this
def lgOf (ops : List Oper) (κ0 : Nat) (R : Nat → Rec) (k : Nat) : List Nat × List Nat :=
 match ops[k]? with
 | some o => logOf o (κ0 + k) (R k)
 | none => ([], [])
structure Ctx (P : Program) (ops : List Oper) (N κ0 m : Nat) (R : Nat → Rec) (tbl : List (List Nat)) : Prop where
 good : ∀ j, j < m → ∀ o, ops[j]? = some o → Good P ops N (κ0 + j) o (R j) (R (j + 1))
 mle : m ≤ ops.length
 edges : ∀ j, j < ops.length → ∀ e ∈ direct ops j, e < j
 tblOk : ∀ j, j < ops.length → ∀ i ∈ row tbl j, i < j ∧ (i ∈ direct ops j ∨ ∃ k ∈ direct ops j, i ∈ row tbl k)
 tail : ∀ j, m ≤ j → j < ops.length → ∀ i, i < j → i ∈ row tbl j
 tmp : ∀ i j, i < j → j < m → tmpConf ops i j = true → i ∈ row tbl j
 mem : ∀ i j, i < j → j < m → i ∈ row tbl j ∨ disj3 (lgOf ops κ0 R i) (lgOf ops κ0 R j)
 dl : ∀ o ∈ ops, dstLt o.dst N
 h0 : ((R 0).H.map Prod.fst).Nodup
 h1 : ∀ n ∈ (R 0).H.map Prod.fst, n < κ0
section
variable {P : Program} {ops : List Oper} {N κ0 m : Nat} {R : Nat → Rec} {tbl : List (List Nat)}
theorem Ctx.op (C : Ctx P ops N κ0 m R tbl) {j : Nat} (h : j < m) : ∃ o, ops[j]? = some o := ⟨_, List.getElem?_eq_getElem (Nat.lt_of_lt_of_le h C.mle)⟩
theorem Ctx.names (C : Ctx P ops N κ0 m R tbl) : ∀ j, j ≤ m → ((R j).H.map Prod.fst).Nodup ∧ ∀ n ∈ (R j).H.map Prod.fst, n < κ0 + j
 | 0, _ => ⟨C.h0, C.h1⟩
 | j + 1, h => by
  obtain ⟨i1, i2⟩ := C.names j (by omega)
  obtain ⟨o, ho⟩ := C.op (show j < m by omega)
  have G := C.good j (by omega) o ho
  cases hr : (R j).ran with
  | false =>
   rw [(G.no hr).2]
   exact ⟨i1, fun n hn => by have := i2 n hn; omega⟩
  | true =>
   obtain ⟨_, hs, hH⟩ := G.yes hr
   rw [hH]
   unfold nextH
   unfold stepOk at hs
   split
   ·exact ⟨i1, fun n hn => by have := i2 n hn; omega⟩
   ·rename_i hk
    rw [hk] at hs
    simp only at hs
    cases hhs : (R j).hs with
    | nil => simp only; exact ⟨i1, fun n hn => by have := i2 n hn; omega⟩
    | cons e r =>
     obtain ⟨n0, b0⟩ := e
     rw [hhs] at hs
     simp only at hs
     simp only [List.map_cons, List.nodup_cons, List.mem_cons]
     refine ⟨⟨fun hc => by have := i2 _ hc; omega, i1⟩, fun n hn => ?_⟩
     rcases hn with rfl | hn
     ·omega
     ·have := i2 n hn; omega
   ·rename_i hk1 hk2
    have hs' : ((R j).hs.map Prod.fst).Nodup ∧ ∀ n ∈ (R j).hs.map Prod.fst, n = κ0 + j ∨ n ∈ (pickH (opNames (R j).t o.op) (R j).H).map Prod.fst := by
     split at hs
     ·rename_i e; exact absurd e hk1
     ·rename_i e; exact absurd e hk2
     ·exact hs
    obtain ⟨s1, s2⟩ := hs'
    have hpk : ∀ n ∈ (pickH (opNames (R j).t o.op) (R j).H).map Prod.fst, n ∈ opNames (R j).t o.op ∧ n ∈ (R j).H.map Prod.fst := by
     intro n hn
     obtain ⟨p, hp, rfl⟩ := List.mem_map.1 hn
     have := List.mem_filter.1 hp
     exact ⟨by simpa using this.2, List.mem_map.2 ⟨p, this.1, rfl⟩⟩
    have hrs : ∀ n ∈ (restH (opNames (R j).t o.op) (R j).H).map Prod.fst, n ∉ opNames (R j).t o.op ∧ n ∈ (R j).H.map Prod.fst := by
     intro n hn
     obtain ⟨p, hp, rfl⟩ := List.mem_map.1 hn
     have := List.mem_filter.1 hp
     exact ⟨by simpa using this.2, List.mem_map.2 ⟨p, this.1, rfl⟩⟩
    simp only [List.map_append]
    rw [List.nodup_append]
    refine ⟨⟨s1, names_rest _ _ i1, ?_⟩, ?_⟩
    ·rintro x hx y hy rfl
     rcases s2 x hx with h | h
     ·have := i2 x (hrs x hy).2; omega
     ·exact (hrs x hy).1 (hpk x h).1
    ·intro n hn
     rcases List.mem_append.1 hn with hn | hn
     ·rcases s2 n hn with h | h
      ·omega
      ·have := i2 n (hpk n h).2; omega
     ·have := i2 n (hrs n hn).2; omega
theorem Ctx.stepT (C : Ctx P ops N κ0 m R tbl) {k x : Nat} (hk : k < m) (h : dstOf ops k ≠ some x) : get (R (k + 1)).t x = get (R k).t x := by
 obtain ⟨o, ho⟩ := C.op hk
 have G := C.good k hk o ho
 rw [G.t']
 unfold dstOf at h
 rw [ho] at h
 simp only [Option.bind_some] at h
 cases hd : o.dst with
 | none => rfl
 | some d =>
  rw [hd] at h
  simp only [setT, get]
  rw [if_neg (fun e => h (by rw [e]))]
theorem Ctx.stepH (C : Ctx P ops N κ0 m R tbl) {k β : Nat} (hk : k < m) (h : β ∉ (lgOf ops κ0 R k).2) : look β (R (k + 1)).H = look β (R k).H := by
 obtain ⟨o, ho⟩ := C.op hk
 have G := C.good k hk o ho
 unfold lgOf at h
 rw [ho] at h
 simp only [logOf] at h
 cases hr : (R k).ran with
 | false => rw [(G.no hr).2]
 | true =>
  rw [hr] at h
  simp only [if_true] at h
  obtain ⟨_, hs, hH⟩ := G.yes hr
  rw [hH]
  unfold nextH
  unfold stepOk at hs
  unfold writes at h
  split
  ·rfl
  ·rename_i hk1
   rw [hk1] at hs h
   simp only [List.mem_singleton] at hs h
   cases hhs : (R k).hs with
   | nil => rfl
   | cons e r =>
    obtain ⟨n0, b0⟩ := e
    rw [hhs] at hs
    simp only at hs ⊢
    simp only [look]
    rw [if_neg (fun e => h (e.trans hs.1))]
  ·rename_i hk1 hk2
   have hs' : ((R k).hs.map Prod.fst).Nodup ∧ ∀ n ∈ (R k).hs.map Prod.fst, n = κ0 + k ∨ n ∈ (pickH (opNames (R k).t o.op) (R k).H).map Prod.fst := by
    split at hs
    ·rename_i e; exact absurd e hk1
    ·rename_i e; exact absurd e hk2
    ·exact hs
   have h' : β ≠ κ0 + k ∧ β ∉ opNames (R k).t o.op := by
    split at h
    ·rename_i e; exact absurd e hk1
    ·rename_i e; exact absurd e hk2
    ·simpa using h
   rw [look_append, look_rest, if_neg h'.2]
   have : look β (R k).hs = none := look_none.2 fun hm => by
    rcases hs'.2 β hm with e | e
    ·exact h'.1 e
    ·obtain ⟨p, hp, rfl⟩ := List.mem_map.1 e
     exact h'.2 (by simpa using (List.mem_filter.1 hp).2)
   rw [this]; rfl
theorem Ctx.runT (C : Ctx P ops N κ0 m R tbl) {x q : Nat} : ∀ i, q ≤ i → i ≤ m → (∀ k, q ≤ k → k < i → dstOf ops k ≠ some x) → get (R i).t x = get (R q).t x
  | 0, h, _, _ => by have : q = 0 := by omega
                     subst this; rfl
  | i + 1, h, hi, hd => by
    by_cases e : q = i + 1
    · subst e; rfl
    · rw [C.stepT (by omega) (hd i (by omega) (by omega))]
      exact C.runT i (by omega) (by omega) fun k h1 h2 => hd k h1 (by omega)
theorem Ctx.runH (C : Ctx P ops N κ0 m R tbl) {x q : Nat} : ∀ i, q ≤ i → i ≤ m → (∀ k, q ≤ k → k < i → x ∉ (lgOf ops κ0 R k).2) → look x (R i).H = look x (R q).H
  | 0, h, _, _ => by have : q = 0 := by omega
                     subst this; rfl
  | i + 1, h, hi, hd => by
    by_cases e : q = i + 1
    · subst e; rfl
    · rw [C.stepH (by omega) (hd i (by omega) (by omega))]
      exact C.runH i (by omega) (by omega) fun k h1 h2 => hd k h1 (by omega)
def Down (ops : List Oper) (L : Nat → Bool) : Prop := ∀ j, L j = true → ∀ e ∈ direct ops j, L e = true
theorem Ctx.before (C : Ctx P ops N κ0 m R tbl) {L : Nat → Bool} (hL : Down ops L) : ∀ j, j < ops.length → (∀ e ∈ direct ops j, L e = true) → ∀ i ∈ row tbl j, L i = true := by
 intro j
 induction j using Nat.strongRecOn with
 | _ j ih =>
  intro hj hd i hi
  rcases (C.tblOk j hj i hi).2 with h | ⟨k, hk, h⟩
  ·exact hd i h
  ·have hlt := C.edges j hj k hk
   exact ih k hlt (by omega) (hL k (hd k hk)) i h
def pT (ops : List Oper) (L : Nat → Bool) (x k : Nat) : Bool := L k && dstOf ops k == some x
def pH (ops : List Oper) (κ0 : Nat) (R : Nat → Rec) (L : Nat → Bool) (β k : Nat) : Bool := L k && decide (β ∈ (lgOf ops κ0 R k).2)
theorem Ctx.agreeT (C : Ctx P ops N κ0 m R tbl) {L : Nat → Bool} {i x : Nat} (hi : i < m) (hLi : L i = false) (h : ∀ k, k < m → k ≠ i → dstOf ops k = some x → (k < i → L k = true) ∧ (i < k → L k = false)) :
    get (R (last (pT ops L x) m)).t x = get (R i).t x := by
  have e1 : last (pT ops L x) m = last (pT ops L x) i := last_skip m (by omega) fun k h1 h2 => by
    unfold pT
    by_cases e : k = i
    · subst e; simp [hLi]
    · by_cases hd : dstOf ops k = some x
      · simp [(h k h2 e hd).2 (by omega)]
      · simp [hd]
  have e2 : last (pT ops L x) i = last (fun k => dstOf ops k == some x) i := last_congr i fun k hk => by
    unfold pT
    by_cases hd : dstOf ops k = some x
    · simp [(h k (by omega) (by omega) hd).1 hk]
    · simp [hd]
  rw [e1, e2]
  exact (C.runT i (last_le _ _) (by omega) fun k h1 h2 => by
    have := last_none _ i k h1 h2
    simpa using this).symm
theorem Ctx.agreeH (C : Ctx P ops N κ0 m R tbl) {L : Nat → Bool} {i β : Nat} (hi : i < m) (hLi : L i = false) (h : ∀ k, k < m → k ≠ i → β ∈ (lgOf ops κ0 R k).2 → (k < i → L k = true) ∧ (i < k → L k = false)) :
    look β (R (last (pH ops κ0 R L β) m)).H = look β (R i).H := by
  have e1 : last (pH ops κ0 R L β) m = last (pH ops κ0 R L β) i := last_skip m (by omega) fun k h1 h2 => by
    unfold pH
    by_cases e : k = i
    · subst e; simp [hLi]
    · by_cases hd : β ∈ (lgOf ops κ0 R k).2
      · simp [(h k h2 e hd).2 (by omega)]
      · simp [hd]
  have e2 : last (pH ops κ0 R L β) i = last (fun k => decide (β ∈ (lgOf ops κ0 R k).2)) i := last_congr i fun k hk => by
    unfold pH
    by_cases hd : β ∈ (lgOf ops κ0 R k).2
    · simp [(h k (by omega) (by omega) hd).1 hk, hd]
    · simp [hd]
  rw [e1, e2]
  exact (C.runH i (last_le _ _) (by omega) fun k h1 h2 => by
    have := last_none _ i k h1 h2
    simpa using this).symm
structure Inv (ops : List Oper) (N κ0 m : Nat) (R : Nat → Rec) (F : Nat → Prop) (ι0 : Names) (H0 : Heap) (w0 : World) (L : Nat → Bool) (ι : Names) (HD : Heap) (a : Act) (w : World) : Prop where
 down : Down ops L
 only : ∀ j, L j = true → j < m
 defers : a.defers = []
 size : a.tmps.size = N
 tm : ∀ x, VRel ι (Own F ι HD) w (get (R (last (pT ops L x) m)).t x) (a.tmps.getD x undef)
 rep : Rep F ι HD w
 lk : ∀ β, look β HD = look β (R (last (pH ops κ0 R L β) m)).H
 fq : ∀ i, i < m → L i = false → ι (κ0 + i) = none
 fr : ∀ n, κ0 + m ≤ n → ι n = none
 kept : Kept ι0 H0 w0 ι HD w
 same : ∀ n, n < κ0 → ι n = ι0 n
 dom : ∀ n ∈ HD.map Prod.fst, n ∈ H0.map Prod.fst ∨ κ0 ≤ n
def addL (L : Nat → Bool) (i : Nat) : Nat → Bool := fun k => if k = i then true else L k
omit [Md] in
theorem tmpConf_read {i k x : Nat} (hr : x ∈ readsOf ops i) (hd : dstOf ops k = some x) : tmpConf ops k i = true ∧ tmpConf ops i k = true := by
 unfold tmpConf
 rw [hd]
 constructor
 ·simp [hr]
 ·simp [hr]
omit [Md] in
theorem tmpConf_dst {i k x : Nat} (hi : dstOf ops i = some x) (hd : dstOf ops k = some x) : tmpConf ops k i = true ∧ tmpConf ops i k = true := by
 unfold tmpConf
 rw [hd, hi]
 simp
variable {F : Nat → Prop} {ι0 ι : Names} {H0 HD : Heap} {w0 w : World} {L : Nat → Bool} {a : Act} {Q : Exit → Act → World → Prop}
theorem Inv.step (C : Ctx P ops N κ0 m R tbl) (I : Inv ops N κ0 m R F ι0 H0 w0 L ι HD a w) {i : Nat} (hi : i < m) (hLi : L i = false) (hd : ∀ e ∈ direct ops i, L e = true) {o : Oper} (ho : ops[i]? = some o)
    (next : Act → World → Prop) (hn : ∀ ι' HD' a' w', Inv ops N κ0 m R F ι0 H0 w0 (addL L i) ι' HD' a' w' → next a' w') :
    if Region.wanted o (yielded ops.toArray a.tmps) then o.wp P a w next Q else next (a.put o.dst undef) w := by
  have G := C.good i hi o ho
  have hin : i < ops.length := Nat.lt_of_lt_of_le hi C.mle
  have bef : ∀ k ∈ row tbl i, L k = true := C.before I.down i hin hd
  have aft : ∀ k, k < m → i ∈ row tbl k → L k = false := fun k hk h => by
    cases hL : L k with
    | false => rfl
    | true =>
      have := C.before I.down k (Nat.lt_of_lt_of_le hk C.mle) (I.down k hL) i h
      rw [hLi] at this; cases this
  have aT : ∀ x, (∀ k, k < m → k ≠ i → dstOf ops k = some x → tmpConf ops k i = true ∧ tmpConf ops i k = true) → get (R (last (pT ops L x) m)).t x = get (R i).t x := fun x h =>
    C.agreeT hi hLi fun k hk hne hdk => ⟨fun hlt => bef k (C.tmp k i hlt hi (h k hk hne hdk).1), fun hlt => aft k hk (C.tmp i k hlt hk (h k hk hne hdk).2)⟩
  have aTr : ∀ x ∈ readsOf ops i, get (R (last (pT ops L x) m)).t x = get (R i).t x := fun x hx => aT x fun k _ _ hdk => tmpConf_read hx hdk
  have aH : ∀ β, β ∈ (lgOf ops κ0 R i).1 ∨ β ∈ (lgOf ops κ0 R i).2 → ∀ k, k < m → k ≠ i → β ∈ (lgOf ops κ0 R k).2 → (k < i → L k = true) ∧ (i < k → L k = false) := by
    intro β hβ k hk hne hw
    constructor
    · intro hlt
      rcases C.mem k i hlt hi with h | ⟨_, h2, h3⟩
      · exact bef k h
      · rcases hβ with hβ | hβ
        · exact absurd rfl (h2 β hw β hβ)
        · exact absurd rfl (h3 β hw β hβ)
    · intro hlt
      rcases C.mem i k hlt hk with h | ⟨h1, _, h3⟩
      · exact aft k hk h
      · rcases hβ with hβ | hβ
        · exact absurd rfl (h1 β hβ β hw)
        · exact absurd rfl (h3 β hβ β hw)
  have hdst : dstLt o.dst N := C.dl o (List.mem_of_getElem? ho)
  have hdo : dstOf ops i = o.dst := by unfold dstOf; rw [ho]; rfl
  have hro : readsOf ops i = opTmps o.op ++ (match o.guard with | some (g, _) => (dstOf ops g).toList | none => []) := by unfold readsOf; rw [ho]
  -- does it run?
  have hw : Region.wanted o (yielded ops.toArray a.tmps) = (R i).ran := by
    have hg := G.guard
    unfold gw at hg
    unfold Region.wanted
    cases hgd : o.guard with
    | none => rw [hgd] at hg; simpa using hg
    | some p =>
      obtain ⟨j, want⟩ := p
      rw [hgd] at hg
      simp only at hg ⊢
      cases hj : (ops[j]?).bind (·.dst) with
      | none => rw [hj] at hg; cases hg
      | some d =>
        rw [hj] at hg
        simp only at hg
        have hrd : d ∈ readsOf ops i := by rw [hro, hgd]; simp [dstOf, hj]
        have hdN : d < a.tmps.size := by
          obtain ⟨oj, hoj, hdj⟩ := Option.bind_eq_some_iff.1 hj
          have := C.dl oj (List.mem_of_getElem? hoj)
          rw [hdj] at this; rw [I.size]; exact this
        have htm := I.tm d
        rw [aTr d hrd] at htm
        have he : a.tmps.getD d undef = a.tmps[d] := by simp [Array.getD, hdN]
        rw [he] at htm
        have hyd : yielded ops.toArray a.tmps j = match a.tmps[d] with | .bool b => some b | _ => none := by
          unfold yielded
          have : ((ops.toArray[j]?).bind (·.dst)) = some d := by simpa using hj
          rw [this]
          simp only [Option.bind_some, Array.getElem?_eq_getElem hdN]
          generalize a.tmps[d] = z
          cases z <;> rfl
        split at hg
        · rename_i b hb
          rw [hb] at htm
          rw [hyd, htm.inv_bool]
          simp only [Option.some.injEq] at hg
          rw [← hg]
          cases b <;> cases want <;> rfl
        · rename_i hb
          rw [hb] at htm
          generalize a.tmps[d] = x at htm hyd
          cases htm with
          | tup h =>
            cases h
            rw [hyd]
            simp only [Option.some.injEq] at hg
            rw [← hg]; rfl
        · cases hg
  rw [hw]
  have lgi : lgOf ops κ0 R i = logOf o (κ0 + i) (R i) := by unfold lgOf; rw [ho]
  have pTother : ∀ x, o.dst ≠ some x → last (pT ops (addL L i) x) m = last (pT ops L x) m := fun x hx => last_congr m fun k hk => by
    unfold pT addL
    by_cases e : k = i
    · subst e; rw [hdo]; simp [hx, hLi]
    · simp [e]
  have pTdst : ∀ x, o.dst = some x → last (pT ops (addL L i) x) m = i + 1 := fun x hx => by
    refine last_at hi ?_ ?_
    · unfold pT addL; rw [hdo]; simp [hx]
    · intro k h1 h2
      unfold pT addL
      by_cases hdk : dstOf ops k = some x
      · have := aft k h2 (C.tmp i k h1 h2 (tmpConf_dst (hdo.trans hx) hdk).2)
        simp [show k ≠ i by omega, this]
      · simp [hdk]
  have hdown : Down ops (addL L i) := fun j hj e he => by
    unfold addL at hj ⊢
    split
    · rfl
    · by_cases hji : j = i
      · subst hji; exact hd e he
      · rw [if_neg hji] at hj; exact I.down j hj e he
  have honly : ∀ j, addL L i j = true → j < m := fun j hj => by
    unfold addL at hj
    split at hj
    · omega
    · exact I.only j hj
  have hputsize : ∀ v, (a.put o.dst v).tmps.size = N := fun v => by
    cases hd' : o.dst with
    | none => simpa [Act.put] using I.size
    | some d => simpa [Act.put] using I.size
  have hputdef : ∀ v, (a.put o.dst v).defers = [] := fun v => by
    cases hd' : o.dst <;> simpa [Act.put] using I.defers
  have hputget : ∀ v x, (a.put o.dst v).tmps.getD x undef = if o.dst = some x then v else a.tmps.getD x undef := fun v x => by
    cases hd' : o.dst with
    | none => simp [Act.put]
    | some d =>
      rw [hd'] at hdst
      simp only [Act.put]
      rw [getD_setIfInBounds _ _ _ _ (by rw [I.size]; exact hdst)]
      by_cases e : x = d
      · subst e; simp
      · rw [if_neg e, if_neg (by simp; exact fun h => e h.symm)]
  have htnew : ∀ x, o.dst = some x → get (R (i + 1)).t x = (R i).v := fun x hx => by
    rw [G.t', hx]; simp [setT, get]
  cases hr : (R i).ran with
  | false =>
    simp only [Bool.false_eq_true, if_false]
    obtain ⟨hv, hH⟩ := G.no hr
    have hlg : lgOf ops κ0 R i = ([], []) := by rw [lgi]; simp [logOf, hr]
    refine hn ι HD _ w ⟨hdown, honly, hputdef _, hputsize _, fun x => ?_, I.rep, fun β => ?_, fun j hj hL => ?_, I.fr, I.kept, I.same, I.dom⟩
    · rw [hputget]
      by_cases hx : o.dst = some x
      · rw [if_pos hx, pTdst x hx, htnew x hx, hv]; exact .tup .nil
      · rw [if_neg hx, pTother x hx]; exact I.tm x
    · rw [I.lk β]
      congr 2
      exact congrArg R (last_congr m fun k hk => by
        unfold pH addL
        by_cases e : k = i
        · subst e; rw [hlg]; simp
        · simp [e])
    · unfold addL at hL
      split at hL
      · cases hL
      · exact I.fq j hj hL
  | true =>
    simp only [if_true]
    obtain ⟨hop, hst, hH⟩ := G.yes hr
    have hlg : lgOf ops κ0 R i = (opNames (R i).t o.op, writes (kindOf o.op) (κ0 + i) (opNames (R i).t o.op)) := by rw [lgi]; simp [logOf, hr]
    generalize hns : opNames (R i).t o.op = ns at *
    have hcn := C.names i (by omega)
    have hlook : ∀ β ∈ ns, look β HD = look β (R i).H := fun β hβ => by
      rw [I.lk β]
      exact C.agreeH hi hLi (aH β (.inl (by rw [hlg]; exact hβ)))
    have hperm : (pickH ns HD).Perm (pickH ns (R i).H) := perm_of_look (names_pick _ _ I.rep.names) (names_pick _ _ hcn.1) fun n => by
      rw [look_pick, look_pick]
      by_cases h : n ∈ ns
      · rw [if_pos h, if_pos h, hlook n h]
      · rw [if_neg h, if_neg h]
    have hpr : HD.Perm (pickH ns (R i).H ++ restH ns HD) := (pick_rest ns HD).trans (List.Perm.append hperm (.refl _))
    have R2 := I.rep.perm hpr
    have hownD : Own F ι HD = Own (Fr F ι (restH ns HD)) ι (pickH ns (R i).H) := by
      rw [← own_split_eq]; exact funext fun b => propext ⟨fun h => h.imp id (OwnH.perm hpr b).1, fun h => h.imp id (OwnH.perm hpr b).2⟩
    have hκ : ι (κ0 + i) = none := I.fq i hi hLi
    have hh : Holds (· = κ0 + i) (Fr F ι (restH ns HD)) ι ⟨N, rtT (R i).t o.op, pickH ns (R i).H, κ0 + i⟩ a w := by
      refine ⟨I.defers, I.size, fun x => ?_, R2.lend, fun n hn _ => by subst hn; exact hκ⟩
      simp only [get_rtT]
      rw [← hownD]
      by_cases hx : x ∈ opTmps o.op
      · rw [if_pos hx, ← aTr x (by rw [hro]; exact List.mem_append.2 (.inl hx))]
        exact I.tm x
      · rw [if_neg hx]; exact .any _
    refine hop N (Fr F ι (restH ns HD)) ι a w hh next Q ?_
    rintro ι' v cv H' k' w' ⟨rfl, rfl⟩ hO
    have hO1 := Out.frame R2 (fun n hn _ => by subst hn; exact hκ) hO
    have hO2 := Out.perm_in hpr hO1
    have hS := hO2.ext.kept.stays (F := F)
    have hnotκ : look (κ0 + i) HD = none := look_none.2 (I.rep.fresh_names hκ)
    have hnotκ' : look (κ0 + i) (R i).H = none := look_none.2 fun h => by have := hcn.2 _ h; omega
    have hlk : ∀ β, look β ((R i).hs ++ restH ns HD) = if β ∈ writes (kindOf o.op) (κ0 + i) ns then look β (R (i + 1)).H else look β HD := by
      intro β
      have pick0 : (look β (pickH ns (R i).H)).or (if β ∈ ns then none else look β HD) = look β HD := by
        rw [look_pick]
        by_cases h : β ∈ ns
        · rw [if_pos h, if_pos h, hlook β h]; cases look β (R i).H <;> rfl
        · rw [if_neg h, if_neg h]; rfl
      rw [look_append, look_rest, hH]
      have h012 : kindOf o.op = 0 ∨ kindOf o.op = 1 ∨ ∃ q, kindOf o.op = q + 2 := by
        cases h : kindOf o.op with
        | zero => exact .inl rfl
        | succ k => cases k with
          | zero => exact .inr (.inl rfl)
          | succ k => exact .inr (.inr ⟨k, rfl⟩)
      rcases h012 with hk | hk | ⟨q, hk⟩
      · rw [hk] at hst ⊢
        simp only [stepOk] at hst
        simp only [writes, nextH, List.not_mem_nil, if_false]
        rw [hst]; exact pick0
      · rw [hk] at hst ⊢
        simp only [stepOk] at hst
        simp only [writes, nextH, List.mem_singleton]
        cases hhs : (R i).hs with
        | nil => rw [hhs] at hst; exact hst.elim
        | cons e r =>
          obtain ⟨n0, b0⟩ := e
          rw [hhs] at hst
          simp only at hst
          obtain ⟨rfl, rfl⟩ := hst
          simp only [look]
          by_cases e : β = κ0 + i
          · simp [e]
          · simp only [e, if_false]; exact pick0
      · rw [hk] at hst ⊢
        simp only [stepOk] at hst
        simp only [writes, nextH, List.mem_cons]
        by_cases e : β = κ0 + i ∨ β ∈ ns
        · rw [if_pos e, look_append, look_rest]
          by_cases h : β ∈ ns
          · rw [if_pos h, if_pos h]
          · rw [if_neg h, if_neg h]
            have : β = κ0 + i := e.resolve_right h
            rw [this, hnotκ, hnotκ']
        · rw [if_neg e]
          have h2 : β ∉ ns := fun h => e (.inr h)
          have : look β (R i).hs = none := look_none.2 fun hm => by
            rcases hst.2 β hm with h | h
            · exact e (.inl h)
            · obtain ⟨p, hp, rfl⟩ := List.mem_map.1 h
              exact h2 (by simpa using (List.mem_filter.1 hp).2)
          rw [this, if_neg h2]; rfl
    have hsame : ∀ n, n ≠ κ0 + i → ι' n = ι n := fun n hne => hO2.ext.same n fun e => absurd e hne
    refine hn ι' ((R i).hs ++ restH ns HD) _ w' ⟨hdown, honly, hputdef _, hputsize _, fun x => ?_, hO2.rep, fun β => ?_, fun j hj hL => ?_, fun n hn' => ?_, I.kept.trans hO2.ext.kept, fun n hn' => ?_, fun n hn' => ?_⟩
    · rw [hputget]
      by_cases hx : o.dst = some x
      · rw [if_pos hx, pTdst x hx, htnew x hx]; exact hO2.val
      · rw [if_neg hx, pTother x hx]; exact (I.tm x).stays hS
    · rw [hlk β]
      by_cases hβ : β ∈ writes (kindOf o.op) (κ0 + i) ns
      · rw [if_pos hβ]
        have : last (pH ops κ0 R (addL L i) β) m = i + 1 := by
          refine last_at hi ?_ ?_
          · unfold pH addL; rw [hlg]; simp [hβ]
          · intro k h1 h2
            unfold pH addL
            by_cases hk : β ∈ (lgOf ops κ0 R k).2
            · have := (aH β (.inr (by rw [hlg]; exact hβ)) k h2 (by omega) hk).2 h1
              simp [show k ≠ i by omega, this]
            · simp [hk]
        rw [this]
      · rw [if_neg hβ, I.lk β]
        congr 2
        exact congrArg R (last_congr m fun k hk => by
          unfold pH addL
          by_cases e : k = i
          · subst e; rw [hlg]; simp [hβ]
          · simp [e])
    · unfold addL at hL
      split at hL
      · cases hL
      · rename_i hne
        rw [hsame _ (by omega)]; exact I.fq j hj hL
    · rw [hsame n (by omega)]; exact I.fr n hn'
    · rw [hsame n (by omega)]; exact I.same n hn'
    · rcases hO2.ext.dom n hn' with h | h
      · exact I.dom n h
      · exact .inr (by have := h.1; omega)
end
end Go.Sl
namespace Go.Sl
variable [Md]
section
variable {P : Program} {ops : List Oper} {N κ0 m : Nat} {R : Nat → Rec} {tbl : List (List Nat)}
variable {F : Nat → Prop} {ι0 ι : Names} {H0 HD : Heap} {w0 w : World} {L : Nat → Bool} {a : Act} {Q : Exit → Act → World → Prop}
theorem Inv.done (C : Ctx P ops N κ0 m R tbl) (I : Inv ops N κ0 m R F ι0 H0 w0 L ι HD a w) (hL : ∀ j, j < m → L j = true) :
    Holds All F ι ⟨N, (R m).t, (R m).H, κ0 + m⟩ a w ∧ Ext All ι0 H0 κ0 w0 ι (R m).H (κ0 + m) w := by
  have hT : ∀ x, get (R (last (pT ops L x) m)).t x = get (R m).t x := fun x =>
    (C.runT m (last_le _ _) (Nat.le_refl _) fun k h1 h2 => by
      have := last_none _ m k h1 h2
      unfold pT at this
      simpa [hL k h2] using this).symm
  have hH : ∀ β, look β HD = look β (R m).H := fun β => by
    rw [I.lk β]
    exact (C.runH m (last_le _ _) (Nat.le_refl _) fun k h1 h2 => by
      have := last_none _ m k h1 h2
      unfold pH at this
      simpa [hL k h2] using this).symm
  have hp : HD.Perm (R m).H := perm_of_look I.rep.names (C.names m (Nat.le_refl _)).1 hH
  refine ⟨⟨I.defers, I.size, fun x => ?_, I.rep.perm hp, fun n _ hn => I.fr n hn⟩, I.kept.trans (Kept.perm hp), Nat.le_add_right _ _, fun n hn => I.same n (hn trivial), fun n hn => ?_⟩
  · have := I.tm x
    rw [hT x] at this
    exact this.stays (Kept.perm hp).stays
  · rcases I.dom n ((hp.map _).mem_iff.2 hn) with h | h
    · exact .inl h
    · exact .inr ⟨trivial, h⟩
def cnt (l : List Bool) : Nat := (l.filter (!·)).length
omit [Md] in
theorem cnt_set : ∀ (l : List Bool) (i : Nat), l[i]? = some false → cnt (l.set i true) + 1 = cnt l
 | [], i, h => by simp at h
 | b :: l, 0, h => by simp at h; subst h; simp [cnt]
 | b :: l, i + 1, h => by
  have := cnt_set l i (by simpa using h)
  cases b <;> simp [cnt] at this ⊢ <;> omega
omit [Md] in
theorem cnt_zero : ∀ (l : List Bool), cnt l = 0 → ∀ (i : Nat) (b : Bool), l[i]? = some b → b = true
 | [], _, i, b, h => by simp at h
 | c :: l, hc, i, b, h => by
  cases c with
  | false => simp [cnt] at hc
  | true =>
   cases i with
   | zero => simp at h; exact h
   | succ i => exact cnt_zero l (by simpa [cnt] using hc) i b (by simpa using h)
omit [Md] in
theorem cnt_rep (n : Nat) : cnt (List.replicate n false) = n := by simp [cnt]
def lst (listed : Array Bool) (j : Nat) : Bool := listed.getD j false
omit [Md] in
theorem lst_set {listed : Array Bool} {i : Nat} (h : i < listed.size) : lst (listed.setIfInBounds i true) = addL (lst listed) i := by
 funext k
 unfold lst addL
 simp only [Array.getD_eq_getD_getElem?, Array.getElem?_setIfInBounds]
 by_cases e : k = i
 ·subst e; simp [h]
 ·simp [e, Ne.symm e]
omit [Md] in
theorem ready_iff {listed : Array Bool} {i : Nat} (hs : listed.size = ops.length) : i ∈ Region.ready .any ops.toArray listed ↔ i < ops.length ∧ lst listed i = false ∧ ∀ e ∈ direct ops i, lst listed e = true := by
 unfold Region.ready
 simp only [List.mem_filter, List.mem_range, List.size_toArray, Bool.and_eq_true]
 constructor
 ·rintro ⟨h1, h2, h3⟩
  refine ⟨h1, ?_, ?_⟩
  ·unfold lst
   have hlt : i < listed.size := by omega
   simp [Array.getD, hlt] at h2 ⊢
   exact h2
  ·intro e he
   unfold direct at he
   obtain ⟨o, ho⟩ : ∃ o, ops[i]? = some o := ⟨_, List.getElem?_eq_getElem h1⟩
   rw [ho] at he
   simp only [List.mem_map, List.mem_filter] at he
   obtain ⟨ed, ⟨h4, h5⟩, rfl⟩ := he
   simp only [List.getElem?_toArray, ho, Option.map_some, Option.getD_some] at h3
   rw [Array.all_eq_true_iff_forall_mem] at h3
   have := h3 ed (by simpa using h4)
   unfold lst
   simpa [h5] using this
 ·rintro ⟨h1, h2, h3⟩
  refine ⟨h1, ?_, ?_⟩
  ·unfold lst at h2
   have hlt : i < listed.size := by omega
   simp [Array.getD, hlt] at h2 ⊢
   exact h2
  ·obtain ⟨o, ho⟩ : ∃ o, ops[i]? = some o := ⟨_, List.getElem?_eq_getElem h1⟩
   simp only [List.getElem?_toArray, ho, Option.map_some, Option.getD_some]
   rw [Array.all_eq_true_iff_forall_mem]
   intro ed hed
   by_cases hb : Region.binds .any ed = true
   ·have := h3 ed.on (by
     unfold direct
     rw [ho]
     simp only [List.mem_map, List.mem_filter]
     exact ⟨ed, ⟨by simpa using hed, hb⟩, rfl⟩)
    unfold lst at this
    simp [hb, this]
   ·simp [hb]
theorem all_listed (C : Ctx P ops N κ0 m R tbl) {listed : Array Bool} (hs : listed.size = ops.length) (h : Region.ready .any ops.toArray listed = []) : ∀ j, j < ops.length → lst listed j = true := by
 intro j
 induction j using Nat.strongRecOn with
 | _ j ih =>
  intro hj
  cases hl : lst listed j with
  | true => rfl
  | false =>
   have : j ∈ Region.ready .any ops.toArray listed := (ready_iff hs).2 ⟨hj, hl, fun e he => ih e (C.edges j hj e he) (by have := C.edges j hj e he; omega)⟩
   rw [h] at this; cases this
omit [Md] in
theorem cnt_lst {listed : Array Bool} (h : cnt listed.toList = 0) : ∀ j, j < listed.size → lst listed j = true := by
 intro j hj
 have := cnt_zero listed.toList h j listed[j] (by simp [hj])
 unfold lst
 simp [Array.getD, hj, this]
omit [Md] in
theorem cnt_add {listed : Array Bool} {i f : Nat} (hi : i < listed.size) (hl : lst listed i = false) (h : cnt listed.toList = f + 1) : cnt (listed.setIfInBounds i true).toList = f := by
 have h1 : listed.toList[i]? = some false := by
  unfold lst at hl
  simp [Array.getD, hi] at hl
  simp [hi, hl]
 have := cnt_set listed.toList i h1
 have e : (listed.setIfInBounds i true).toList = listed.toList.set i true := by simp
 rw [e]; omega
theorem forced (C : Ctx P ops N κ0 m R tbl) : ∀ (f : Nat) (q : Nat) (listed : Array Bool) (a : Act) (w : World), m ≤ q → q ≤ ops.length → listed.size = ops.length → cnt listed.toList = f → (∀ j, lst listed j = decide (j < q)) →
    wpList P ops.toArray Q (ops.drop q) a w → wpAny P .any ops.toArray Q f listed a w := by
  intro f
  induction f with
  | zero =>
    intro q listed a w hmq hq hs hc hl hw
    have hqn : q = ops.length := by
      rcases Nat.lt_or_ge q ops.length with h | h
      · have := cnt_lst hc q (by omega)
        rw [hl] at this; simp at this
      · omega
    subst hqn
    rw [List.drop_length] at hw
    refine ⟨?_, hw⟩
    cases hr : Region.ready .any ops.toArray listed with
    | nil => rfl
    | cons i r =>
      have := (ready_iff hs).1 (by rw [hr]; exact .head _ : i ∈ Region.ready .any ops.toArray listed)
      have h1 := cnt_lst hc i (by omega)
      rw [this.2.1] at h1; cases h1
  | succ f ih =>
    intro q listed a w hmq hq hs hc hl hw
    constructor
    · intro hr
      have hqn : q = ops.length := by
        rcases Nat.lt_or_ge q ops.length with h | h
        · have := all_listed C hs hr q h
          rw [hl] at this; simp at this
        · omega
      subst hqn
      rw [List.drop_length] at hw
      exact hw
    · intro i hi
      obtain ⟨h1, h2, h3⟩ := (ready_iff hs).1 hi
      rw [hl] at h2
      have hiq : q ≤ i := by simpa using h2
      have hi' : i = q := by
        rcases Nat.lt_or_ge q i with h | h
        · exfalso
          have hdown : Down ops (lst listed) := fun j hj e he => by
            rw [hl] at hj ⊢
            simp only [decide_eq_true_eq] at hj ⊢
            have := C.edges j (by omega) e he; omega
          have := C.before hdown i h1 h3 q (C.tail i (by omega) h1 q h)
          rw [hl] at this; simp at this
        · omega
      subst hi'
      obtain ⟨o, ho⟩ : ∃ o, ops[i]? = some o := ⟨_, List.getElem?_eq_getElem h1⟩
      have hdrop : ops.drop i = o :: ops.drop (i + 1) := by
        rw [List.drop_eq_getElem_cons h1]; congr 1; exact (List.getElem?_eq_some_iff.1 ho).2
      rw [hdrop] at hw
      simp only [wpList] at hw
      have hnext : ∀ a w, wpList P ops.toArray Q (ops.drop (i + 1)) a w → wpAny P .any ops.toArray Q f (listed.setIfInBounds i true) a w := fun a w h => by
        refine ih (i + 1) _ a w (by omega) (by omega) (by simpa using hs) (cnt_add (by omega) (by rw [hl]; simp) hc) (fun j => ?_) h
        rw [lst_set (by omega)]
        unfold addL
        by_cases e : j = i
        · subst e; simp
        · rw [if_neg e, hl]
          by_cases h : j < i
          · simp [h]; omega
          · simp [h]; omega
      unfold wpOp
      simp only [List.getElem?_toArray, ho]
      split
      · rename_i hwt
        rw [if_pos hwt] at hw
        exact hw.imp (Oper.wp_mono hnext) id
      · rename_i hwt
        rw [if_neg hwt] at hw
        exact hnext _ _ hw
theorem quiet (C : Ctx P ops N κ0 m R tbl) (hend : ∀ ι a w, Holds All F ι ⟨N, (R m).t, (R m).H, κ0 + m⟩ a w → Ext All ι0 H0 κ0 w0 ι (R m).H (κ0 + m) w → wpList P ops.toArray Q (ops.drop m) a w) :
    ∀ (f : Nat) (listed : Array Bool) (ι : Names) (HD : Heap) (a : Act) (w : World), listed.size = ops.length → cnt listed.toList = f → Inv ops N κ0 m R F ι0 H0 w0 (lst listed) ι HD a w → wpAny P .any ops.toArray Q f listed a w := by
  intro f
  induction f with
  | zero =>
    intro listed ι HD a w hs hc I
    have hall : ∀ j, j < m → lst listed j = true := fun j hj => cnt_lst hc j (by have := C.mle; omega)
    obtain ⟨h1, h2⟩ := I.done C hall
    refine forced C 0 m listed a w (Nat.le_refl _) C.mle hs hc (fun j => ?_) (hend ι a w h1 h2)
    by_cases h : j < m
    · simp [hall j h, h]
    · cases hl : lst listed j with
      | false => simp [h]
      | true => exact absurd (I.only j hl) h
  | succ f ih =>
    intro listed ι HD a w hs hc I
    by_cases hall : ∀ j, j < m → lst listed j = true
    · obtain ⟨h1, h2⟩ := I.done C hall
      refine forced C (f + 1) m listed a w (Nat.le_refl _) C.mle hs hc (fun j => ?_) (hend ι a w h1 h2)
      by_cases h : j < m
      · simp [hall j h, h]
      · cases hl : lst listed j with
        | false => simp [h]
        | true => exact absurd (I.only j hl) h
    · have hex : ∃ j, j < m ∧ lst listed j = false := by
        refine Classical.byContradiction fun h => hall fun j hj => ?_
        cases hl : lst listed j with
        | true => rfl
        | false => exact absurd ⟨j, hj, hl⟩ h
      obtain ⟨j, hj, hlj⟩ := hex
      constructor
      · intro hr
        have := all_listed C hs hr j (by have := C.mle; omega)
        rw [hlj] at this; cases this
      · intro i hi
        obtain ⟨h1, h2, h3⟩ := (ready_iff hs).1 hi
        have him : i < m := by
          rcases Nat.lt_or_ge i m with h | h
          · exact h
          · have := C.before I.down i h1 h3 j (C.tail i h h1 j (by omega))
            rw [hlj] at this; cases this
        obtain ⟨o, ho⟩ := C.op him
        have hst := I.step (Q := Q) C him h2 h3 ho (wpAny P .any ops.toArray Q f (listed.setIfInBounds i true)) fun ι' HD' a' w' I' => by
          refine ih _ ι' HD' a' w' (by simpa using hs) (cnt_add (by omega) h2 hc) ?_
          rw [lst_set (by omega)]; exact I'
        unfold wpOp
        simp only [List.getElem?_toArray, ho]
        split
        · rename_i hwt; rw [if_pos hwt] at hst; exact .inl hst
        · rename_i hwt; rw [if_neg hwt] at hst; exact hst
end
section
variable {P : Program} {T : Tab} {Q : Exit → St → Prop}
omit [Md] in
theorem drawOk_spec {ops : List Oper} {tbl : List (List Nat)} {m : Nat} (h : drawOk ops tbl m = true) :
    m ≤ ops.length ∧ (∀ j, j < ops.length → ∀ e ∈ direct ops j, e < j) ∧ (∀ j, j < ops.length → ∀ i ∈ row tbl j, i < j ∧ (i ∈ direct ops j ∨ ∃ k ∈ direct ops j, i ∈ row tbl k)) ∧
      (∀ j, m ≤ j → j < ops.length → ∀ i, i < j → i ∈ row tbl j) ∧ (∀ i j, i < j → j < m → tmpConf ops i j = true → i ∈ row tbl j) := by
  unfold drawOk at h
  simp only [Bool.and_eq_true, decide_eq_true_eq, List.all_eq_true, List.mem_range, Bool.or_eq_true, List.contains_iff_mem, List.any_eq_true, Bool.not_eq_true'] at h
  obtain ⟨⟨h1, h2⟩, h3⟩ := h
  refine ⟨h1, fun j hj e he => (h2 j hj).1.1 e he, fun j hj i hi => ?_, fun j hm hj i hi => ?_, fun i j hij hj hc => ?_⟩
  · have := (h2 j hj).1.2 i hi
    exact ⟨this.1, this.2⟩
  · rcases (h2 j hj).2 with h | h
    · omega
    · exact h i hi
  · rcases h3 j hj i hij with h | h
    · rw [hc] at h; cases h
    · exact h
theorem tr_draw (hT : TabOk P T) (hm : P.follows .mixedOrders = true) {id : Nat} {l : List Oper} {N k m : Nat} {t : List (Nat × V)} {H : Heap} (tbl : List (List Nat)) (prs : List (Nat × Nat)) (hN : dstsLt l N = true) (hd : drawOk l tbl m = true) (hp : pairsOk l tbl prs m = true)
    (h : vcD T P l N k (l.take m) (fun t' H' lg => confQ prs lg ∧ vcL T P l N (l.drop m) (fun σ' => Q .normal σ') t' H' (k + m)) t H []) : Tr P (.region id l.toArray true) Q ⟨N, t, H, k⟩ := by
  intro F ι a w hh
  obtain ⟨d1, d2, d3, d4, d5⟩ := drawOk_spec hd
  obtain ⟨R, r0, r1, r2, r3⟩ := vcD_run hT l N _ (l.take m) k t H [] h
  have hlen : (l.take m).length = m := by rw [List.length_take]; omega
  rw [hlen] at r3
  simp only [List.nil_append] at r3
  obtain ⟨r3, r4⟩ := r3
  have hget : ∀ j, j < m → (l.take m)[j]? = l[j]? := fun j hj => by rw [List.getElem?_take, if_pos hj]
  have hlg : ∀ j, j < m → ((l.take m).mapIdx fun j o => logOf o (k + j) (R j))[j]? = some (lgOf l k R j) := fun j hj => by
    obtain ⟨o, ho⟩ : ∃ o, l[j]? = some o := ⟨_, List.getElem?_eq_getElem (by omega)⟩
    rw [List.getElem?_mapIdx, hget j hj, ho]
    simp [lgOf, ho]
  have C : Ctx P l N k m R tbl := by
    refine ⟨fun j hj o ho => r2 j o (by rw [hget j hj]; exact ho), d1, d2, d3, d4, d5, fun i j hij hj => ?_, dstsLt_spec hN, ?_, ?_⟩
    · have hp' := hp
      unfold pairsOk at hp'
      simp only [List.all_eq_true, List.mem_range, Bool.or_eq_true, Bool.and_eq_true] at hp'
      rcases hp' j hj i hij with (h1 | h1) | ⟨h1, h2⟩
      · exact .inl (by simpa using h1)
      · have := confQ_spec r3 i j (by simpa using h1)
        simp only [List.getD, hlg i (by omega), hlg j hj, Option.getD_some] at this
        exact .inr this
      · refine .inr (disj3_quiet ?_ ?_)
        · cases ho : l[i]? with
          | none => rw [ho] at h1; simp at h1
          | some o =>
            rw [ho] at h1
            have h1 : kindOf o.op = 0 := by simpa using h1
            simp only [lgOf, ho, logOf]
            split <;> simp [writes, h1]
        · cases ho : l[j]? with
          | none => rw [ho] at h2; simp at h2
          | some o =>
            rw [ho] at h2
            have h2 : kindOf o.op = 0 := by simpa using h2
            simp only [lgOf, ho, logOf]
            split <;> simp [writes, h2]
    · rw [r1]; exact hh.rep.names
    · rw [r1]
      intro n hn
      obtain ⟨⟨n', b⟩, hmem, he⟩ := List.mem_map.1 hn
      simp only at he; subst he
      obtain ⟨l', hl', _⟩ := hh.rep.own _ b hmem
      refine Nat.lt_of_not_le fun hk => ?_
      rw [hh.fresh _ trivial hk] at hl'; cases hl'
  refine wp_region_any hm ?_
  have hdrew : ({ w with drawn := w.drawn + 1 } : World) = w.drew := rfl
  rw [hdrew]
  obtain ⟨R', K'⟩ := hh.rep.later (w' := w.drew) rfl (Tp.drew _) rfl (Nat.le_refl _) fun _ _ => rfl
  have hfuel : cnt (Array.replicate l.toArray.size false).toList = l.toArray.size := by simp [cnt]
  have hsz : (Array.replicate l.toArray.size false).size = l.length := by simp
  refine quiet (F := F) (ι0 := ι) (H0 := H) (w0 := w) C ?_ l.toArray.size _ ι H a w.drew hsz hfuel ?_
  · intro ι' a' w' h1 h2
    refine vcL_sound hT l (l.drop m) _ ⟨N, (R m).t, (R m).H, k + m⟩ r4 (dstsLt_spec hN) F ι' a' w' h1 _ ?_
    intro ι'' σ'' a'' w'' hK hh'' hx
    exact ⟨ι'', σ'', hK, hh'', h2.trans hx⟩
  · have hl0 : ∀ j, lst (Array.replicate l.toArray.size false) j = false := fun j => by
      unfold lst
      simp only [Array.getD_eq_getD_getElem?, Array.getElem?_replicate]
      split <;> rfl
    refine ⟨fun j hj => by rw [hl0] at hj; (cases hj), fun j hj => by rw [hl0] at hj; (cases hj), hh.defers, hh.size, fun x => ?_, R', fun β => ?_, fun i hi _ => hh.fresh _ trivial (by simp only []; omega), fun n hn => hh.fresh n trivial (by simp only []; omega), K', fun _ _ => rfl, fun n hn => .inl hn⟩
    · rw [last_zero m fun q hq => by unfold pT; rw [hl0]; rfl, r0]
      exact (hh.tmps x).stays K'.stays
    · rw [last_zero m fun q hq => by unfold pH; rw [hl0]; rfl, r1]
theorem draw_k (hT : TabOk P T) (hm : P.follows .mixedOrders = true) {id : Nat} {l : List Oper} {y : Code} {N k : Nat} {t : List (Nat × V)} {H : Heap} (m : Nat) (tbl : List (List Nat)) (prs : List (Nat × Nat)) (hN : dstsLt l N = true) (hd : drawOk l tbl m = true) (hp : pairsOk l tbl prs m = true)
    (h : ∀ K : St → Prop, (∀ σ', Tr P y Q σ' → K σ') → vcD T P l N k (l.take m) (fun t' H' lg => confQ prs lg ∧ vcL T P l N (l.drop m) K t' H' (k + m)) t H []) :
    Tr P (.seq (.region id l.toArray true) y) Q ⟨N, t, H, k⟩ :=
  tr_seq (tr_draw hT hm tbl prs hN hd hp (h _ fun _ h => h))
end
section
variable {H H' : Heap} {T : Tab} {P : Program}
theorem callD_of {g : FuncId} {args : List V} {r : V} {K : V → Prop} (h : Pf P g args r) (k : K r) : @callD _ P g args H ⟨K⟩ := ⟨r, h.pfH H, k⟩
@[congr] theorem opVD_congr {t t' : List (Nat × V)} {k k' : Nat} {op : Op} {KA : V → Heap → Nat → Prop} (h1 : t = t') (h2 : H = H') (h3 : k = k') : opVD T P t H k op KA = opVD T P t' H' k' op KA := by rw [h1, h2, h3]
@[congr] theorem vcD_congr {ops l : List Oper} {N κ κ' : Nat} {K : List (Nat × V) → Heap → List (List Nat × List Nat) → Prop} {t t' : List (Nat × V)} {lg lg' : List (List Nat × List Nat)} (h0 : κ = κ') (h1 : t = t') (h2 : H = H') (h3 : lg = lg') : vcD T P ops N κ l K t H lg = vcD T P ops N κ' l K t' H' lg' := by rw [h0, h1, h2, h3]
end
attribute [go_sem] opVD vcD
attribute [go_sem] Op.operands Call.operands opTmps rtT V.nm V.nm1 atNm opNames pickH restH kindOf stepOk nextH writes disj disj3 confQ
end Go.Sl
namespace Go.Sl
variable [Md]
open Go.ChangeShapes Go.RowKit Go.WideShapes
def No : Nat → Prop := fun _ => False
def noN : Names := fun _ => none
structure ImpAs (P : Program) (t : TypeId) {α : Type} (ok : α → Prop) (f : α → List V) : Prop where
 nl : ∀ a, NLs (f a)
 one : ∀ a, ok a → (f a).all V.one = true
 len : ∀ a, ok a → (f a).length = P.cellsOf t
 imp : ∀ {H : Type} {enc : TypeId × Value → H} {w : World} {base : Nat} {held : Bool} {fuel : Nat} {cs : List Value} {x : DataW H × List MemPlace}, DataW.trod enc P w base (fun _ => true) held fuel t cs = some x → ∃ a, ok a ∧ VRels noN No w (f a) cs
section
variable {P : Program} {t e : TypeId}
omit [Md] in
theorem imp_bool (ht : P.underlying t = some .bool) (hc : P.cellsOf t = 1) : ImpAs P t (fun _ : Bool => True) fun b => [.val (.bool b)] where
 nl a := .cons (.val _) .nil
 one a _ := rfl
 len a _ := hc.symm
 imp h := by
  obtain ⟨b, rfl, _⟩ := DataW.trod_bool ht h
  exact ⟨b, trivial, .cons (.val _ rfl) .nil⟩
omit [Md] in
theorem imp_int {k : IntKind} (ht : P.underlying t = some (.int k)) (hc : P.cellsOf t = 1) : ImpAs P t (fun n : Int => (Lit.int k n).wf = true) fun n => [.val (.int k n)] where
 nl a := .cons (.val _) .nil
 one a _ := rfl
 len a _ := hc.symm
 imp h := by
  obtain ⟨n, rfl, _, hw⟩ := DataW.trod_int ht h
  exact ⟨n, hw, .cons (.val _ rfl) .nil⟩
omit [Md] in
theorem imp_string (ht : P.underlying t = some .string) (hc : P.cellsOf t = 1) : ImpAs P t (fun s : ByteArray => s.size ≤ maxLen) fun s => [.val (.string s)] where
 nl a := .cons (.val _) .nil
 one a _ := rfl
 len a _ := hc.symm
 imp h := by
  obtain ⟨s, rfl, _, hw⟩ := DataW.trod_string ht h
  exact ⟨s, hw, .cons (.val _ rfl) .nil⟩
def sliceOf {α : Type} (sz : Nat) (el : α → V) : Option (List α) → V
 | none => .val (.slice none 0 0)
 | some l => .ro sz (l.map el)
omit [Md] in
theorem imp_slice {α : Type} {ok : α → Prop} {f : α → List V} {sz : Nat} (el : α → V) (ht : P.underlying t = some (.slice e)) (hc : P.cellsOf t = 1) (hsz : P.cellsOf e = sz) (hpos : 0 < sz) (hel : ∀ a, ok a → (el a).cells = f a) (hnl : ∀ a, NLs (el a).cells)
    (h : ImpAs P e ok f) : ImpAs P t (fun o : Option (List α) => ∀ l, o = some l → l.length ≤ maxLen ∧ ∀ a ∈ l, ok a) fun o => [sliceOf sz el o] where
  nl o := .cons (by
    cases o with
    | none => exact .val _
    | some l => exact .ro fun v hv => by obtain ⟨a, _, rfl⟩ := List.mem_map.1 hv; exact hnl a) .nil
  one o _ := by cases o <;> rfl
  len o _ := hc.symm
  imp {H enc w base held fuel cs x} hr := by
    rcases DataW.trod_slice ht hr with ⟨rfl, _⟩ | ⟨a, len, cap, elems, rest, n, _, rfl, _, hb, hl, hm, hlen, hel', _, _⟩
    · exact ⟨none, ⟨fun l h => (nomatch h), .cons (.val _ rfl) .nil⟩⟩
    · rw [hsz] at hel'
      rcases Nat.eq_zero_or_pos len with h0 | h0
      · subst h0
        exact ⟨some [], fun l h => (by cases h; simp), .cons .ro0 .nil⟩
      · have key : ∀ i, i < len → ∃ csi, w.cells? base (a.add (i * sz)) sz = some csi ∧ ∃ b, ok b ∧ VRels noN No w (f b) csi := by
          intro i hi
          obtain ⟨y, hy⟩ : ∃ y, elems[i]? = some y := ⟨_, List.getElem?_eq_getElem (by omega)⟩
          have := hel' i hi
          rw [hy, Option.bind_eq_some_iff] at this
          obtain ⟨csi, h1, h2⟩ := this
          obtain ⟨b, hb1, hb2⟩ := h.imp h2
          exact ⟨csi, h1, b, hb1, hb2⟩
        obtain ⟨cs0, hcs0, _⟩ := key 0 h0
        obtain ⟨_, hcl, hcell⟩ := World.cells?_some hcs0
        have h00 := hcell 0 hpos
        rw [List.getElem?_eq_getElem (by omega)] at h00
        simp only [Nat.zero_mul, Addr.add, if_true] at h00
        obtain ⟨b, off, spot⟩ := a
        unfold World.cell? at h00
        split at h00
        · rename_i c ty fr hw
          split at h00
          · cases h00
          · rename_i hsp
            have hsp : spot = none := by cases spot <;> simp_all
            subst hsp
            have hadd : ∀ n, (Addr.mk b off none).add n = ⟨b, off + n, none⟩ := fun n => by unfold Addr.add; split <;> simp_all
            have hw' : w.heap[b]? = some (.cells c ty fr) := hw
            have hcell' : ∀ o, w.cell? ⟨b, o, none⟩ = c[o]? := fun o => by unfold World.cell?; simp only [hw']; simp
            have build : ∀ n, n ≤ len → ∃ l : List α, l.length = n ∧ (∀ a ∈ l, ok a) ∧ off + n * sz ≤ c.size ∧ VRels noN No w (l.flatMap f) ((c.toList.drop off).take (n * sz)) := by
              intro n
              induction n with
              | zero =>
                intro _
                refine ⟨[], rfl, by simp, ?_, by simpa using VRels.nil⟩
                have : c[off]? ≠ none := by have h00' : c[off]? = _ := h00; rw [h00']; simp
                rw [Ne, Array.getElem?_eq_none_iff] at this
                omega
              | succ n ih =>
                intro hn
                obtain ⟨l, hll, hok, hsz', hv⟩ := ih (by omega)
                obtain ⟨csi, h1, a', ha', hv'⟩ := key n (by omega)
                obtain ⟨_, hcl', hcell2⟩ := World.cells?_some h1
                have hcsi : ∀ i, i < sz → c[off + n * sz + i]? = csi[i]? := fun i hi => by
                  have := hcell2 i hi
                  rw [hadd] at this
                  have hadd2 : (Addr.mk b (off + n * sz) none).add i = ⟨b, off + n * sz + i, none⟩ := by unfold Addr.add; split <;> simp_all
                  rw [hadd2, hcell'] at this
                  exact this
                have hlast := hcsi (sz - 1) (by omega)
                rw [List.getElem?_eq_getElem (by omega)] at hlast
                obtain ⟨hlt, _⟩ := Array.getElem?_eq_some_iff.1 hlast
                refine ⟨l ++ [a'], by simp [hll], ?_, by rw [Nat.succ_mul]; omega, ?_⟩
                · intro x hx
                  rcases List.mem_append.1 hx with hx | hx
                  · exact hok x hx
                  · simp at hx; subst hx; exact ha'
                · have e1 : (c.toList.drop off).take ((n + 1) * sz) = (c.toList.drop off).take (n * sz) ++ csi := by
                    apply List.ext_getElem?
                    intro q
                    rw [Nat.succ_mul]
                    have hL : ((c.toList.drop off).take (n * sz)).length = n * sz := by simp; omega
                    by_cases hq : q < n * sz
                    · rw [List.getElem?_append_left (by omega), List.getElem?_take, List.getElem?_take, if_pos (by omega), if_pos hq]
                    · rw [List.getElem?_append_right (by omega), hL]
                      by_cases hq' : q < n * sz + sz
                      · rw [List.getElem?_take, if_pos hq', List.getElem?_drop, Array.getElem?_toList, ← hcsi (q - n * sz) (by omega)]
                        congr 1; omega
                      · rw [List.getElem?_take, if_neg hq', List.getElem?_eq_none (by omega)]
                  rw [e1]
                  simpa using hv.append hv'
            obtain ⟨l, hll, hok, hin, hv⟩ := build len (Nat.le_refl _)
            have hlf : (l.map el).flatMap V.cells = l.flatMap f := by
              rw [List.flatMap_map]
              clear hv hll build
              induction l with
              | nil => rfl
              | cons x xs ih => simp only [List.flatMap_cons, hel x (hok x (by simp)), ih (fun a ha => hok a (by simp [ha]))]
            refine ⟨some l, fun l' hl' => (by cases hl'; exact ⟨by omega, hok⟩), .cons (.ro (c := c) (e := ty) (fr := fr) ?_ (by simp [No]) hw' ?_ (by simp [hll]) hl (by simpa [hll] using hin) rfl ?_) .nil⟩
            · exact (Array.getElem?_eq_some_iff.1 hw').1
            · intro v hv
              obtain ⟨a', ha', rfl⟩ := List.mem_map.1 hv
              have h1 := h.len a' (hok a' ha')
              have h2 := h.one a' (hok a' ha')
              simp only [V.fits, hel a' (hok a' ha'), Bool.and_eq_true, beq_iff_eq]
              exact ⟨by omega, h2⟩
            · simp only [List.length_map, hlf, hll]; exact hv
        · cases h00
omit [Md] in
theorem imp_array {α : Type} {ok : α → Prop} {f : α → List V} {n sz : Nat} (ht : P.underlying t = some (.array n e)) (hsz : P.cellsOf e = sz) (hc : P.cellsOf t = n * sz) (h : ImpAs P e ok f) :
    ImpAs P t (fun l : List α => l.length = n ∧ ∀ a ∈ l, ok a) fun l => l.flatMap f where
  nl l := fun v hv => by
    obtain ⟨a, _, h2⟩ := List.mem_flatMap.1 hv
    exact h.nl a v h2
  one l hl := by
    rw [List.all_eq_true]
    intro v hv
    obtain ⟨a, h1, h2⟩ := List.mem_flatMap.1 hv
    exact List.all_eq_true.1 (h.one a (hl.2 a h1)) v h2
  len l hl := by
    rw [hc, ← hl.1]
    have := hl.2
    clear hl
    induction l with
    | nil => simp
    | cons x xs ih => simp only [List.flatMap_cons, List.length_append, List.length_cons, Nat.succ_mul, h.len x (this x (by simp)), hsz, ih (fun a ha => this a (by simp [ha]))]; omega
  imp {H enc w base held fuel cs x} hr := by
    obtain ⟨xs, m, _, _, hl, hxs, hi⟩ := DataW.trod_array ht hr
    rw [hsz] at hi
    rw [hc] at hl
    have build : ∀ q, q ≤ n → ∃ l : List α, l.length = q ∧ (∀ a ∈ l, ok a) ∧ VRels noN No w (l.flatMap f) (cs.take (q * sz)) := by
      intro q
      induction q with
      | zero => intro _; exact ⟨[], rfl, by simp, by simpa using VRels.nil⟩
      | succ q ih =>
        intro hq
        obtain ⟨l, hll, hok, hv⟩ := ih (by omega)
        have h1 := hi q (by omega)
        rw [List.getElem?_eq_getElem (by omega)] at h1
        obtain ⟨a, ha, hv'⟩ := h.imp h1
        refine ⟨l ++ [a], by simp [hll], fun x hx => ?_, ?_⟩
        · rcases List.mem_append.1 hx with hx | hx
          · exact hok x hx
          · simp at hx; subst hx; exact ha
        · rw [Nat.succ_mul, List.take_add]
          simpa using hv.append hv'
    obtain ⟨l, hll, hok, hv⟩ := build n (Nat.le_refl _)
    refine ⟨l, ⟨hll, hok⟩, ?_⟩
    rw [← hl, List.take_length] at hv
    exact hv
structure ImpFs (P : Program) (fs : List Field) (o tot : Nat) {α : Type} (ok : α → Prop) (f : α → List V) : Prop where
 nl : ∀ a, NLs (f a)
 one : ∀ a, ok a → (f a).all V.one = true
 len : ∀ a, ok a → o + (f a).length = tot
 imp : ∀ {H : Type} {enc : TypeId × Value → H} {w : World} {base : Nat} {held : Bool} {n : Nat} {cs : List Value}, cs.length = tot →
  (∀ fld ∈ fs, ∃ x, DataW.trod enc P w base (fun _ => true) held n fld.type ((cs.drop fld.offset).take (P.cellsOf fld.type)) = some x) → ∃ a, ok a ∧ VRels noN No w (f a) (cs.drop o)
omit [Md] in
theorem impF_nil {o : Nat} : ImpFs P [] o o (fun _ : Unit => True) fun _ => [] where
 nl _ := .nil
 one _ _ := rfl
 len _ _ := rfl
 imp hl _ := ⟨(), trivial, by rw [List.drop_eq_nil_of_le (by omega)]; exact .nil⟩
omit [Md] in
theorem impF_last {α : Type} {ok : α → Prop} {f : α → List V} {fld : Field} {o tot : Nat} (ho : fld.offset = o) (ht : o + P.cellsOf fld.type = tot) (h : ImpAs P fld.type ok f) : ImpFs P [fld] o tot ok f where
 nl := h.nl
 one := h.one
 len a ha := by rw [h.len a ha, ht]
 imp {H enc w base held n cs} hl hf := by
  obtain ⟨x, hx⟩ := hf fld (by simp)
  obtain ⟨a, ha, hv⟩ := h.imp hx
  refine ⟨a, ha, ?_⟩
  rw [ho, List.take_of_length_le (by simp; omega)] at hv
  exact hv
omit [Md] in
theorem impF_cons {α β : Type} {ok : α → Prop} {f : α → List V} {ok' : β → Prop} {f' : β → List V} {fld : Field} {fs : List Field} {o o' tot : Nat} (ho : fld.offset = o) (hs : o + P.cellsOf fld.type = o') (h : ImpAs P fld.type ok f) (h' : ImpFs P fs o' tot ok' f') :
    ImpFs P (fld :: fs) o tot (fun p : α × β => ok p.1 ∧ ok' p.2) fun p => f p.1 ++ f' p.2 where
  nl p := fun v hv => by
    rcases List.mem_append.1 hv with hv | hv
    · exact h.nl _ v hv
    · exact h'.nl _ v hv
  one p hp := by simp only [List.all_append, h.one _ hp.1, h'.one _ hp.2, Bool.and_self]
  len p hp := by have := h'.len _ hp.2; rw [List.length_append, h.len _ hp.1]; omega
  imp {H enc w base held n cs} hl hf := by
    obtain ⟨x, hx⟩ := hf fld (by simp)
    obtain ⟨a, ha, hv⟩ := h.imp hx
    obtain ⟨b, hb, hv'⟩ := h'.imp hl fun g hg => hf g (by simp [hg])
    refine ⟨(a, b), ⟨ha, hb⟩, ?_⟩
    have : cs.drop o = (cs.drop o).take (P.cellsOf fld.type) ++ cs.drop o' := by rw [← hs, ← List.drop_drop, List.take_append_drop]
    rw [this, ← ho]
    exact hv.append hv'
omit [Md] in
theorem imp_struct {α : Type} {ok : α → Prop} {f : α → List V} {fs : Array Field} {tot : Nat} (ht : P.underlying t = some (.struct fs)) (hc : P.cellsOf t = tot) (h : ImpFs P fs.toList 0 tot ok f) : ImpAs P t ok f where
 nl := h.nl
 one := h.one
 len a ha := by have := h.len a ha; omega
 imp {H enc w base held fuel cs x} hr := by
  obtain ⟨xs, n, _, _, hl, hxs, hi⟩ := DataW.trod_struct ht hr
  have := h.imp (cs := cs) (n := n) (enc := enc) (w := w) (base := base) (held := held) (by omega) fun fld hfld => by
   obtain ⟨i, hi1⟩ := List.getElem?_of_mem hfld
   have h2 := hi i fld (by simpa using hi1)
   have hlt : i < fs.size := by have := (List.getElem?_eq_some_iff.1 hi1).1; simpa using this
   rw [List.getElem?_eq_getElem (by omega)] at h2
   exact ⟨_, h2⟩
  simpa using this
structure ArgsAs (P : Program) (ts : List TypeId) {α : Type} (ok : α → Prop) (f : α → List V) : Prop where
 nl : ∀ a, NLs (f a)
 imp : ∀ {H : Type} {enc : TypeId × Value → H} {w : World} {held : Bool} {vs : List Value} {ds : List (DataW H)} {ps : List MemPlace}, DataW.TrodAll enc P w 0 (fun _ => true) held ts vs ds ps →
  (∀ (j : Nat) (t : TypeId) (v : Value), ts[j]? = some t → vs[j]? = some v → ∃ b, Value.okWide P w .any b t v) → ∃ a, ok a ∧ VRels noN No w (f a) vs
omit [Md] in
theorem args_nil : ArgsAs P [] (fun _ : Unit => True) fun _ => [] where
 nl _ := .nil
 imp {H enc w held vs ds ps} h _ := by
  cases vs with
  | nil => exact ⟨(), trivial, .nil⟩
  | cons v vs => exact False.elim h
omit [Md] in
theorem args_one {α β : Type} {ok : α → Prop} {f : α → V} {ok' : β → Prop} {f' : β → List V} {ts : List TypeId} (hu : (match P.underlying t with | some (.struct _) | some (.array _ _) => false | _ => true) = true) (h : ImpAs P t ok fun a => [f a]) (h' : ArgsAs P ts ok' f') :
    ArgsAs P (t :: ts) (fun p : α × β => ok p.1 ∧ ok' p.2) fun p => f p.1 :: f' p.2 where
  nl p := .cons (h.nl p.1 _ (by simp)) (h'.nl _)
  imp {H enc w held vs ds ps} hr hk := by
    match vs, ds, hr with
    | v :: vs, d :: ds, hr =>
      obtain ⟨p, q, ⟨fuel, h1⟩, h2, _⟩ := hr
      obtain ⟨a, ha, hv⟩ := h.imp h1
      obtain ⟨b, hb, hv'⟩ := h'.imp h2 fun j t v h3 h4 => hk (j + 1) t v (by simpa using h3) (by simpa using h4)
      refine ⟨(a, b), ⟨ha, hb⟩, .cons ?_ hv'⟩
      obtain ⟨bb, hok⟩ := hk 0 t v rfl rfl
      have hv1 : v.cells.toList = [v] := by
        have hcell : Cell.okWide P w .any bb t v := by
          unfold Value.okWide at hok
          split at hu
          · cases hu
          · cases hu
          · rename_i hA hB
            split at hok
            · rename_i x hx; exact absurd hx (hA x)
            · rename_i x y hx; exact absurd hx (hB x y)
            · exact hok
        cases v <;> first | rfl | (exfalso; revert hcell; unfold Cell.okWide Cell.ok; (repeat' split) <;> simp_all)
      rw [hv1] at hv
      cases hv with
      | cons hv _ => exact hv
omit [Md] in
theorem args_agg {α β : Type} {ok : α → Prop} {f : α → List V} {ok' : β → Prop} {f' : β → List V} {ts : List TypeId} (hu : (match P.underlying t with | some (.struct _) | some (.array _ _) => true | _ => false) = true) (h : ImpAs P t ok f) (h' : ArgsAs P ts ok' f') :
    ArgsAs P (t :: ts) (fun p : α × β => ok p.1 ∧ ok' p.2) fun p => .agg (f p.1) :: f' p.2 where
  nl p := .cons (.agg (h.nl p.1)) (h'.nl _)
  imp {H enc w held vs ds ps} hr hk := by
    match vs, ds, hr with
    | v :: vs, d :: ds, hr =>
      obtain ⟨p, q, ⟨fuel, h1⟩, h2, _⟩ := hr
      obtain ⟨a, ha, hv⟩ := h.imp h1
      obtain ⟨b, hb, hv'⟩ := h'.imp h2 fun j t v h3 h4 => hk (j + 1) t v (by simpa using h3) (by simpa using h4)
      refine ⟨(a, b), ⟨ha, hb⟩, .cons ?_ hv'⟩
      obtain ⟨bb, hok⟩ := hk 0 t v rfl rfl
      have hv1 : ∃ cs, v = .agg cs := by
        unfold Value.okWide at hok
        split at hok
        · exact ⟨_, hok.choose_spec.1⟩
        · exact ⟨_, hok.choose_spec.1⟩
        · rename_i hA hB
          split at hu
          · rename_i x hx; exact absurd hx (hA x)
          · rename_i x y hx; exact absurd hx (hB x y)
          · cases hu
      obtain ⟨cs, rfl⟩ := hv1
      have : VRel noN No w (.agg (f a)) (.agg cs.toList.toArray) := .agg (by simpa [Value.cells] using hv)
      simpa using this
end
omit [Md] in
theorem trodAll_stays {H : Type} {enc : TypeId × Value → H} {P : Program} (hl : laidOutB P = true) {W W' : World} (hb : Below W.heap.size W W') :
    ∀ {ts : List TypeId} {vs : List Value} {ds : List (DataW H)} {ps : List MemPlace}, (ts.all fun t => P.readableRec t && decide (t < P.types.size)) = true →
    DataW.TrodAll enc P W 0 (fun _ => true) true ts vs ds ps → DataW.TrodAll enc P W' 0 (fun b => decide (b < W.heap.size)) true ts vs ds ps
  | [], [], [], _, _, h => h
  | t :: ts, v :: vs, d :: ds, ps, hr, h => by
    obtain ⟨p, q, h1, h2, h3⟩ := h
    simp only [List.all_cons, Bool.and_eq_true, decide_eq_true_eq] at hr
    refine ⟨p, q, Below.trod hl hr.1.1 hr.1.2 h1 hb ?_, trodAll_stays hl hb (by simpa using hr.2) h2, h3⟩
    obtain ⟨m, hm⟩ := h1
    exact DataW.trod_lt m _ _ _ hm
  | [], _ :: _, _, _, _, h => False.elim h
  | [], [], _ :: _, _, _, h => False.elim h
  | _ :: _, [], _, _, _, h => False.elim h
  | _ :: _, _ :: _, [], _, _, h => False.elim h
omit [Md] in
theorem trodAll_length {H : Type} {enc : TypeId × Value → H} {P : Program} {W : World} {base : Nat} {sp : Nat → Bool} {held : Bool} :
    ∀ {ts : List TypeId} {vs : List Value} {ds : List (DataW H)} {ps : List MemPlace}, DataW.TrodAll enc P W base sp held ts vs ds ps → ds.length = ts.length
  | [], [], [], _, _ => rfl
  | _ :: _, _ :: _, _ :: _, _, ⟨_, _, _, h, _⟩ => by simp [trodAll_length h]
  | [], _ :: _, _, _, h => False.elim h
  | [], [], _ :: _, _, h => False.elim h
  | _ :: _, [], _, _, h => False.elim h
  | _ :: _, _ :: _, [], _, h => False.elim h
theorem law_lifted {C : Checked} {os : Os} {f : FuncId} {fn : Func} {s : ChangeSpec} {α : Type} {ok : α → Prop} {g : α → List V} {rt : TypeId} (own : ownKnob C.prog.godebug = none) (started : os.Started) (noInit : C.prog.inits.idxOf? f = none) (hfn : C.prog.funcs[f]? = some fn)
    (hl : laidOutB C.prog = true) (hts : (fn.params.toList.all fun t => C.prog.readableRec t && decide (t < C.prog.types.size)) = true) (hrt : fn.resultTypes = #[rt]) (hbool : C.prog.underlying rt = some .bool) (hvars : s.vars = [])
    (hspec : ∀ (H : Type) (ds : List (DataW H)), ds.length = fn.params.size → s.fn H ds = { results := [.lit (.bool true)], args := ds }) {H : Type} {enc : TypeId × Value → H} {conds : List PathCond}
    (witness : ∃ (w : World) (tape : Tape) (i : Input), w.os = os ∧ (w.forCall tape i).Shaped C.prog ∧ i.vars = [] ∧ Input.okWide C.prog (w.forCall tape i) .any w.heap.size f i ∧
      s.pre6 enc C.prog fn conds false (w.forCall tape i).memory i.args ∧ Assume.holds {} C.prog (lone (Frame.enter C.prog f i.args .normal) [] (w.forCall tape i)))
    (ha : ArgsAs C.prog fn.params.toList ok g) (hp : ∀ a, ok a → Pf C.prog f (g a) (.val (.bool true))) :
    ReturnsInHanded {} C os f .any (s.pre6 enc C.prog fn conds false) (s.post enc C.prog fn false true false false) := by
  refine returnsInHanded_of_change_sized own started noInit hfn witness ?_
  intro W base args ds gs before hval hW _ _ _
  have hW' := hW
  obtain ⟨p, q, hA, hV, rfl, hfz, hnd⟩ := hW
  rw [hvars] at hV
  obtain ⟨rfl, rfl, rfl⟩ := trodVars_none hV
  obtain ⟨a, hok, hv⟩ := ha.imp hA fun j t v h1 h2 => ⟨base, hval j t v (by simpa using h1) (by simpa using h2)⟩
  refine ((hp a hok).calls noN No W args.toList (fun _ h => False.elim h) hv).mono ?_
  rintro e W' ⟨cv, he, hr, h1, h2, h3, h4, h5⟩
  have hcv : cv = .bool true := by cases hr; rfl
  subst hcv
  have bel : Below W.heap.size W W' := ⟨h1, h2.1, h3, h4, fun k hk => h5 k hk⟩
  have hlen := trodAll_length hA
  have hs := hspec H ds (by simpa using hlen)
  refine ⟨_, he, ds, [], p ++ [], [], p, [], hW', ?_, ?_, ?_, bel.frame _, fun h => by cases h⟩
  · rw [hrt, List.append_nil, hs]
    exact trodAll_mk1 (shut_bool hbool _)
  · rw [List.append_nil, hs]
    exact trodAll_stays hl bel hts hA
  · rw [List.append_nil, hs, hvars]
    rfl
end Go.Sl
namespace Go.Sl
variable [Md]
omit [Md] in
theorem get_mem : ∀ (t : List (Nat × V)) (i : Nat), get t i = .any ∨ (i, get t i) ∈ t
 | [], _ => .inl rfl
 | (j, v) :: r, i => by
  by_cases h : i = j
  ·subst h; right; simp [get]
  ·rcases get_mem r i with h' | h'
   ·left; simp [get, h, h']
   ·right; simp only [get, h, if_false]; exact List.mem_cons_of_mem _ h'
omit [Md] in
theorem nodup_of_map {α β : Type} (f : α → β) {l : List α} (h : (l.map f).Nodup) : l.Nodup := (List.pairwise_map.1 h).imp fun {a b} h e => h (congrArg f e)
theorem Weaker.drop {N k : Nat} {t : List (Nat × V)} {H : Heap} : ∀ G : Heap, Weaker ⟨N, t, G ++ H, k⟩ ⟨N, t, H, k⟩
 | [] => Weaker.refl _
 | p :: r => by
  have h := Weaker.del (N := N) (k := k) (t := t) (H := (p :: r) ++ H) p.1
  simp only [List.cons_append, Sl.del, if_true] at h
  exact h.trans (Weaker.drop r)
theorem Weaker.of {N k : Nat} {H H' : Heap} {t t' : List (Nat × V)} (ht : ∀ p ∈ t', get t p.1 = p.2) (hn : (H'.map Prod.fst).Nodup) (hH : ∀ p ∈ H', look p.1 H = some p.2) : Weaker ⟨N, t, H, k⟩ ⟨N, t', H', k⟩ := by
 refine (Weaker.tmps (t' := t') fun i => ?_).trans ⟨fun F ι a w hh => ?_⟩
 ·rcases get_mem t' i with h | h
  ·exact .inl h
  ·exact .inr (ht _ h).symm
 ·have hN := hh.rep.names
  simp only [] at hN
  have hnd : H.Nodup := nodup_of_map _ hN
  have hnd' : H'.Nodup := nodup_of_map _ hn
  have p1 : (H.filter fun p => decide (p.1 ∈ H'.map Prod.fst)).Perm H' := by
   rw [List.perm_ext_iff_of_nodup (hnd.filter _) hnd']
   intro p
   simp only [List.mem_filter, decide_eq_true_eq]
   constructor
   ·rintro ⟨h1, h2⟩
    obtain ⟨q, hq, he⟩ := List.mem_map.1 h2
    have e1 := hH q hq
    have e2 := look_of_mem (n := p.1) (b := p.2) hN h1
    rw [← he, e1] at e2
    have e3 := Option.some.inj e2
    have : q = p := Prod.ext he e3
    exact this ▸ hq
   ·intro h
    exact ⟨look_mem (hH p h), List.mem_map_of_mem h⟩
  have p2 : H.Perm ((H.filter fun p => !decide (p.1 ∈ H'.map Prod.fst)) ++ H') := by
   refine ((List.filter_append_perm (fun p => decide (p.1 ∈ H'.map Prod.fst)) H).symm.trans ?_)
   exact (List.perm_append_comm).trans (p1.append_left _)
  exact ((Weaker.perm p2).trans (Weaker.drop _)).h F ι a w hh
theorem loop_k {P : Program} {c : Code} {Q : Exit → St → Prop} {σ : St} {α : Type} (S : α → St) (μ : α → Nat) (a0 : α) (h0 : Weaker σ (S a0)) (round : ∀ a, Tr P c (Then (fun σ' => ∃ a', μ a' < μ a ∧ Weaker σ' (S a')) Q) (S a)) : Tr P (.loop c) Q σ :=
 tr_loop (fun n σ => ∃ a, μ a = n ∧ Weaker σ (S a)) (μ a0) ⟨a0, rfl, h0⟩ fun n σ ⟨a, ha, hw⟩ =>
  Tr.weaken hw ((round a).mono fun e σ' h => by
   cases e with
   | normal => obtain ⟨a', h1, h2⟩ := h; exact ⟨μ a', by omega, a', rfl, h2⟩
   | _ => exact h)
theorem loop_p {P : Program} {c : Code} {Q : Exit → St → Prop} {σ : St} {α : Type} (S : α → St) (I : α → Prop) (μ : α → Nat) (a0 : α) (hI : I a0) (h0 : Weaker σ (S a0)) (round : ∀ a, I a → Tr P c (Then (fun σ' => ∃ a', I a' ∧ μ a' < μ a ∧ Weaker σ' (S a')) Q) (S a)) : Tr P (.loop c) Q σ :=
 loop_k (α := { a // I a }) (fun a => S a.1) (fun a => μ a.1) ⟨a0, hI⟩ h0 fun a => (round a.1 a.2).mono fun e σ' h => by
  cases e with
  | normal => obtain ⟨a', h1, h2, h3⟩ := h; exact ⟨⟨a', h1⟩, h2, h3⟩
  | _ => exact h
theorem region_e {P : Program} {T : Tab} {Q : Exit → St → Prop} (hT : TabOk P T) {id : Nat} {l : List Oper} {N k : Nat} {t : List (Nat × V)} {H : Heap} (hN : dstsLt l N = true)
    (h : ∀ K : St → Prop, (∀ σ', Q .normal σ' → K σ') → vcL T P l N l K t H k) : Tr P (.region id l.toArray false) Q ⟨N, t, H, k⟩ := tr_region hT hN (h _ fun _ h => h)
theorem draw_e {P : Program} {T : Tab} {Q : Exit → St → Prop} (hT : TabOk P T) (hm : P.follows .mixedOrders = true) {id : Nat} {l : List Oper} {N k : Nat} {t : List (Nat × V)} {H : Heap} (m : Nat) (tbl : List (List Nat)) (prs : List (Nat × Nat)) (hN : dstsLt l N = true) (hd : drawOk l tbl m = true) (hp : pairsOk l tbl prs m = true)
    (h : ∀ K : St → Prop, (∀ σ', Q .normal σ' → K σ') → vcD T P l N k (l.take m) (fun t' H' lg => confQ prs lg ∧ vcL T P l N (l.drop m) K t' H' (k + m)) t H []) :
    Tr P (.region id l.toArray true) Q ⟨N, t, H, k⟩ := tr_draw hT hm tbl prs hN hd hp (h _ fun _ h => h)
theorem block_k {P : Program} {Q : Exit → St → Prop} {σ : St} {id : Nat} {c : Code} (h : ∀ K : St → Prop, (∀ σ', Q .normal σ' → K σ') → Tr P c (InBlock id fun e => match e with | .normal => K | e => Q e) σ) : Tr P (.block id c) Q σ :=
 tr_block ((h (Q .normal) fun _ h => h).mono fun e σ' h => by
  cases e with
  | exit i => simp only [InBlock] at h ⊢; split <;> simp_all
  | _ => exact h)
omit [Md] in
theorem ofInt_nat (w n : Nat) : BitVec.ofInt w (n : Int) = BitVec.ofNat w n := BitVec.ofInt_natCast w n
omit [Md] in
theorem w16 (n : Nat) (h : n < 65536) : IntKind.u16.wrap (n : Int) = n := IntWalk.u16_in _ (by omega)
omit [Md] in
theorem w64 (n : Nat) (h : n < 18446744073709551616) : IntKind.u64.wrap (n : Int) = n := IntWalk.u64_in _ (by omega)
section
variable {m n : Nat}
omit [Md] in
theorem and16 (hm : m < 65536) (hn : n < 65536) : (BitVec.ofInt 16 (m : Int) &&& BitVec.ofInt 16 (n : Int)).toNat = m &&& n := by
 rw [ofInt_nat, ofInt_nat, BitVec.toNat_and, BitVec.toNat_ofNat, BitVec.toNat_ofNat, Nat.mod_eq_of_lt (show m < 2 ^ 16 from hm), Nat.mod_eq_of_lt (show n < 2 ^ 16 from hn)]
omit [Md] in
theorem or16 (hm : m < 65536) (hn : n < 65536) : (BitVec.ofInt 16 (m : Int) ||| BitVec.ofInt 16 (n : Int)).toNat = m ||| n := by
 rw [ofInt_nat, ofInt_nat, BitVec.toNat_or, BitVec.toNat_ofNat, BitVec.toNat_ofNat, Nat.mod_eq_of_lt (show m < 2 ^ 16 from hm), Nat.mod_eq_of_lt (show n < 2 ^ 16 from hn)]
omit [Md] in
theorem andNot_bits (w m n : Nat) : BitVec.ofNat w m &&& ~~~BitVec.ofNat w n = BitVec.ofNat w m ^^^ (BitVec.ofNat w m &&& BitVec.ofNat w n) := by
 ext i hi
 simp only [BitVec.getElem_and, BitVec.getElem_not, BitVec.getElem_xor]
 cases (BitVec.ofNat w m)[i] <;> cases (BitVec.ofNat w n)[i] <;> rfl
omit [Md] in
theorem andNot16 (hm : m < 65536) (hn : n < 65536) : (BitVec.ofInt 16 (m : Int) &&& ~~~BitVec.ofInt 16 (n : Int)).toNat = m ^^^ (m &&& n) := by
 rw [ofInt_nat, ofInt_nat, andNot_bits, BitVec.toNat_xor, BitVec.toNat_and, BitVec.toNat_ofNat, BitVec.toNat_ofNat, Nat.mod_eq_of_lt (show m < 2 ^ 16 from hm), Nat.mod_eq_of_lt (show n < 2 ^ 16 from hn)]
omit [Md] in
theorem and64 (hm : m < 18446744073709551616) (hn : n < 18446744073709551616) : (BitVec.ofInt 64 (m : Int) &&& BitVec.ofInt 64 (n : Int)).toNat = m &&& n := by
 rw [ofInt_nat, ofInt_nat, BitVec.toNat_and, BitVec.toNat_ofNat, BitVec.toNat_ofNat, Nat.mod_eq_of_lt (show m < 2 ^ 64 from hm), Nat.mod_eq_of_lt (show n < 2 ^ 64 from hn)]
omit [Md] in
theorem or64 (hm : m < 18446744073709551616) (hn : n < 18446744073709551616) : (BitVec.ofInt 64 (m : Int) ||| BitVec.ofInt 64 (n : Int)).toNat = m ||| n := by
 rw [ofInt_nat, ofInt_nat, BitVec.toNat_or, BitVec.toNat_ofNat, BitVec.toNat_ofNat, Nat.mod_eq_of_lt (show m < 2 ^ 64 from hm), Nat.mod_eq_of_lt (show n < 2 ^ 64 from hn)]
omit [Md] in
theorem xor64 (hm : m < 18446744073709551616) (hn : n < 18446744073709551616) : (BitVec.ofInt 64 (m : Int) ^^^ BitVec.ofInt 64 (n : Int)).toNat = m ^^^ n := by
 rw [ofInt_nat, ofInt_nat, BitVec.toNat_xor, BitVec.toNat_ofNat, BitVec.toNat_ofNat, Nat.mod_eq_of_lt (show m < 2 ^ 64 from hm), Nat.mod_eq_of_lt (show n < 2 ^ 64 from hn)]
omit [Md] in
theorem andNot64 (hm : m < 18446744073709551616) (hn : n < 18446744073709551616) : (BitVec.ofInt 64 (m : Int) &&& ~~~BitVec.ofInt 64 (n : Int)).toNat = m ^^^ (m &&& n) := by
 rw [ofInt_nat, ofInt_nat, andNot_bits, BitVec.toNat_xor, BitVec.toNat_and, BitVec.toNat_ofNat, BitVec.toNat_ofNat, Nat.mod_eq_of_lt (show m < 2 ^ 64 from hm), Nat.mod_eq_of_lt (show n < 2 ^ 64 from hn)]
end
section
variable {k : IntKind} {x y : Int} {K : V → Prop}
omit [Md] in
theorem bi_add : binIV .add k x y K = K (.val (.int k (k.wrap (x + y)))) := rfl
omit [Md] in
theorem bi_sub : binIV .sub k x y K = K (.val (.int k (k.wrap (x - y)))) := rfl
omit [Md] in
theorem bi_mul : binIV .mul k x y K = K (.val (.int k (k.wrap (x * y)))) := rfl
omit [Md] in
theorem bi_quo : binIV .quo k x y K = (y ≠ 0 ∧ K (.val (.int k (k.wrap (x.tdiv y))))) := rfl
omit [Md] in
theorem bi_rem : binIV .rem k x y K = (y ≠ 0 ∧ K (.val (.int k (x.tmod y)))) := rfl
omit [Md] in
theorem bi_eql : binIV .eql k x y K = K (.val (.bool (x == y))) := rfl
omit [Md] in
theorem bi_neq : binIV .neq k x y K = K (.val (.bool (x != y))) := rfl
omit [Md] in
theorem bi_lss : binIV .lss k x y K = K (.val (.bool (decide (x < y)))) := rfl
omit [Md] in
theorem bi_leq : binIV .leq k x y K = K (.val (.bool (decide (x ≤ y)))) := rfl
omit [Md] in
theorem bi_gtr : binIV .gtr k x y K = K (.val (.bool (decide (x > y)))) := rfl
omit [Md] in
theorem bi_geq : binIV .geq k x y K = K (.val (.bool (decide (x ≥ y)))) := rfl
omit [Md] in
theorem bi_and16 (h1 : 0 ≤ x) (h2 : x < 65536) (h3 : 0 ≤ y) (h4 : y < 65536) : binIV .and .u16 x y K = K (.val (.int .u16 ((x.toNat &&& y.toNat : Nat) : Int))) := by
 obtain ⟨m, rfl⟩ := Int.eq_ofNat_of_zero_le h1
 obtain ⟨n, rfl⟩ := Int.eq_ofNat_of_zero_le h3
 show K (.val (.int .u16 (IntKind.u16.wrap (((BitVec.ofInt 16 (m : Int) &&& BitVec.ofInt 16 (n : Int)).toNat : Nat) : Int)))) = _
 rw [and16 (by omega) (by omega), w16 _ (Nat.lt_of_le_of_lt Nat.and_le_left (by omega))]; rfl
omit [Md] in
theorem bi_or16 (h1 : 0 ≤ x) (h2 : x < 65536) (h3 : 0 ≤ y) (h4 : y < 65536) : binIV .or .u16 x y K = K (.val (.int .u16 ((x.toNat ||| y.toNat : Nat) : Int))) := by
 obtain ⟨m, rfl⟩ := Int.eq_ofNat_of_zero_le h1
 obtain ⟨n, rfl⟩ := Int.eq_ofNat_of_zero_le h3
 show K (.val (.int .u16 (IntKind.u16.wrap (((BitVec.ofInt 16 (m : Int) ||| BitVec.ofInt 16 (n : Int)).toNat : Nat) : Int)))) = _
 rw [or16 (by omega) (by omega), w16 _ (Nat.or_lt_two_pow (n := 16) (by omega) (by omega))]; rfl
omit [Md] in
theorem bi_andNot16 (h1 : 0 ≤ x) (h2 : x < 65536) (h3 : 0 ≤ y) (h4 : y < 65536) : binIV .andNot .u16 x y K = K (.val (.int .u16 ((x.toNat ^^^ (x.toNat &&& y.toNat) : Nat) : Int))) := by
 obtain ⟨m, rfl⟩ := Int.eq_ofNat_of_zero_le h1
 obtain ⟨n, rfl⟩ := Int.eq_ofNat_of_zero_le h3
 show K (.val (.int .u16 (IntKind.u16.wrap (((BitVec.ofInt 16 (m : Int) &&& ~~~BitVec.ofInt 16 (n : Int)).toNat : Nat) : Int)))) = _
 rw [andNot16 (by omega) (by omega), w16 _ (Nat.xor_lt_two_pow (n := 16) (by omega) (Nat.lt_of_le_of_lt Nat.and_le_left (by omega)))]; rfl
omit [Md] in
theorem bi_sub16 (h1 : 0 ≤ y) (h2 : y ≤ x) (h3 : x < 65536) : binIV .sub .u16 x y K = K (.val (.int .u16 ((x.toNat - y.toNat : Nat) : Int))) := by
 show K (.val (.int .u16 (IntKind.u16.wrap (x - y)))) = _
 rw [show x - y = ((x.toNat - y.toNat : Nat) : Int) by omega, w16 _ (by omega)]
omit [Md] in
theorem bi_and64 (h1 : 0 ≤ x) (h2 : x < 18446744073709551616) (h3 : 0 ≤ y) (h4 : y < 18446744073709551616) : binIV .and .u64 x y K = K (.val (.int .u64 ((x.toNat &&& y.toNat : Nat) : Int))) := by
 obtain ⟨m, rfl⟩ := Int.eq_ofNat_of_zero_le h1
 obtain ⟨n, rfl⟩ := Int.eq_ofNat_of_zero_le h3
 show K (.val (.int .u64 (IntKind.u64.wrap (((BitVec.ofInt 64 (m : Int) &&& BitVec.ofInt 64 (n : Int)).toNat : Nat) : Int)))) = _
 rw [and64 (by omega) (by omega), w64 _ (Nat.lt_of_le_of_lt Nat.and_le_left (by omega))]; rfl
omit [Md] in
theorem bi_or64 (h1 : 0 ≤ x) (h2 : x < 18446744073709551616) (h3 : 0 ≤ y) (h4 : y < 18446744073709551616) : binIV .or .u64 x y K = K (.val (.int .u64 ((x.toNat ||| y.toNat : Nat) : Int))) := by
 obtain ⟨m, rfl⟩ := Int.eq_ofNat_of_zero_le h1
 obtain ⟨n, rfl⟩ := Int.eq_ofNat_of_zero_le h3
 show K (.val (.int .u64 (IntKind.u64.wrap (((BitVec.ofInt 64 (m : Int) ||| BitVec.ofInt 64 (n : Int)).toNat : Nat) : Int)))) = _
 rw [or64 (by omega) (by omega), w64 _ (Nat.or_lt_two_pow (n := 64) (by omega) (by omega))]; rfl
omit [Md] in
theorem bi_xor64 (h1 : 0 ≤ x) (h2 : x < 18446744073709551616) (h3 : 0 ≤ y) (h4 : y < 18446744073709551616) : binIV .xor .u64 x y K = K (.val (.int .u64 ((x.toNat ^^^ y.toNat : Nat) : Int))) := by
 obtain ⟨m, rfl⟩ := Int.eq_ofNat_of_zero_le h1
 obtain ⟨n, rfl⟩ := Int.eq_ofNat_of_zero_le h3
 show K (.val (.int .u64 (IntKind.u64.wrap (((BitVec.ofInt 64 (m : Int) ^^^ BitVec.ofInt 64 (n : Int)).toNat : Nat) : Int)))) = _
 rw [xor64 (by omega) (by omega), w64 _ (Nat.xor_lt_two_pow (n := 64) (by omega) (by omega))]; rfl
omit [Md] in
theorem bi_andNot64 (h1 : 0 ≤ x) (h2 : x < 18446744073709551616) (h3 : 0 ≤ y) (h4 : y < 18446744073709551616) : binIV .andNot .u64 x y K = K (.val (.int .u64 ((x.toNat ^^^ (x.toNat &&& y.toNat) : Nat) : Int))) := by
 obtain ⟨m, rfl⟩ := Int.eq_ofNat_of_zero_le h1
 obtain ⟨n, rfl⟩ := Int.eq_ofNat_of_zero_le h3
 show K (.val (.int .u64 (IntKind.u64.wrap (((BitVec.ofInt 64 (m : Int) &&& ~~~BitVec.ofInt 64 (n : Int)).toNat : Nat) : Int)))) = _
 rw [andNot64 (by omega) (by omega), w64 _ (Nat.xor_lt_two_pow (n := 64) (by omega) (Nat.lt_of_le_of_lt Nat.and_le_left (by omega)))]; rfl
omit [Md] in
theorem bi_sub64 (h1 : 0 ≤ y) (h2 : y ≤ x) (h3 : x < 18446744073709551616) : binIV .sub .u64 x y K = K (.val (.int .u64 ((x.toNat - y.toNat : Nat) : Int))) := by
 show K (.val (.int .u64 (IntKind.u64.wrap (x - y)))) = _
 rw [show x - y = ((x.toNat - y.toNat : Nat) : Int) by omega, w64 _ (by omega)]
omit [Md] in
theorem neg_u64 (h1 : 0 < x) (h2 : x < 18446744073709551616) : IntKind.u64.wrap (0 - x) = ((18446744073709551616 - x.toNat : Nat) : Int) := by
 simp [IntKind.wrap, IntKind.bits, IntKind.signed]; omega
omit [Md] in
theorem neg_u64' (h1 : 0 < x) (h2 : x < 18446744073709551616) : IntKind.u64.wrap (-x) = ((18446744073709551616 - x.toNat : Nat) : Int) := by
 rw [← neg_u64 h1 h2, Int.zero_sub]
def pw (n : Nat) : Nat := 2 ^ n
omit [Md] in
theorem pw_pos (n : Nat) : 0 < pw n := Nat.two_pow_pos n
omit [Md] in
theorem pw_lt {n m : Nat} (h : n < m) : pw n < 2 ^ m := Nat.pow_lt_pow_right (by omega) h
omit [Md] in
theorem testBit_pw (n i : Nat) : (pw n).testBit i = decide (n = i) := Nat.testBit_two_pow
omit [Md] in
theorem sh_l16 (h1 : 0 ≤ y) (h2 : y < 16) : shIV .shl .u16 1 y K = K (.val (.int .u16 ((pw y.toNat : Nat) : Int))) := by
 unfold pw
 obtain ⟨n, rfl⟩ := Int.eq_ofNat_of_zero_le h1
 have e : min ((n : Int)).toNat IntKind.u16.bits = n := by simp [IntKind.bits]; omega
 show (0 ≤ (n : Int) ∧ K (.val (.int .u16 (IntKind.u16.wrap (1 * 2 ^ (min ((n : Int)).toNat IntKind.u16.bits)))))) = _
 rw [e, Int.one_mul, show ((2 : Int) ^ n) = ((2 ^ n : Nat) : Int) by simp, w16 _ (Nat.pow_lt_pow_right (by omega) (show n < 16 by omega))]
 simp
def shr (m n : Nat) : Nat := m >>> n
omit [Md] in
theorem sh_r16 (h1 : 0 ≤ y) (h2 : y < 16) (h3 : 0 ≤ x) : shIV .shr .u16 x y K = K (.val (.int .u16 ((shr x.toNat y.toNat : Nat) : Int))) := by
 unfold shr
 obtain ⟨n, rfl⟩ := Int.eq_ofNat_of_zero_le h1
 obtain ⟨m, rfl⟩ := Int.eq_ofNat_of_zero_le h3
 have e : min ((n : Int)).toNat IntKind.u16.bits = n := by simp [IntKind.bits]; omega
 show (0 ≤ (n : Int) ∧ K (.val (.int .u16 (Int.fdiv (m : Int) (2 ^ (min ((n : Int)).toNat IntKind.u16.bits)))))) = _
 rw [e, Int.toNat_natCast, Int.toNat_natCast, Nat.shiftRight_eq_div_pow, show ((2 : Int) ^ n) = ((2 ^ n : Nat) : Int) by simp, Int.natCast_ediv, Int.fdiv_eq_ediv_of_nonneg _ (Int.natCast_nonneg _)]
 simp
omit [Md] in
theorem wrap_i64 (h : -9223372036854775808 ≤ x) (h' : x ≤ 9223372036854775807) : IntKind.i64.wrap x = x := IntWalk.i64_in _ ⟨h, h'⟩
omit [Md] in
theorem wrap_u64 (h : 0 ≤ x) (h' : x < 18446744073709551616) : IntKind.u64.wrap x = x := IntWalk.u64_in _ (by omega)
omit [Md] in
theorem wrap_u16 (h : 0 ≤ x) (h' : x < 65536) : IntKind.u16.wrap x = x := IntWalk.u16_in _ (by omega)
omit [Md] in
theorem wrap_u8 (h : 0 ≤ x) (h' : x < 256) : IntKind.u8.wrap x = x := IntWalk.u8_in _ (by omega)
end
omit [Md] in
@[go_sem low] theorem partV_one (n : Nat) (cs : List V) (j : Nat) : partV false n cs j = cs.getD j .any := rfl
omit [Md] in
@[go_sem low] theorem partV_agg (n : Nat) (cs : List V) (j : Nat) : partV true n cs j = .agg (cut j n cs) := rfl
omit [Md] in
@[go_sem] theorem fits_val (v : Value) : V.fits 1 (.val v) = true := rfl
omit [Md] in
@[go_sem] theorem fits_ptr (n i j : Nat) : V.fits 1 (.ptr n i j) = true := rfl
omit [Md] in
@[go_sem] theorem fits_sl (n i l : Nat) : V.fits 1 (.sl n i l) = true := rfl
omit [Md] in
@[go_sem] theorem fits_ro (n : Nat) (l : List V) : V.fits 1 (.ro n l) = true := rfl
omit [Md] in
@[go_sem] theorem fits_rp (l : List V) (j : Nat) : V.fits 1 (.rp l j) = true := rfl
omit [Md] in
@[go_sem] theorem fits_sub (n i j z l : Nat) : V.fits 1 (.sub n i j z l) = true := rfl
omit [Md] in
@[go_sem] theorem fits_map (n : Nat) : V.fits 1 (.map n) = true := rfl
attribute [go_sem ↓] bi_add bi_sub bi_mul bi_quo bi_rem bi_eql bi_neq bi_lss bi_leq bi_gtr bi_geq bi_and16 bi_or16 bi_andNot16 bi_and64 bi_or64 bi_xor64 bi_andNot64 sh_l16 sh_r16
attribute [go_sem] neg_u64 neg_u64' wrap_i64 wrap_u64 wrap_u16 wrap_u8
attribute [go_sem ↓ high] bi_sub16 bi_sub64
end Go.Sl
namespace Go.Sl
variable [Md]
def elemF (g : V → V) : V → V
 | .agg cs => .agg (cs.map g)
 | v => g v
def frz (S : List Nat) (H : Heap) : Nat → V → V
 | 0, v => v
 | d + 1, v =>
  match v with
  | .sl n q len =>
   if n ∈ S then v else
   match look n H with
   | some (.rows sz es) => if q + len ≤ es.length then .ro sz (((es.drop q).take len).map (elemF (frz S H d))) else v
   | _ => v
  | .ptr n i j =>
   if n ∈ S then v else
   match look n H with
   | some (.rows _ es) => if i < es.length then .rp ((es.getD i .any).cells.map (frz S H d)) j else v
   | _ => v
  | .sub n i j z len =>
   if n ∈ S ∨ z ≠ 1 then v else
   match look n H with
   | some (.rows _ es) => if i < es.length ∧ j + len ≤ (es.getD i .any).cells.length then .ro 1 ((((es.getD i .any).cells.drop j).take len).map (frz S H d)) else v
   | _ => v
  | .agg cs => .agg (cs.map (frz S H d))
  | .tup vs => .tup (vs.map (frz S H d))
  | v => v
def frzB (S : List Nat) (H : Heap) (d : Nat) : B → B
 | .rows sz es => .rows sz (es.map (elemF (frz S H d)))
 | .map es => .map es
 | .iter m done n => .iter m done n
omit [Md] in
theorem frz_agg {S : List Nat} {H : Heap} {d : Nat} {v : V} (h : ∀ cs, v ≠ .agg cs) : ∀ cs, frz S H d v ≠ .agg cs := by
 intro cs
 cases d with
 | zero => exact h cs
 | succ d =>
  unfold frz
  split
  ·split
   ·exact h cs
   ·split
    ·split
     ·simp
     ·exact h cs
    ·exact h cs
  ·split
   ·exact h cs
   ·split
    ·split
     ·simp
     ·exact h cs
    ·exact h cs
  ·split
   ·exact h cs
   ·split
    ·split
     ·simp
     ·exact h cs
    ·exact h cs
  ·rename_i cs' ; exact absurd rfl (h cs')
  ·simp
  ·exact h cs
omit [Md] in
theorem cells_one {v : V} (h : ∀ cs, v ≠ .agg cs) : v.cells = [v] := by
 cases v <;> first | rfl | exact absurd rfl (h _)
omit [Md] in
theorem elemF_cells {S : List Nat} {H : Heap} {d : Nat} (v : V) : (elemF (frz S H d) v).cells = v.cells.map (frz S H d) := by
 by_cases h : ∃ cs, v = .agg cs
 ·obtain ⟨cs, rfl⟩ := h; rfl
 ·have h' : ∀ cs, v ≠ .agg cs := fun cs e => h ⟨cs, e⟩
  have e : elemF (frz S H d) v = frz S H d v := by
   cases v <;> first | rfl | exact absurd rfl (h' _)
  rw [e, cells_one (frz_agg h'), cells_one h']; rfl
omit [Md] in
theorem frz_one {S : List Nat} {H : Heap} {d : Nat} {v : V} (h : v.one = true) : (frz S H d v).one = true := by
 cases d with
 | zero => exact h
 | succ d =>
  unfold frz
  split
  ·split
   ·exact h
   ·split
    ·split
     ·rfl
     ·exact h
    ·exact h
  ·split
   ·exact h
   ·split
    ·split
     ·rfl
     ·exact h
    ·exact h
  ·split
   ·exact h
   ·split
    ·split
     ·rfl
     ·exact h
    ·exact h
  ·cases h
  ·cases h
  ·exact h
omit [Md] in
theorem elemF_fits {S : List Nat} {H : Heap} {d sz : Nat} {v : V} (h : v.fits sz = true) : (elemF (frz S H d) v).fits sz = true := by
 rw [fits_iff] at h ⊢
 rw [elemF_cells]
 refine ⟨by simpa using h.1, fun c hc => ?_⟩
 obtain ⟨c', hc', rfl⟩ := List.mem_map.1 hc
 exact frz_one (h.2 c' hc')
omit [Md] in
theorem elemF_flat {S : List Nat} {H : Heap} {d : Nat} (es : List V) : (es.map (elemF (frz S H d))).flatMap V.cells = (es.flatMap V.cells).map (frz S H d) := by
 induction es with
 | nil => rfl
 | cons e es ih => simp only [List.map_cons, List.flatMap_cons, List.map_append, ih, elemF_cells]
section
variable {F : Nat → Prop} {ι ι' : Names} {O O' : Nat → Prop} {H H' : Heap} {w w' : World} {S : List Nat}
omit [Md] in
theorem VRels.mapF {g : V → V} (h : ∀ v x, VRel ι O w v x → VRel ι O' w (g v) x) : ∀ {vs : List V} {xs : List Value}, VRels ι O w vs xs → VRels ι O' w (vs.map g) xs
 | _, _, .nil => .nil
 | _, _, .cons h1 hs => .cons (h _ _ h1) (VRels.mapF h hs)
theorem callF_mono {P : Program} {f : FuncId} {args : List V} {H : Heap} {k : Nat} {K K' : V → Heap → Nat → Prop} (h : @callF _ P f args H k ⟨K⟩) (hk : ∀ v H k, K v H k → K' v H k) : @callF _ P f args H k ⟨K'⟩ := Fn.mono h hk
theorem opV_mono {T : Tab} {P : Program} {t : List (Nat × V)} {H : Heap} {k : Nat} {op : Op} {K K' : V → Heap → Nat → Prop} (h : opV T P t H k op K) (hk : ∀ v H k, K v H k → K' v H k) : opV T P t H k op K' := by
 cases hc : isCall op with
 | false =>
  obtain ⟨v, H', k', h1, h2⟩ := opV_pt hc K h
  exact h2 K' (hk _ _ _ h1)
 | true =>
  unfold isCall at hc
  split at hc
  ·rename_i f args ts
   unfold opV at h ⊢
   dsimp only at h ⊢
   split at h
   ·rename_i g fs cs hf
    first | exact callF_mono h hk | (simp only [hf]; exact callF_mono h hk)
   ·exact h.elim
  ·cases hc
omit [Md] in
theorem guardV_mono {ops : List Oper} {t : List (Nat × V)} {g : Option (Nat × Bool)} {p q p' q' : Prop} (h : guardV ops t g p q) (hp : p → p') (hq : q → q') : guardV ops t g p' q' := by
 cases g with
 | none => exact hp h
 | some g =>
  obtain ⟨j, want⟩ := g
  unfold guardV at h ⊢
  dsimp only at h ⊢
  cases hd : (ops[j]?).bind (·.dst) with
  | none => rw [hd] at h; exact h.elim
  | some d =>
   rw [hd] at h
   dsimp only at h ⊢
   cases hg : get t d with
   | val v =>
    rw [hg] at h
    cases v with
    | bool b =>
     dsimp only at h ⊢
     by_cases e : b = want
     ·rw [if_pos e] at h ⊢; exact hp h
     ·rw [if_neg e] at h ⊢; exact hq h
    | _ => exact h.elim
   | tup vs =>
    rw [hg] at h
    cases vs with
    | nil => exact hq h
    | cons => exact h.elim
   | _ => rw [hg] at h; exact h.elim
theorem vcL_mono {T : Tab} {P : Program} {ops : List Oper} {N : Nat} {K K' : St → Prop} : ∀ {l : List Oper} {t : List (Nat × V)} {H : Heap} {k : Nat}, vcL T P ops N l K t H k → (∀ σ, K σ → K' σ) → vcL T P ops N l K' t H k
 | [], _, _, _, h, hk => hk _ h
 | _ :: _, _, _, _, h, hk => ⟨h.1, guardV_mono h.2 (fun h => opV_mono h fun _ _ _ h => vcL_mono h hk) fun h => vcL_mono h hk⟩
theorem opVD_mono {T : Tab} {P : Program} {t : List (Nat × V)} {H : Heap} {k : Nat} {op : Op} {K K' : V → Heap → Nat → Prop} (h : opVD T P t H k op K) (hk : ∀ v H k, K v H k → K' v H k) : opVD T P t H k op K' := by
 unfold opVD at h ⊢
 split
 ·rename_i f args ts
  dsimp only at h
  split at h
  ·rename_i hf
   obtain ⟨r, h1, h2⟩ := h
   first | exact ⟨r, h1, hk _ _ _ h2⟩ | (simp only [hf]; exact ⟨r, h1, hk _ _ _ h2⟩)
  ·exact h.elim
 ·rename_i hno
  split at h
  ·rename_i f args ts; exact absurd rfl (hno f args ts)
  ·exact opV_mono h hk
theorem vcD_mono {T : Tab} {P : Program} {ops : List Oper} {N : Nat} {K K' : List (Nat × V) → Heap → List (List Nat × List Nat) → Prop} : ∀ {l : List Oper} {κ : Nat} {t : List (Nat × V)} {H : Heap} {lg : List (List Nat × List Nat)}, vcD T P ops N κ l K t H lg → (∀ t H lg, K t H lg → K' t H lg) → vcD T P ops N κ l K' t H lg
 | [], _, _, _, _, h, hk => hk _ _ _ h
 | _ :: _, _, _, _, _, h, hk => ⟨h.1, guardV_mono h.2 (fun h => opVD_mono h fun _ _ _ h => ⟨h.1, vcD_mono h.2 hk⟩) fun h => vcD_mono h hk⟩
structure Less (ι : Names) (S : List Nat) (H H' : Heap) : Prop where
 sub : ∀ n B, (n, B) ∈ H' → n ∈ S ∧ ∃ C, (n, C) ∈ H
omit [Md] in
theorem Less.own (L : Less ι S H H') {b : Nat} (h : Own F ι H' b) : F b ∨ ∃ n C l, n ∈ S ∧ (n, C) ∈ H ∧ ι n = some l ∧ l.ghost = false ∧ l.b = b := by
 rcases h with h | ⟨n, B, l, hm, hl, hg, hb⟩
 ·exact .inl h
 ·obtain ⟨h1, C, h2⟩ := L.sub n B hm
  exact .inr ⟨n, C, l, h1, h2, hl, hg, hb⟩
omit [Md] in
theorem Less.stays (L : Less ι S H H') : Stays ι (Own F ι H) w ι (Own F ι H') w :=
 ⟨fun _ _ h => h, Nat.le_refl _, fun b _ hn => ⟨fun h => hn (by
  rcases L.own h with h | ⟨n, C, l, _, h2, hl, hg, hb⟩
  ·exact .inl h
  ·exact .inr ⟨n, C, l, h2, hl, hg, hb⟩), rfl⟩⟩
omit [Md] in
theorem Less.free (L : Less ι S H H') (R : Rep F ι H w) {n : Nat} {B : B} {l : Loc} (hn : look n H = some B) (hS : n ∉ S) (hl : ι n = some l) (hg : l.ghost = false) (hF : ¬ F l.b) : ¬ Own F ι H' l.b := by
 intro h
 rcases L.own h with h | ⟨m, C, l', h1, h2, hl', hg', hb⟩
 ·exact hF h
 ·exact R.apart m C n B l' l h2 (look_mem hn) (fun e => hS (e ▸ h1)) hl' hl hg' hg hb
omit [Md] in
theorem frz_ok (L : Less ι S H H') (R : Rep F ι H w) : ∀ (d : Nat) (v : V) (x : Value), VRel ι (Own F ι H) w v x → VRel ι (Own F ι H') w (frz S H d v) x
 | 0, v, x, h => h.stays L.stays
 | d + 1, v, x, h => by
  have ih := frz_ok L R d
  unfold frz
  split
  ·rename_i n q len
   split
   ·exact h.stays L.stays
   ·rename_i hS
    split
    ·rename_i sz es hn
     split
     ·rename_i hl
      have hlen : ((es.drop q).take len).length = len := by rw [List.length_take, List.length_drop]; omega
      cases h with
      | sl0 h => simpa using VRel.ro0
      | sl hl' hg hm hoff hc0 hlc hcm hs =>
       rename_i off cap l
       obtain ⟨e1, e2, e3, e4, e5, c, e, hw, hc, hlo, hv⟩ := R.block hn hl' hg
       have hcl : ∀ v ∈ es, v.cells.length = sz := fun v hv => (fits_iff.1 (e3 v hv)).1
       have hmul : (q + len) * sz ≤ es.length * sz := Nat.mul_le_mul_right _ hl
       rw [Nat.add_mul] at hmul
       have hv' := (hv.drop (q * sz)).take (len * sz)
       rw [flatMap_drop hcl, flatMap_take (fun v hv => hcl v (List.mem_of_mem_drop hv))] at hv'
       have hlist : (((c.toList.drop l.o).take (es.length * sz)).drop (q * sz)).take (len * sz) = (c.toList.drop off).take (((es.drop q).take len).length * sz) := by
        rw [hlen]
        apply List.ext_getElem?
        intro p
        simp only [List.getElem?_take, List.getElem?_drop]
        by_cases hq : p < len * sz
        ·simp only [hq, if_true, show q * sz + p < es.length * sz by omega]
         congr 1; rw [hoff, e1]; omega
        ·simp [hq]
       rw [hlist] at hv'
       refine .ro e4 (L.free R hn hS hl' hg e5) hw (fun v hv => ?_) (by rw [List.length_map, hlen]) hlc ?_ rfl ?_
       ·obtain ⟨v', hv', rfl⟩ := List.mem_map.1 hv
        exact elemF_fits (e3 v' (List.mem_of_mem_drop (List.mem_of_mem_take hv')))
       ·rw [List.length_map, hlen, hoff, e1]; omega
       ·rw [elemF_flat, List.length_map]; exact hv'.mapF ih
     ·exact h.stays L.stays
    ·exact h.stays L.stays
  ·rename_i n i j
   split
   ·exact h.stays L.stays
   ·rename_i hS
    split
    ·rename_i sz es hn
     split
     ·rename_i hl
      cases h with
      | ptr hl' hg hm hoff =>
       rename_i off l
       obtain ⟨e1, e2, e3, e4, e5, c, e, hw, hc, hlo, hv⟩ := R.block hn hl' hg
       have hcl : ∀ v ∈ es, v.cells.length = sz := fun v hv => (fits_iff.1 (e3 v hv)).1
       obtain ⟨v, hvi⟩ : ∃ v, es[i]? = some v := ⟨_, List.getElem?_eq_getElem hl⟩
       have hd : es.getD i .any = v := by simp [List.getD, hvi]
       have hvf := fits_iff.1 (e3 v (List.mem_of_getElem? hvi))
       have hmul : i * sz + sz ≤ es.length * sz := by rw [← Nat.succ_mul]; exact Nat.mul_le_mul_right _ hl
       have hel := (hv.drop (i * sz)).take sz
       rw [flatMap_elem hcl hvi] at hel
       have hlist : (((c.toList.drop l.o).take (es.length * sz)).drop (i * sz)).take sz = (c.toList.drop (l.o + i * sz)).take v.cells.length := by
        rw [hvf.1]
        apply List.ext_getElem?
        intro p
        simp only [List.getElem?_take, List.getElem?_drop]
        by_cases hq : p < sz
        ·simp only [hq, if_true, show i * sz + p < es.length * sz by omega]
         congr 1; omega
        ·simp [hq]
       rw [hlist] at hel
       rw [hd]
       refine VRel.rp (off := l.o + i * sz) e4 (L.free R hn hS hl' hg e5) hw ?_ (by rw [List.length_map, hvf.1]; omega) rfl (by rw [List.length_map]; exact hel.mapF ih) (by rw [hoff, e1])
       rw [List.all_eq_true]
       intro c hc
       obtain ⟨c', hc', rfl⟩ := List.mem_map.1 hc
       exact frz_one (hvf.2 c' hc')
     ·exact h.stays L.stays
    ·exact h.stays L.stays
  ·rename_i n i j z len
   split
   ·exact h.stays L.stays
   ·rename_i hSz
    obtain ⟨hS, hz⟩ := not_or.1 hSz
    have hz := Decidable.not_not.1 hz
    subst hz
    split
    ·rename_i sz es hn
     split
     ·rename_i hl
      obtain ⟨hl, hjl⟩ := hl
      cases h with
      | sub hl' hg hm hoff hlc hcm hs =>
       rename_i off cap l
       obtain ⟨e1, e2, e3, e4, e5, c, e, hw, hc, hlo, hv⟩ := R.block hn hl' hg
       have hcl : ∀ v ∈ es, v.cells.length = sz := fun v hv => (fits_iff.1 (e3 v hv)).1
       obtain ⟨v, hvi⟩ : ∃ v, es[i]? = some v := ⟨_, List.getElem?_eq_getElem hl⟩
       have hd : es.getD i .any = v := by simp [List.getD, hvi]
       have hvf := fits_iff.1 (e3 v (List.mem_of_getElem? hvi))
       rw [hd] at hjl ⊢
       rw [hvf.1] at hjl
       have hmul : i * sz + sz ≤ es.length * sz := by rw [← Nat.succ_mul]; exact Nat.mul_le_mul_right _ hl
       have hel := ((((hv.drop (i * sz)).take sz).drop j).take len)
       rw [flatMap_elem hcl hvi] at hel
       have hll : ((v.cells.drop j).take len).length = len := by rw [List.length_take, List.length_drop, hvf.1]; omega
       have hlist : (((((c.toList.drop l.o).take (es.length * sz)).drop (i * sz)).take sz).drop j).take len = (c.toList.drop off).take len := by
        apply List.ext_getElem?
        intro p
        simp only [List.getElem?_take, List.getElem?_drop]
        by_cases hq : p < len
        ·simp only [hq, if_true, show j + p < sz by omega, show i * sz + (j + p) < es.length * sz by omega]
         congr 1; rw [hoff, e1]; omega
        ·simp [hq]
       rw [hlist] at hel
       have hone : ∀ u ∈ ((v.cells.drop j).take len).map (frz S H d), u.one = true := fun u hu => by
        obtain ⟨c', hc', rfl⟩ := List.mem_map.1 hu
        exact frz_one (hvf.2 c' (List.mem_of_mem_drop (List.mem_of_mem_take hc')))
       have hcells : ∀ u : V, u.one = true → u.cells = [u] := fun u hu => by cases u <;> first | rfl | cases hu
       have hflat : (((v.cells.drop j).take len).map (frz S H d)).flatMap V.cells = ((v.cells.drop j).take len).map (frz S H d) := by
        generalize ((v.cells.drop j).take len).map (frz S H d) = q at hone
        induction q with
        | nil => rfl
        | cons a q ihq => rw [List.flatMap_cons, hcells a (hone a (by simp)), ihq fun u hu => hone u (by simp [hu])]; rfl
       have hcs : off + len ≤ c.size := by rw [hc]; omega
       refine VRel.ro (vs := (c.toList.drop off).take len) e4 (L.free R hn hS hl' hg e5) hw (fun u hu => ?_) (by rw [List.length_map, hll]) hlc (by rw [List.length_map, hll]; omega) (by rw [List.length_map, hll, Nat.mul_one]) (by rw [hflat]; exact hel.mapF ih)
       rw [fits_iff, hcells u (hone u hu)]
       exact ⟨rfl, fun c' hc' => by simp at hc'; subst hc'; exact hone _ hu⟩
     ·exact h.stays L.stays
    ·exact h.stays L.stays
  ·cases h with
   | agg h => exact .agg (h.mapF ih)
  ·cases h with
   | tup h => exact .tup (h.mapF ih)
  ·exact h.stays L.stays
omit [Md] in
theorem frzB_ok (L : Less ι S H H') (R : Rep F ι H w) (d : Nat) {l : Loc} {B : B} (h : BRel ι (Own F ι H) w l B) : BRel ι (Own F ι H') w l (frzB S H d B) := by
 have ih := frz_ok L R d
 cases B with
 | rows sz es =>
  obtain ⟨h1, h2, h3, h4⟩ := h
  refine ⟨h1, h2, fun v hv => ?_, ?_⟩
  ·obtain ⟨v', hv', rfl⟩ := List.mem_map.1 hv
   exact elemF_fits (h3 v' hv')
  ·rcases h4 with ⟨h4, h5⟩ | ⟨h4, c, e, h5, h6, h7, h8⟩
   ·subst h5; exact .inl ⟨h4, rfl⟩
   ·refine .inr ⟨h4, c, e, h5, h6, by simpa using h7, ?_⟩
    rw [elemF_flat, List.length_map]; exact h8.mapF ih
 | map es =>
  obtain ⟨h1, h2, mes, h3, h4, h5, h6⟩ := h
  exact ⟨h1, h2, mes, h3, VRels.stays L.stays h4, VRels.stays L.stays h5, h6⟩
 | iter m done n => exact h
theorem Weaker.fz {N k : Nat} {t t' : List (Nat × V)} (d dh : Nat) (ht : ∀ p ∈ t', frz (H'.map Prod.fst) H d (get t p.1) = p.2) (hn : (H'.map Prod.fst).Nodup)
    (hH : ∀ p ∈ H', ∃ B, look p.1 H = some B ∧ frzB (H'.map Prod.fst) H dh B = p.2) : Weaker ⟨N, t, H, k⟩ ⟨N, t', H', k⟩ :=
  ⟨fun F ι a w hh => by
    have R := hh.rep
    simp only [] at R
    have L : Less ι (H'.map Prod.fst) H H' := ⟨fun n B hm => ⟨List.mem_map_of_mem (f := Prod.fst) hm, by
      obtain ⟨C, hC, _⟩ := hH _ hm
      exact ⟨C, look_mem hC⟩⟩⟩
    have hno : ∀ b, ¬ OwnH ι H b → ¬ OwnH ι H' b := fun b hb ⟨n, B, l, hm, hl, hg, he⟩ => by
      obtain ⟨C, hC, _⟩ := hH _ hm
      exact hb ⟨n, C, l, look_mem hC, hl, hg, he⟩
    have K : Kept ι H w ι H' w := ⟨fun _ _ h => h, rfl, Tp.refl _, rfl, Nat.le_refl _, fun _ _ _ => rfl, fun b _ h => Classical.byContradiction fun hc => hno b hc h⟩
    refine ⟨ι, ⟨hh.defers, hh.size, fun i => ?_, ⟨R.frame, hn, fun n B hm => ?_, fun n B m C l l' h1 h2 => ?_⟩, hh.fresh⟩, K, Nat.le_refl _, fun _ _ => rfl, fun n h => ?_⟩
    · rcases get_mem t' i with h | h
      · simp only []; rw [h]; exact .any _
      · have h1 := ht _ h
        simp only [] at h1 ⊢
        rw [← h1]
        exact frz_ok L R d _ _ (hh.tmps i)
    · obtain ⟨C, hC, hB⟩ := hH _ hm
      obtain ⟨l, hl, hr, hg⟩ := R.own n C (look_mem hC)
      refine ⟨l, hl, ?_, hg⟩
      have := frzB_ok L R dh hr
      rw [hB] at this; exact this
    · obtain ⟨B', hB', _⟩ := hH _ h1
      obtain ⟨C', hC', _⟩ := hH _ h2
      exact R.apart n B' m C' l l' (look_mem hB') (look_mem hC')
    · obtain ⟨p, hp, rfl⟩ := List.mem_map.1 h
      obtain ⟨C, hC, _⟩ := hH _ hp
      exact .inl (List.mem_map.2 ⟨(p.1, C), look_mem hC, rfl⟩)⟩
theorem Weaker.up {N k k' : Nat} {t : List (Nat × V)} (hk : k ≤ k') : Weaker ⟨N, t, H, k⟩ ⟨N, t, H, k'⟩ :=
 ⟨fun F ι a w hh => ⟨ι, ⟨hh.defers, hh.size, hh.tmps, hh.rep, fun n hn h => hh.fresh n hn (Nat.le_trans hk h)⟩, ⟨Kept.refl _ _ _, hk, fun _ _ => rfl, fun _ h => .inl h⟩⟩⟩
theorem Weaker.fzk {N k k' : Nat} {t t' : List (Nat × V)} (d dh : Nat) (hk : k ≤ k') (ht : ∀ p ∈ t', frz (H'.map Prod.fst) H d (get t p.1) = p.2) (hn : (H'.map Prod.fst).Nodup)
    (hH : ∀ p ∈ H', ∃ B, look p.1 H = some B ∧ frzB (H'.map Prod.fst) H dh B = p.2) : Weaker ⟨N, t, H, k⟩ ⟨N, t', H', k'⟩ := (Weaker.up hk).trans (Weaker.fz d dh ht hn hH)
inductive NilTos (m : Nat) : List V → List V → Prop
 | nil : NilTos m [] []
 | same {c : V} {cs ds : List V} (h : NilTos m cs ds) : NilTos m (c :: cs) (c :: ds)
 | to {cs ds : List V} (h : NilTos m cs ds) : NilTos m (.val (.slice none 0 0) :: cs) (.sl m 0 0 :: ds)
omit [Md] in
theorem NilTos.rels {m : Nat} {l : Loc} (hm : ι m = some l) {cs ds : List V} (h : NilTos m cs ds) {xs : List Value} (hv : VRels ι O w cs xs) : VRels ι O w ds xs := by
 induction h generalizing xs with
 | nil => exact hv
 | same _ ih => cases hv with | cons a b => exact .cons a (ih b)
 | to _ ih => cases hv with | cons a b => cases a; exact .cons (.sl0 hm) (ih b)
theorem Weaker.ghostH {N k sz : Nat} {t : List (Nat × V)} (n s : Nat) {es : List V} (es' : List V) (hn : look n H = some (.rows sz es)) (h0 : es ≠ []) (hl : es'.length = es.length) (hf : ∀ v ∈ es', v.fits sz = true) (hc : NilTos k (es.flatMap V.cells) (es'.flatMap V.cells)) :
    Weaker ⟨N, t, H, k⟩ ⟨N, t, (k, .rows s []) :: put n (.rows sz es') H, k + 1⟩ :=
  ⟨fun F ι a w hh => by
    have hk := hh.fresh k trivial (Nat.le_refl _)
    obtain ⟨R, K⟩ := hh.rep.ghost hk s
    have hkn : n ≠ k := fun e => by
      obtain ⟨l, hl, _⟩ := hh.rep.own n _ (look_mem hn)
      rw [e, hk] at hl; cases hl
    simp only [] at R K
    have hmem : (n, B.rows sz es) ∈ (k, B.rows s []) :: H := List.mem_cons_of_mem _ (look_mem hn)
    obtain ⟨l, hιl, hB, _⟩ := R.own n _ hmem
    have hg : l.ghost = false := by
      obtain ⟨_, _, _, h4⟩ := hB
      rcases h4 with ⟨_, h5⟩ | ⟨h4, _⟩
      · exact absurd h5 h0
      · exact h4
    have hkk : upd ι k ⟨0, 0, s, 0, true, false⟩ k = some ⟨0, 0, s, 0, true, false⟩ := upd_same _ _ _
    have R2 := R.put (b' := .rows sz es') hmem hιl hg rfl (Tp.refl _) rfl (Nat.le_refl _) (fun _ _ _ => rfl) (fun O' S => by
      obtain ⟨h1, h2, h3, h4⟩ := hB
      refine ⟨h1, h2, hf, ?_⟩
      rcases h4 with ⟨h4, _⟩ | ⟨h4, c, e, h5, h6, h7, h8⟩
      · rw [hg] at h4; cases h4
      · exact .inr ⟨h4, c, e, h5, h6, by rw [hl]; exact h7, by rw [hl]; exact hc.rels hkk (h8.stays S)⟩)
    have K2 := kept_put (b' := .rows sz es') hmem hιl hg R.names (w := w) (w' := w) rfl (Tp.refl _) rfl (Nat.le_refl _) (fun _ _ _ => rfl)
    have he : put n (.rows sz es') ((k, .rows s []) :: H) = (k, .rows s []) :: put n (.rows sz es') H := by simp [Sl.put, hkn]
    rw [he] at R2 K2
    have K3 := K.trans K2
    refine ⟨_, ⟨hh.defers, hh.size, fun j => (hh.tmps j).stays K3.stays, R2, fun q _ hq => ?_⟩, K3, Nat.le_succ _, fun q hq => upd_other _ _ _ _ (by have := hq trivial; simp only [] at this; omega), fun q hq => ?_⟩
    · simp only [] at hq
      rw [upd_other _ _ _ _ (by omega)]
      exact hh.fresh q trivial (by simp only []; omega)
    · simp only [List.map_cons, List.mem_cons, names_put] at hq
      rcases hq with hq | hq
      · exact .inr ⟨trivial, by simp only []; omega⟩
      · exact .inl hq⟩
theorem View.fz (d : Nat) (v : V) : View H v [] (frz [] H d v) := fun F ι w cv R hv => by
 have L : Less ι [] H [] := ⟨fun n B hm => by simp at hm⟩
 obtain ⟨R', K, N, _⟩ := View.nil (H := H) v F ι w cv R hv
 exact ⟨R', K, N, frz_ok L R d v cv hv⟩
def SeenAs (v v' : V) : Prop := ∀ ι O w x, VRel ι O w v x → VRel ι O w v' x
omit [Md] in
theorem SeenAs.refl (v : V) : SeenAs v v := fun _ _ _ _ h => h
omit [Md] in
theorem seen_slice {α : Type} (sz : Nat) (el : α → V) (o : Option (List α)) : SeenAs (sliceOf sz el o) (.ro sz ((o.getD []).map el)) := by
 cases o with
 | none => intro ι O w x h; cases h; exact .ro0
 | some l => exact SeenAs.refl _
inductive SeenAll : List V → List V → Prop
 | nil : SeenAll [] []
 | cons {v v' : V} {vs vs' : List V} (h : SeenAs v v') (hs : SeenAll vs vs') : SeenAll (v :: vs) (v' :: vs')
omit [Md] in
theorem SeenAll.rels {vs vs' : List V} (h : SeenAll vs vs') {xs : List Value} (hv : VRels ι O w vs xs) : VRels ι O w vs' xs := by
 induction h generalizing xs with
 | nil => exact hv
 | cons h1 _ ih => cases hv with | cons a b => exact .cons (h1 _ _ _ _ a) (ih b)
omit [Md] in
theorem seen_nil (sz : Nat) : SeenAs (.val (.slice none 0 0)) (.ro sz []) := fun ι O w x h => by cases h; exact .ro0
omit [Md] in
theorem seen_agg {cs cs' : List V} (h : SeenAll cs cs') : SeenAs (.agg cs) (.agg cs') := fun ι O w x hv => by cases hv with | agg hv => exact .agg (h.rels hv)
omit [Md] in
theorem SeenAll.len {cs cs' : List V} (h : SeenAll cs cs') : cs.length = cs'.length := by induction h with | nil => rfl | cons _ _ ih => simp [ih]
omit [Md] in
theorem SeenAll.refl : ∀ cs : List V, SeenAll cs cs
 | [] => .nil
 | _ :: cs => .cons (SeenAs.refl _) (SeenAll.refl cs)
omit [Md] in
theorem seen_rp {cs cs' : List V} {j : Nat} (h : SeenAll cs cs') (h1 : cs'.all V.one = true) : SeenAs (.rp cs j) (.rp cs' j) := fun ι O w x hv => by
 cases hv with
 | rp hb hO hw hsz hin hvs hr ho => exact .rp hb hO hw h1 (by rw [← h.len]; exact hin) (by rw [← h.len]; exact hvs) (h.rels hr) ho
theorem Pf.seen {P : Program} {f : FuncId} {args args' : List V} {r : V} (h : SeenAll args args') (p : Pf P f args' r) : Pf P f args r :=
 ⟨p.enters, fun ι O w cargs hO hv => p.calls ι O w cargs hO (h.rels hv)⟩
theorem Pf.of_fz {P : Program} {f : FuncId} {args : List V} {r : V} (d : Nat) (ha : NLs args) (hr : NL r) (h : Fn P f args [] 0 fun v H _ => frz [] H d v = r) : Pf P f args r :=
 Pf.of_fn ha hr (Fn.view (h.mono fun v H k e => ⟨[], r, e ▸ View.fz d v, rfl⟩))
omit [Md] in
theorem elemF_id : elemF id = id := by
 funext v
 cases v <;> simp [elemF]
omit [Md] in
theorem elemF_id' : elemF (fun x => x) = id := elemF_id
omit [Md] in
theorem frz_zero (S : List Nat) (H : Heap) : frz S H 0 = id := by funext v; rfl
omit [Md] in
@[go_sem] theorem nm_l1 (n j : Nat) : (n = n + j + 1) = False := eq_false (by omega)
omit [Md] in
@[go_sem] theorem nm_r1 (n j : Nat) : (n + j + 1 = n) = False := eq_false (by omega)
omit [Md] in
@[go_sem] theorem nm_l2 (n j : Nat) : (n = n + j + 1 + 1) = False := eq_false (by omega)
omit [Md] in
@[go_sem] theorem nm_r2 (n j : Nat) : (n + j + 1 + 1 = n) = False := eq_false (by omega)
omit [Md] in
@[go_sem] theorem nm_l3 (n j : Nat) : (n = n + j + 1 + 1 + 1) = False := eq_false (by omega)
omit [Md] in
@[go_sem] theorem nm_r3 (n j : Nat) : (n + j + 1 + 1 + 1 = n) = False := eq_false (by omega)
omit [Md] in
@[go_sem] theorem nm_l4 (n j : Nat) : (n = n + j + 1 + 1 + 1 + 1) = False := eq_false (by omega)
omit [Md] in
@[go_sem] theorem nm_r4 (n j : Nat) : (n + j + 1 + 1 + 1 + 1 = n) = False := eq_false (by omega)
omit [Md] in
@[go_sem] theorem nm_l5 (n j : Nat) : (n = n + j + 1 + 1 + 1 + 1 + 1) = False := eq_false (by omega)
omit [Md] in
@[go_sem] theorem nm_r5 (n j : Nat) : (n + j + 1 + 1 + 1 + 1 + 1 = n) = False := eq_false (by omega)
omit [Md] in
@[go_sem] theorem nm_l6 (n j : Nat) : (n = n + j + 1 + 1 + 1 + 1 + 1 + 1) = False := eq_false (by omega)
omit [Md] in
@[go_sem] theorem nm_r6 (n j : Nat) : (n + j + 1 + 1 + 1 + 1 + 1 + 1 = n) = False := eq_false (by omega)
omit [Md] in
@[go_sem] theorem nm_l7 (n j : Nat) : (n = n + j + 1 + 1 + 1 + 1 + 1 + 1 + 1) = False := eq_false (by omega)
omit [Md] in
@[go_sem] theorem nm_r7 (n j : Nat) : (n + j + 1 + 1 + 1 + 1 + 1 + 1 + 1 = n) = False := eq_false (by omega)
omit [Md] in
@[go_sem] theorem nm_l8 (n j : Nat) : (n = n + j + 1 + 1 + 1 + 1 + 1 + 1 + 1 + 1) = False := eq_false (by omega)
omit [Md] in
@[go_sem] theorem nm_r8 (n j : Nat) : (n + j + 1 + 1 + 1 + 1 + 1 + 1 + 1 + 1 = n) = False := eq_false (by omega)
omit [Md] in
@[go_sem] theorem nm_l9 (n j : Nat) : (n = n + j + 1 + 1 + 1 + 1 + 1 + 1 + 1 + 1 + 1) = False := eq_false (by omega)
omit [Md] in
@[go_sem] theorem nm_r9 (n j : Nat) : (n + j + 1 + 1 + 1 + 1 + 1 + 1 + 1 + 1 + 1 = n) = False := eq_false (by omega)
omit [Md] in
@[go_sem] theorem nm_l10 (n j : Nat) : (n = n + j + 1 + 1 + 1 + 1 + 1 + 1 + 1 + 1 + 1 + 1) = False := eq_false (by omega)
omit [Md] in
@[go_sem] theorem nm_r10 (n j : Nat) : (n + j + 1 + 1 + 1 + 1 + 1 + 1 + 1 + 1 + 1 + 1 = n) = False := eq_false (by omega)
omit [Md] in
@[go_sem] theorem nm_l11 (n j : Nat) : (n = n + j + 1 + 1 + 1 + 1 + 1 + 1 + 1 + 1 + 1 + 1 + 1) = False := eq_false (by omega)
omit [Md] in
@[go_sem] theorem nm_r11 (n j : Nat) : (n + j + 1 + 1 + 1 + 1 + 1 + 1 + 1 + 1 + 1 + 1 + 1 = n) = False := eq_false (by omega)
omit [Md] in
@[go_sem] theorem nm_l12 (n j : Nat) : (n = n + j + 1 + 1 + 1 + 1 + 1 + 1 + 1 + 1 + 1 + 1 + 1 + 1) = False := eq_false (by omega)
omit [Md] in
@[go_sem] theorem nm_r12 (n j : Nat) : (n + j + 1 + 1 + 1 + 1 + 1 + 1 + 1 + 1 + 1 + 1 + 1 + 1 = n) = False := eq_false (by omega)
theorem seq_to {P : Program} {x y : Code} {Q : Exit → St → Prop} {σ : St} (σ' : St) (h : Tr P x (Then (fun σ => Weaker σ σ') Q) σ) (hy : Tr P y Q σ') : Tr P (.seq x y) Q σ :=
 tr_seq (h.mono fun e σ'' hq => by
  cases e with
  | normal => exact Tr.weaken hq hy
  | _ => exact hq)
theorem region_to {P : Program} {T : Tab} {Q : Exit → St → Prop} (hT : TabOk P T) {id : Nat} {l : List Oper} {y : Code} {N k : Nat} {t : List (Nat × V)} {H : Heap} (hN : dstsLt l N = true) (σ' : St)
    (h : vcL T P l N l (fun σ => Weaker σ σ') t H k) (hy : Tr P y Q σ') : Tr P (.seq (.region id l.toArray false) y) Q ⟨N, t, H, k⟩ :=
  region_k hT hN fun K hK => vcL_mono h fun σ hw => hK _ (Tr.weaken hw hy)
theorem draw_to {P : Program} {T : Tab} {Q : Exit → St → Prop} (hT : TabOk P T) (hm : P.follows .mixedOrders = true) {id : Nat} {l : List Oper} {y : Code} {N k : Nat} {t : List (Nat × V)} {H : Heap} (m : Nat) (tbl : List (List Nat)) (prs : List (Nat × Nat)) (hN : dstsLt l N = true) (hd : drawOk l tbl m = true) (hp : pairsOk l tbl prs m = true) (σ' : St)
    (h : vcD T P l N k (l.take m) (fun t' H' lg => confQ prs lg ∧ vcL T P l N (l.drop m) (fun σ => Weaker σ σ') t' H' (k + m)) t H []) (hy : Tr P y Q σ') : Tr P (.seq (.region id l.toArray true) y) Q ⟨N, t, H, k⟩ :=
  draw_k hT hm m tbl prs hN hd hp fun K hK => vcD_mono h fun t' H' lg hc => ⟨hc.1, vcL_mono hc.2 fun σ hw => hK _ (Tr.weaken hw hy)⟩
end
section
variable {S : List Nat} {H : Heap} {d : Nat}
omit [Md] in
@[go_sem] theorem frz_sl {n q len : Nat} : frz S H (d + 1) (.sl n q len) = if n ∈ S then .sl n q len else (match look n H with | some (.rows sz es) => if q + len ≤ es.length then .ro sz (((es.drop q).take len).map (elemF (frz S H d))) else .sl n q len | _ => .sl n q len) := by rw [frz]
omit [Md] in
@[go_sem] theorem frz_ptr {n i j : Nat} : frz S H (d + 1) (.ptr n i j) = if n ∈ S then .ptr n i j else (match look n H with | some (.rows _ es) => if i < es.length then .rp ((es.getD i .any).cells.map (frz S H d)) j else .ptr n i j | _ => .ptr n i j) := by rw [frz]
omit [Md] in
@[go_sem] theorem frz_aggV {cs : List V} : frz S H (d + 1) (.agg cs) = .agg (cs.map (frz S H d)) := by rw [frz]
omit [Md] in
@[go_sem] theorem frz_tup {cs : List V} : frz S H (d + 1) (.tup cs) = .tup (cs.map (frz S H d)) := by rw [frz]
omit [Md] in
@[go_sem] theorem frz_val {v : Value} : frz S H d (.val v) = .val v := by cases d <;> simp [frz]
omit [Md] in
@[go_sem] theorem frz_any : frz S H d .any = .any := by cases d <;> simp [frz]
omit [Md] in
@[go_sem] theorem frz_ro {sz : Nat} {es : List V} : frz S H d (.ro sz es) = .ro sz es := by cases d <;> simp [frz]
omit [Md] in
@[go_sem] theorem frz_rp {cs : List V} {j : Nat} : frz S H d (.rp cs j) = .rp cs j := by cases d <;> simp [frz]
omit [Md] in
@[go_sem] theorem frz_map {n : Nat} : frz S H d (.map n) = .map n := by cases d <;> simp [frz]
omit [Md] in
@[go_sem] theorem frz_fn {f : Go.Fn} {fs cs : List V} : frz S H d (.fn f fs cs) = .fn f fs cs := by cases d <;> simp [frz]
omit [Md] in
@[go_sem] theorem frz_sub {n i j z len : Nat} : frz S H (d + 1) (.sub n i j z len) = if n ∈ S ∨ z ≠ 1 then .sub n i j z len else (match look n H with | some (.rows _ es) => if i < es.length ∧ j + len ≤ (es.getD i .any).cells.length then .ro 1 ((((es.getD i .any).cells.drop j).take len).map (frz S H d)) else .sub n i j z len | _ => .sub n i j z len) := by rw [frz]
end
attribute [go_sem] elemF_id elemF_id' frzB frz_zero elemF V.isAny
omit [Md] in
@[go_sem] theorem one_0 {x : Value} : V.one (.val x) = true := rfl
omit [Md] in
@[go_sem] theorem one_1 {n i j : Nat} : V.one (.ptr n i j) = true := rfl
omit [Md] in
@[go_sem] theorem one_2 {n i j : Nat} : V.one (.sl n i j) = true := rfl
omit [Md] in
@[go_sem] theorem one_3 {n i j z l : Nat} : V.one (.sub n i j z l) = true := rfl
omit [Md] in
@[go_sem] theorem one_4 {n : Nat} {es : List V} : V.one (.ro n es) = true := rfl
omit [Md] in
@[go_sem] theorem one_5 {n : Nat} {es : List V} : V.one (.rp es n) = true := rfl
omit [Md] in
@[go_sem] theorem one_6 {n : Nat} : V.one (.map n) = true := rfl
omit [Md] in
@[go_sem] theorem one_7 {f : Go.Fn} {es cs : List V} : V.one (.fn f es cs) = true := rfl
omit [Md] in
@[go_sem] theorem put_0 {x : Value} {q : Nat} {u : V} : putPart (.val x) q u = u := rfl
omit [Md] in
@[go_sem] theorem put_1 {n i j : Nat} {q : Nat} {u : V} : putPart (.ptr n i j) q u = u := rfl
omit [Md] in
@[go_sem] theorem put_2 {n i j : Nat} {q : Nat} {u : V} : putPart (.sl n i j) q u = u := rfl
omit [Md] in
@[go_sem] theorem put_3 {n i j z l : Nat} {q : Nat} {u : V} : putPart (.sub n i j z l) q u = u := rfl
omit [Md] in
@[go_sem] theorem put_4 {n : Nat} {es : List V} {q : Nat} {u : V} : putPart (.ro n es) q u = u := rfl
omit [Md] in
@[go_sem] theorem put_5 {n : Nat} {es : List V} {q : Nat} {u : V} : putPart (.rp es n) q u = u := rfl
omit [Md] in
@[go_sem] theorem put_6 {n : Nat} {q : Nat} {u : V} : putPart (.map n) q u = u := rfl
omit [Md] in
@[go_sem] theorem put_7 {f : Go.Fn} {es cs : List V} {q : Nat} {u : V} : putPart (.fn f es cs) q u = u := rfl
omit [Md] in
@[go_sem] theorem put_8  {q : Nat} {u : V} : putPart .any q u = u := rfl
omit [Md] in
@[go_sem low] theorem fits_def (sz : Nat) (v : V) : v.fits sz = (v.cells.length == sz && v.cells.all V.one) := rfl
omit [Md] in
@[go_sem low] theorem put_agg (cs : List V) (j : Nat) (u : V) : putPart (.agg cs) j u = .agg (splice cs j u.cells) := rfl
omit [Md] in
@[go_sem low] theorem splice_def (cs us : List V) (o : Nat) : splice cs o us = cs.take o ++ (us ++ cs.drop (o + us.length)) := rfl
omit [Md] in
@[go_sem low] theorem cut_def (j n : Nat) (cs : List V) : cut j n cs = (cs.drop j).take n := rfl
omit [Md] in
@[go_sem low] theorem zeroV_def (d : D) (n b : Nat) (z : List Value) : TI.zeroV ⟨d, n, b, z⟩ = if TI.agg ⟨d, n, b, z⟩ then .agg (z.map .val) else (z.map V.val).headD .any := rfl
end Go.Sl
namespace Go.Proofs.YtjhnpebgfjefoaaDoor
open Go Go.Sl
abbrev iV (n : Int) : V := .val (.int .i64 n)
abbrev uV (n : Int) : V := .val (.int .u64 n)
abbrev bV (b : Bool) : V := .val (.bool b)
structure Ins where
 op : Int
 rd : Int
 loc : Int
 aR : Bool
 aN : Int
 bR : Bool
 bN : Int
 acq : Bool
 rel : Bool
 dep : Int
 pred : Int
 succ : Int
 skip : Int
def Ins.cs (x : Ins) : List V := [iV x.op, iV x.rd, iV x.loc, bV x.aR, uV x.aN, bV x.bR, uV x.bN, bV x.acq, bV x.rel, iV x.dep, iV x.pred, iV x.succ, iV x.skip]
def insC (x : Ins) : V := .agg x.cs
structure Ini where
 name : ByteArray
 v : Int
def Ini.cs (x : Ini) : List V := [.val (.string x.name), uV x.v]
def iniC (x : Ini) : V := .agg x.cs
structure Atm where
 th : Int
 at_ : Int
 v : Int
def Atm.cs (x : Atm) : List V := [iV x.th, iV x.at_, uV x.v]
def atmC (x : Atm) : V := .agg x.cs
structure Tst where
 locs : List Ini
 ths : List (List Ins)
 asks : List Atm
def inss (l : List Ins) : List V := l.map insC
def inis (l : List Ini) : List V := l.map iniC
def atms (l : List Atm) : List V := l.map atmC
def thrs (l : List (List Ins)) : List V := l.map fun x => .ro 13 (inss x)
def Tst.cs (t : Tst) : List V := [.ro 2 (inis t.locs), .ro 1 (thrs t.ths), .ro 3 (atms t.asks)]
theorem nl_ins (x : Ins) : NLs x.cs := by
 unfold Ins.cs
 exact .cons (.val _) (.cons (.val _) (.cons (.val _) (.cons (.val _) (.cons (.val _) (.cons (.val _) (.cons (.val _) (.cons (.val _) (.cons (.val _) (.cons (.val _) (.cons (.val _) (.cons (.val _) (.cons (.val _) .nil))))))))))))
theorem nl_insC (x : Ins) : NL (insC x) := .agg (nl_ins x)
theorem nl_atm (x : Atm) : NLs x.cs := by unfold Atm.cs; exact .cons (.val _) (.cons (.val _) (.cons (.val _) .nil))
theorem nl_ini (x : Ini) : NLs x.cs := by unfold Ini.cs; exact .cons (.val _) (.cons (.val _) .nil)
theorem nl_inss (l : List Ins) : NL (.ro 13 (inss l)) := .ro fun v hv => by
 obtain ⟨a, _, rfl⟩ := List.mem_map.1 hv
 exact nl_ins a
theorem nl_inis (l : List Ini) : NL (.ro 2 (inis l)) := .ro fun v hv => by
 obtain ⟨a, _, rfl⟩ := List.mem_map.1 hv
 exact nl_ini a
theorem nl_atms (l : List Atm) : NL (.ro 3 (atms l)) := .ro fun v hv => by
 obtain ⟨a, _, rfl⟩ := List.mem_map.1 hv
 exact nl_atm a
theorem nl_thrs (l : List (List Ins)) : NL (.ro 1 (thrs l)) := .ro fun v hv => by
 obtain ⟨a, _, rfl⟩ := List.mem_map.1 hv
 exact .cons (nl_inss a) .nil
theorem nl_tst (t : Tst) : NLs t.cs := .cons (nl_inis _) (.cons (nl_thrs _) (.cons (nl_atms _) .nil))
theorem nl_rp (t : Tst) : NL (.rp t.cs 0) := .rp (nl_tst t)
@[go_sem] theorem inss_len (l : List Ins) : (inss l).length = l.length := List.length_map ..
@[go_sem] theorem inis_len (l : List Ini) : (inis l).length = l.length := List.length_map ..
@[go_sem] theorem thrs_len (l : List (List Ins)) : (thrs l).length = l.length := List.length_map ..
@[go_sem] theorem inss_get (l : List Ins) (i : Nat) (h : i < (inss l).length) : (inss l)[i] = insC (l[i]'(by simpa [inss] using h)) := by simp [inss]
@[go_sem] theorem inis_get (l : List Ini) (i : Nat) (h : i < (inis l).length) : (inis l)[i] = iniC (l[i]'(by simpa [inis] using h)) := by simp [inis]
@[go_sem] theorem thrs_get (l : List (List Ins)) (i : Nat) (h : i < (thrs l).length) : (thrs l)[i] = .ro 13 (inss (l[i]'(by simpa [thrs] using h))) := by simp [thrs]
theorem getAt {α : Type} {l : List α} {i : Nat} (h : i < l.length) : ∃ x, l[i]? = some x ∧ l[i] = x := ⟨_, List.getElem?_eq_getElem h, rfl⟩
theorem takeAt {α : Type} {l : List α} {i : Nat} {x : α} (h : l[i]? = some x) : l.take (i + 1) = l.take i ++ [x] := by
 rw [List.take_add_one, h]; rfl
def rdB (op : Int) : Bool := decide (op = 9) || decide (op = 13) || decide (op = 11) || decide (op = 12)
def wrB (op : Int) : Bool := decide (op = 10) || decide (op = 14) || decide (op = 11) || decide (op = 12)
def memB (op : Int) : Bool := rdB op || wrB op
def setB (op : Int) : Bool := decide (op ≥ 1) && (decide (op ≤ 14) && decide (op ≠ 10))
open Go Go.Sl Go.Proofs.Tryd
theorem sets_pf (x : Ins) : Pf Tryd.prog 84 [insC x] (bV (setB x.op)) := by
 refine Pf.of_fn (.cons (nl_insC x) .nil) (.val _) ?_
 refine fn_in T_ok func84 rfl rfl ntmps84 rfl (by simp) ?_
 refine region_k T_ok (by decide) fun K hK => ?_
 simp [go_sem, insC, Ins.cs]
 refine hK _ ?_; clear hK K
 refine region_to T_ok (by decide) ⟨16, [(2, bV (setB x.op))], [], 1⟩ ?_ ?_
 ·by_cases c1 : 1 ≤ x.op
  ·by_cases c2 : x.op ≤ 14
   ·by_cases c3 : x.op = 10
    ·simp [go_sem, c1, c2, c3, insC, Ins.cs]
     refine Weaker.fz 1 0 ?_ ?_ ?_
     ·simp [go_sem, c1, c2, c3, setB]
     ·first | (simp; done) | (simp; omega)
     ·simp [go_sem, c1, c2, c3, setB]
    ·simp [go_sem, c1, c2, c3, insC, Ins.cs]
     refine Weaker.fz 1 0 ?_ ?_ ?_
     ·simp [go_sem, c1, c2, c3, setB]
     ·first | (simp; done) | (simp; omega)
     ·simp [go_sem, c1, c2, c3, setB]
   ·simp [go_sem, c1, c2, insC, Ins.cs]
    refine Weaker.fz 1 0 ?_ ?_ ?_
    ·simp [go_sem, c1, c2, setB]
    ·first | (simp; done) | (simp; omega)
    ·simp [go_sem, c1, c2, setB]
  ·simp [go_sem, c1, insC, Ins.cs]
   refine Weaker.fz 1 0 ?_ ?_ ?_
   ·simp [go_sem, c1, setB]
   ·first | (simp; done) | (simp; omega)
   ·simp [go_sem, c1, setB]
 ·skip
  refine tr_ret ⟨.inr rfl, ?_⟩
  simp [go_sem]
open Go Go.Sl
@[go_sem high] theorem part_ins1 (x : Ins) : partV false 1 x.cs 1 = iV x.rd := Eq.trans rfl rfl
@[go_sem high] theorem part_insW (x : Ins) : partV true 13 x.cs 0 = .agg x.cs := Eq.trans rfl rfl
@[go_sem high] theorem fits_ins2 (x : Ins) : (V.agg x.cs).fits 13 = true := Eq.trans rfl rfl
@[go_sem high] theorem len_ins (x : Ins) : x.cs.length = 13 := Eq.trans rfl rfl
def isBr (op : Int) : Bool := decide (op = 16) || decide (op = 17)
def zI : Ins := { op := 0, rd := 0, loc := 0, aR := false, aN := 0, bR := false, bN := 0, acq := false, rel := false, dep := 0, pred := 0, succ := 0, skip := 0 }
def passing : Tst :=
 { locs := [⟨⟨#[120]⟩, 0⟩, ⟨⟨#[121]⟩, 0⟩], ths := [[{ zI with op := 10, aN := 1 }, { zI with op := 10, loc := 1, aN := 1 }], [{ zI with op := 9, loc := 1 }, { zI with op := 9, rd := 1 }]], asks := [] }
def boolsC (f : Nat → Bool) : List V := (List.range 8).map fun r => bV (f r)
theorem boolsC_ext {f g : Nat → Bool} (h : ∀ r, r < 8 → f r = g r) : boolsC f = boolsC g := List.map_congr_left fun r hr => by rw [h r (List.mem_range.1 hr)]
@[go_sem] theorem boolsC_zero : [V.val (.bool false), .val (.bool false), .val (.bool false), .val (.bool false), .val (.bool false), .val (.bool false), .val (.bool false), .val (.bool false)] = boolsC fun _ => false := Eq.trans rfl rfl
@[go_sem high] theorem boolsC_len (f : Nat → Bool) : (boolsC f).length = 8 := Eq.trans rfl rfl
@[go_sem high] theorem boolsC_all (f : Nat → Bool) : partV true 8 (boolsC f) 0 = .agg (boolsC f) := Eq.trans rfl rfl
@[go_sem high] theorem boolsC_part (f : Nat → Bool) {r : Nat} (h : r < 8) : partV false 1 (boolsC f) r = bV (f r) := by
 simp [partV, boolsC, List.getD, List.getElem?_map, List.getElem?_range h]
@[go_sem high] theorem boolsC_put (f : Nat → Bool) {n : Nat} {b : Bool} (h : n < 8) : putPart (.agg (boolsC f)) n (bV b) = .agg (boolsC fun r => if r = n then b else f r) := by
 simp only [putPart, splice, V.cells]
 congr 1
 apply List.ext_getElem?
 intro i
 simp only [List.length_singleton]
 have hl : ((boolsC f).take n).length = n := by simp [boolsC]; omega
 by_cases h1 : i < n
 ·rw [List.getElem?_append_left (by omega), List.getElem?_take, if_pos h1]
  simp [boolsC, List.getElem?_map, List.getElem?_range (show i < 8 by omega), show i ≠ n by omega]
 ·rw [List.getElem?_append_right (by omega), hl]
  by_cases h2 : i = n
  ·subst h2
   simp [boolsC, List.getElem?_map, List.getElem?_range h]
  ·rw [List.getElem?_append_right (by simp; omega), List.getElem?_drop]
   simp only [List.length_singleton]
   rw [show n + 1 + (i - n - 1) = i by omega]
   by_cases h3 : i < 8
   ·simp [boolsC, List.getElem?_map, List.getElem?_range h3, h2]
   ·simp [boolsC, h3]
def setR (l : List Ins) (r : Nat) : Bool := l.any fun x => setB x.op && decide (x.rd = (r : Int))
theorem setR_nil : setR [] = fun _ => false := rfl
theorem setR_step {l : List Ins} {i : Nat} {x : Ins} (h : l[i]? = some x) (r : Nat) : setR (l.take (i + 1)) r = (setR (l.take i) r || (setB x.op && decide (x.rd = (r : Int)))) := by
 simp [setR, takeAt h]
def natV (l : List Nat) : List V := l.map fun n : Nat => iV (n : Int)
@[go_sem] theorem natV_len (l : List Nat) : (natV l).length = l.length := List.length_map ..
@[go_sem] theorem natV_take (l : List Nat) (n : Nat) : (natV l).take n = natV (l.take n) := (List.map_take ..).symm
theorem natV_one (n : Nat) : natV [n] = [iV n] := rfl
theorem natV_append (l m : List Nat) : natV (l ++ m) = natV l ++ natV m := List.map_append ..
theorem nl_natV (l : List Nat) : NL (.ro 1 (natV l)) := .ro fun v hv => by
 obtain ⟨a, _, rfl⟩ := List.mem_map.1 hv
 exact .cons (.val _) .nil
def upTo (f : Nat → Bool) (n : Nat) : List Nat := (List.range n).filter f
theorem upTo_yes {f : Nat → Bool} {n : Nat} (h : f n = true) : upTo f (n + 1) = upTo f n ++ [n] := by simp [upTo, List.range_succ, h]
theorem upTo_no {f : Nat → Bool} {n : Nat} (h : f n = false) : upTo f (n + 1) = upTo f n := by simp [upTo, List.range_succ, h]
theorem upTo_len (f : Nat → Bool) (n : Nat) : (upTo f n).length ≤ n := by have := List.length_filter_le f (List.range n); rw [List.length_range] at this; exact this
open Go Go.Sl Go.Proofs.Tryd
theorem Pf.seen_res' {P : Program} {f : FuncId} {args : List V} {r r' : V} (h : SeenAs r r') (p : Pf P f args r) : Pf P f args r' :=
 ⟨p.enters, fun ι O w cargs hO hv => (p.calls ι O w cargs hO hv).mono fun e w' ⟨cv, he, hr, h1⟩ => ⟨cv, he, h _ _ _ _ hr, h1⟩⟩
set_option maxRecDepth 100000 in
set_option maxHeartbeats 16000000 in
theorem passing_pf0  : Pf Tryd.prog 51 [] (.agg [.ro 2 (inis passing.locs), .ro 1 (thrs passing.ths), .val (.slice none 0 0)]) := by
 refine Pf.of_fz 3 .nil (.agg (.cons (nl_inis _) (.cons (nl_thrs _) (.cons (.val _) .nil)))) ?_
 refine fn_in T_ok func51 rfl rfl ntmps51 rfl (by simp) ?_
 refine region_k T_ok (by decide) fun K hK => ?_
 simp [go_sem]
 refine hK _ ?_; clear hK K
 refine region_k T_ok (by decide) fun K hK => ?_
 simp [go_sem]
 refine hK _ ?_; clear hK K
 refine region_k T_ok (by decide) fun K hK => ?_
 simp [go_sem]
 refine hK _ ?_; clear hK K
 refine tr_ret ⟨.inr rfl, ?_⟩
 simp [go_sem, passing, zI, inis, iniC, Ini.cs, thrs, inss, insC, Ins.cs]
theorem passing_pf : Pf Tryd.prog 51 [] (.agg passing.cs) :=
 Pf.seen_res' (seen_agg (.cons (SeenAs.refl _) (.cons (SeenAs.refl _) (.cons (seen_nil 3) .nil)))) passing_pf0
open Go Go.Sl Go.Proofs.Tryd
set_option maxHeartbeats 4000000 in
theorem regs_pf (t : Tst) (n : Nat) (l : List Ins) (hn : t.ths[n]? = some l) (hl : l.length ≤ 1000) (hr : ∀ x ∈ l, setB x.op = true → 0 ≤ x.rd ∧ x.rd < 8) : Pf Tryd.prog 58 [.rp t.cs 0, iV (n : Nat)] (.ro 1 (natV (upTo (setR l) 8))) := by
 refine Pf.of_fz 1 (.cons (nl_rp t) (.cons (.val _) .nil)) (nl_natV _) ?_
 obtain ⟨hlt, hn'⟩ := List.getElem?_eq_some_iff.1 hn
 have hltI : (n : Int) < (t.ths.length : Nat) := by omega
 have hn0 : (0 : Int) ≤ (n : Nat) := by omega
 refine fn_in T_ok func58 rfl rfl ntmps58 rfl (by simp) ?_
 refine region_k T_ok (by decide) fun K hK => ?_
 simp [go_sem]
 refine hK _ ?_; clear hK K
 refine region_k T_ok (by decide) fun K hK => ?_
 simp [go_sem]
 refine hK _ ?_; clear hK K
 refine seq_k fun K1 hK1 => ?_
 refine region_k T_ok (by decide) fun K hK => ?_
 simp [go_sem, Tst.cs, hltI, hlt, hn, hn', hn0]
 refine hK _ ?_; clear hK K
 refine tr_block ?_
 refine loop_p (α := Nat × Nat) (fun a => ⟨41, [(5, .ptr 0 0 0), (17, .ro 13 (inss l)), (18, iV (l.length : Nat)), (19, iV (a.1 : Nat))], [(0, .rows 8 [.agg (boolsC (setR (l.take a.1)))])], a.2 + 1⟩) (fun a => a.1 ≤ l.length) (fun a => l.length - a.1) (0, 0) ?_ ?_ ?_
 ·dsimp only; omega
 ·refine Weaker.fz 1 0 ?_ ?_ ?_
  ·simp [go_sem]
  ·first | (simp; done) | (simp; omega)
  ·simp [go_sem, setR_nil]
 rintro ⟨i, j⟩ hi
 dsimp only at hi ⊢
 refine region_k T_ok (by decide) fun K hK => ?_
 simp [go_sem]
 refine hK _ ?_; clear hK K
 refine seq_k fun K2 hK2 => ?_
 refine cond_k rfl (fun h => ?_) (fun h => ?_)
 ·simp at h
  have hI := h
  clear h
  have h' : i < (l).length := by omega
  obtain ⟨x, hx, hx'⟩ := getAt h'
  have hi0 : (0 : Int) ≤ (i : Nat) := by omega
  have hw : IntKind.i64.wrap ((i : Nat) + 1) = (i : Nat) + 1 := wrap_i64 (by omega) (by omega)
  refine tr_skip ?_
  refine hK2 _ ?_; try clear hK2 K2
  refine seq_k fun K3 hK3 => ?_
  refine tr_block ?_
  refine region_k T_ok (by decide) fun K hK => ?_
  simp [go_sem, hI, hx, hx', hi0, h', insC]
  refine hK _ ?_; clear hK K
  refine region_k T_ok (by decide) fun K hK => ?_
  simp [go_sem, insC]
  refine call_pf (sets_pf x) ?_
  simp [go_sem]
  refine hK _ ?_; clear hK K
  refine cond_k rfl (fun h => ?_) (fun h => ?_)
  ·have hs := h
   obtain ⟨g1, g2⟩ := hr x (List.mem_of_getElem? hx) h
   obtain ⟨m, hm⟩ := Int.eq_ofNat_of_zero_le g1
   have hm8 : m < 8 := by omega
   have hmI : (m : Int) < 8 := by omega
   have hm0 : (0 : Int) ≤ (m : Nat) := by omega
   have hm7 : m + 1 ≤ 8 := by omega
   refine region_e T_ok (by decide) fun K hK => ?_
   simp [go_sem, hm, hm8, hmI, hm0, hm7]
   refine hK _ ?_; clear hK K
   refine hK3 _ ?_; try clear hK3 K3
   refine region_e T_ok (by decide) fun K hK => ?_
   simp [go_sem, hw]
   refine hK _ ?_; clear hK K
   refine ⟨(i + 1, j + 1), ?_, ?_, ?_⟩
   ·dsimp only; omega
   ·dsimp only; omega
   ·refine Weaker.fz 1 0 ?_ ?_ ?_
    ·simp [go_sem]
    ·first | (simp; done) | (simp; omega)
    simp [go_sem]
    refine boolsC_ext fun r _ => ?_
    rw [setR_step hx, hs]
    by_cases e : r = m
    ·subst e; simp [hm]
    ·have : ¬ x.rd = (r : Int) := by omega
     simp [e, this]
  ·have hs := h
   refine tr_skip ?_
   refine hK3 _ ?_; try clear hK3 K3
   refine region_e T_ok (by decide) fun K hK => ?_
   simp [go_sem, hw]
   refine hK _ ?_; clear hK K
   refine ⟨(i + 1, j + 1), ?_, ?_, ?_⟩
   ·dsimp only; omega
   ·dsimp only; omega
   ·refine Weaker.fz 1 0 ?_ ?_ ?_
    ·simp [go_sem]
    ·first | (simp; done) | (simp; omega)
    simp [go_sem]
    refine boolsC_ext fun r _ => ?_
    rw [setR_step hx, hs]; simp
 ·simp at h
  obtain rfl : i = l.length := by omega
  rw [List.take_length]
  refine tr_exit ?_
  refine hK1 _ ?_; try clear hK1 K1
  refine region_k T_ok (by decide) fun K hK => ?_
  simp [go_sem]
  refine hK _ ?_; clear hK K
  refine seq_k fun K4 hK4 => ?_
  refine region_k T_ok (by decide) fun K hK => ?_
  simp [go_sem]
  refine hK _ ?_; clear hK K
  refine tr_block ?_
  refine Tr.weaken (Weaker.ghost 8 1 rfl) ?_
  refine loop_p (α := Nat × Nat × Nat) (fun b => ⟨41, [(8, .sl b.2.1 0 (upTo (setR l) b.1).length), (29, .agg (boolsC (setR l))), (30, iV (b.1 : Nat))], [(b.2.1, .rows 1 (natV (upTo (setR l) b.1)))], b.2.1 + b.2.2 + 1⟩) (fun b => b.1 ≤ 8) (fun b => 8 - b.1) (0, j + 1, 0) ?_ ?_ ?_
  ·dsimp only; omega
  ·refine Weaker.fz 1 0 ?_ ?_ ?_
   ·simp [go_sem, upTo]
   ·first | (simp; done) | (simp; omega)
   ·simp [go_sem, upTo, natV]
  rintro ⟨b, r, c⟩ hib
  dsimp only at hib ⊢
  refine region_k T_ok (by decide) fun K hK => ?_
  simp [go_sem]
  refine hK _ ?_; clear hK K
  refine seq_k fun K5 hK5 => ?_
  refine cond_k rfl (fun h => ?_) (fun h => ?_)
  ·simp at h
   have h' : b < 8 := by omega
   have hbI := h
   clear h
   have hb0 : (0 : Int) ≤ (b : Nat) := by omega
   have hb7 : b + 1 ≤ 8 := by omega
   have hbl := upTo_len (setR l) b
   have hwb : IntKind.i64.wrap ((b : Nat) + 1) = (b : Nat) + 1 := wrap_i64 (by omega) (by omega)
   refine tr_skip ?_
   refine hK5 _ ?_; try clear hK5 K5
   refine seq_k fun K6 hK6 => ?_
   refine tr_block ?_
   refine region_k T_ok (by decide) fun K hK => ?_
   simp [go_sem, h', hbI, hb0, hb7]
   refine hK _ ?_; clear hK K
   refine region_k T_ok (by decide) fun K hK => ?_
   simp [go_sem]
   refine hK _ ?_; clear hK K
   refine cond_k rfl (fun h => ?_) (fun h => ?_)
   ·have hb := h
    refine region_e T_ok (by decide) fun K hK => ?_
    simp [go_sem]
    refine ⟨by omega, ?_⟩
    refine hK _ ?_; clear hK K
    refine hK6 _ ?_; try clear hK6 K6
    refine region_e T_ok (by decide) fun K hK => ?_
    simp [go_sem, hwb]
    refine hK _ ?_; clear hK K
    refine ⟨(b + 1, r + c + 2, 0), ?_, ?_, ?_⟩
    ·dsimp only; omega
    ·dsimp only; omega
    ·refine Weaker.fz 1 0 ?_ ?_ ?_
     ·simp [go_sem, upTo_yes hb]
     ·first | (simp; done) | (simp; omega)
     simp [go_sem, upTo_yes hb, natV_append, natV_one]
   ·have hb := h
    refine tr_skip ?_
    refine hK6 _ ?_; try clear hK6 K6
    refine region_e T_ok (by decide) fun K hK => ?_
    simp [go_sem, hwb]
    refine hK _ ?_; clear hK K
    refine ⟨(b + 1, r, c), ?_, ?_, ?_⟩
    ·dsimp only; omega
    ·dsimp only; omega
    ·refine Weaker.fz 1 0 ?_ ?_ ?_
     ·simp [go_sem, upTo_no hb]
     ·first | (simp; done) | (simp; omega)
     simp [go_sem, upTo_no hb]
  ·simp at h
   obtain rfl : b = 8 := by omega
   refine tr_exit ?_
   refine hK4 _ ?_; try clear hK4 K4
   refine region_k T_ok (by decide) fun K hK => ?_
   simp [go_sem]
   refine hK _ ?_; clear hK K
   refine tr_ret ⟨.inr rfl, ?_⟩
   simp [go_sem]
open Go Go.Sl
open Go Go.Sl Go.Proofs.Tryd
theorem ownKnob16 : ownKnob Tryd.prog.godebug = none := by kernel_rfl
theorem laidOut16 : laidOutB Tryd.prog = true := by kernel_rfl
theorem ImpAs.to {P : Program} {t : TypeId} {α β : Type} {ok : α → Prop} {f : α → List V} {ok' : β → Prop} {f' : β → List V} (φ : α → β) (h : ImpAs P t ok f) (hok : ∀ a, ok a → ok' (φ a)) (hs : ∀ a, ok a → SeenAll (f a) (f' (φ a))) (hnl : ∀ b, NLs (f' b))
    (hone : ∀ b, (f' b).all V.one = true) (hlen : ∀ b, (f' b).length = P.cellsOf t) : ImpAs P t ok' f' where
  nl := hnl
  one b _ := hone b
  len b _ := hlen b
  imp hr := by
    obtain ⟨a, ha, hv⟩ := h.imp hr
    exact ⟨φ a, hok a ha, (hs a ha).rels hv⟩
theorem imp_list {P : Program} {t e : TypeId} {α : Type} {ok : α → Prop} {f : α → List V} {sz : Nat} (el : α → V) (ht : P.underlying t = some (.slice e)) (hc : P.cellsOf t = 1) (hsz : P.cellsOf e = sz) (hpos : 0 < sz) (hel : ∀ a, (el a).cells = f a) (hnl : ∀ a, NLs (el a).cells)
    (h : ImpAs P e ok f) : ImpAs P t (fun l : List α => l.length ≤ maxLen ∧ ∀ a ∈ l, ok a) fun l => [V.ro sz (l.map el)] :=
  ImpAs.to (fun o : Option (List α) => o.getD []) (imp_slice el ht hc hsz hpos (fun a _ => hel a) hnl h)
    (fun o ho => by cases o with | none => exact ⟨Nat.zero_le _, fun a ha => absurd ha (List.not_mem_nil)⟩ | some l => exact ho l rfl)
    (fun o ho => .cons (seen_slice sz el o) .nil)
    (fun l => .cons (.ro fun v hv => by obtain ⟨a, _, rfl⟩ := List.mem_map.1 hv; exact hnl a) .nil) (fun l => rfl) (fun l => hc.symm)
theorem iI : ImpAs Tryd.prog 3 (fun n : Int => (Lit.int .i64 n).wf = true) fun n => [.val (.int .i64 n)] := imp_int Tryd.underlying3 (by kernel_rfl)
theorem iU : ImpAs Tryd.prog 23 (fun n : Int => (Lit.int .u64 n).wf = true) fun n => [.val (.int .u64 n)] := imp_int Tryd.underlying23 (by kernel_rfl)
end Go.Proofs.YtjhnpebgfjefoaaDoor
namespace Go.Sl
variable [Md]
section
variable {F : Nat → Prop} {ι ι' : Names} {O : Nat → Prop} {H H' G : Heap} {P : Program}
theorem View.drop (v : V) : ∀ (G : Heap), View (G ++ H) v H v
 | [] => View.refl _ _
 | p :: r => by
  have h := View.del (H := (p :: r) ++ H) p.1 v
  simp only [List.cons_append, Sl.del, if_true] at h
  exact h.trans (View.drop v r)
omit [Md] in
theorem perm_keep (hN : (H.map Prod.fst).Nodup) (hn : (G.map Prod.fst).Nodup) (hG : ∀ p ∈ G, look p.1 H = some p.2) : H.Perm (G ++ H.filter fun p => !decide (p.1 ∈ G.map Prod.fst)) := by
 have hnd : H.Nodup := nodup_of_map _ hN
 have hnd' : G.Nodup := nodup_of_map _ hn
 have p1 : (H.filter fun p => decide (p.1 ∈ G.map Prod.fst)).Perm G := by
  rw [List.perm_ext_iff_of_nodup (hnd.filter _) hnd']
  intro p
  simp only [List.mem_filter, decide_eq_true_eq]
  constructor
  ·rintro ⟨h1, h2⟩
   obtain ⟨q, hq, he⟩ := List.mem_map.1 h2
   have e1 := hG q hq
   have e2 := look_of_mem (n := p.1) (b := p.2) hN h1
   rw [← he, e1] at e2
   have e3 := Option.some.inj e2
   have : q = p := Prod.ext he e3
   exact this ▸ hq
  ·intro h
   exact ⟨look_mem (hG p h), List.mem_map_of_mem h⟩
 exact (List.filter_append_perm (fun p => decide (p.1 ∈ G.map Prod.fst)) H).symm.trans (p1.append_right _)
theorem View.sub {v : V} (hn : (G.map Prod.fst).Nodup) (hG : ∀ p ∈ G, look p.1 H = some p.2) : View H v G v := fun F ι w cv R hv =>
 (((View.perm (perm_keep R.names hn hG) v).trans (View.perm List.perm_append_comm v)).trans (View.drop v _)) F ι w cv R hv
theorem Fn.keep {f : FuncId} {args : List V} {k : Nat} {r : V} (hn : (G.map Prod.fst).Nodup) (h : Fn P f args H k fun v H' _ => v = r ∧ ∀ p ∈ G, look p.1 H' = some p.2) : Fn P f args H k fun v H' _ => v = r ∧ H' = G :=
 Fn.view (h.mono fun v H' k' e => ⟨G, v, View.sub hn e.2, e.1, rfl⟩)
def upds (G H : Heap) : Heap := H.map fun p => (p.1, (look p.1 G).getD p.2)
omit [Md] in
theorem look_no {G : Heap} {n : Nat} (h : n ∉ G.map Prod.fst) : look n G = none := look_none.2 h
omit [Md] in
theorem upds_perm {Hf : Heap} (hN : (H.map Prod.fst).Nodup) (he : G.map Prod.fst = Hf.map Prod.fst) (hn : (Hf.map Prod.fst).Nodup) (hl : ∀ p ∈ Hf, look p.1 H = some p.2) : (G ++ H.filter fun p => !decide (p.1 ∈ Hf.map Prod.fst)).Perm (upds G H) := by
 have hnG : (G.map Prod.fst).Nodup := by rw [he]; exact hn
 have hU : ((upds G H).map Prod.fst) = H.map Prod.fst := by simp [upds, Function.comp_def]
 have hUn : (upds G H).Nodup := nodup_of_map Prod.fst (by rw [hU]; exact hN)
 have hL : (G ++ H.filter fun p => !decide (p.1 ∈ Hf.map Prod.fst)).Nodup := by
  rw [List.nodup_append]
  refine ⟨nodup_of_map _ hnG, (nodup_of_map _ hN).filter _, fun a ha b hb e => ?_⟩
  subst e
  simp only [List.mem_filter, Bool.not_eq_true', decide_eq_false_iff_not] at hb
  exact hb.2 (by rw [← he]; exact List.mem_map_of_mem ha)
 rw [List.perm_ext_iff_of_nodup hL hUn]
 intro p
 simp only [List.mem_append, List.mem_filter, Bool.not_eq_true', decide_eq_false_iff_not, upds, List.mem_map]
 constructor
 ·rintro (h | ⟨h1, h2⟩)
  ·have : p.1 ∈ Hf.map Prod.fst := by rw [← he]; exact List.mem_map_of_mem h
   obtain ⟨q, hq, e⟩ := List.mem_map.1 this
   have h3 := look_mem (hl q hq)
   refine ⟨q, h3, ?_⟩
   rw [e, look_of_mem hnG (n := p.1) (b := p.2) h]
   rfl
  ·refine ⟨p, h1, ?_⟩
   rw [look_no (by rw [he]; simpa using h2)]; rfl
 ·rintro ⟨q, hq, e⟩
  subst e
  by_cases h : q.1 ∈ Hf.map Prod.fst
  ·left
   have h' : q.1 ∈ G.map Prod.fst := by rw [he]; exact h
   obtain ⟨g, hg, e⟩ := List.mem_map.1 h'
   have := look_of_mem hnG (n := g.1) (b := g.2) hg
   rw [e] at this
   rw [this]
   simp only [Option.getD_some]
   have : (q.1, g.2) = g := Prod.ext e.symm rfl
   rw [this]; exact hg
  ·right
   rw [look_no (by rw [he]; exact h)]
   exact ⟨hq, by simpa using h⟩
theorem call_own {f : FuncId} {args : List V} {k : Nat} {K : V → Heap → Nat → Prop} {Hf : Heap} {r : V} (h : Fn P f args Hf k fun v H' _ => v = r ∧ H' = G) (he : G.map Prod.fst = Hf.map Prod.fst) (hn : (Hf.map Prod.fst).Nodup) (hl : ∀ p ∈ Hf, look p.1 H = some p.2)
    (hK : ∀ k', k ≤ k' → K r (upds G H) k') : @callF _ P f args H k ⟨K⟩ :=
  show Fn P f args H k K from ⟨h.enters, fun F ι w cargs h1 h2 h3 => by
    have p := perm_keep h2.names hn hl
    have q := upds_perm h2.names he hn hl
    refine Fn.calls (Fn.view ((h.frame p (K := fun v H' k' => k ≤ k' ∧ v = r ∧ H' = G ++ H.filter fun p => !decide (p.1 ∈ Hf.map Prod.fst)) fun v H' k' hk e => ⟨hk, e.1, by rw [e.2]⟩).mono fun v H' k' e => ⟨upds G H, v, ?_, ?_⟩)) F ι w cargs h1 h2 h3
    · rw [e.2.2]; exact View.perm q v
    · rw [e.2.1]; exact hK k' e.1⟩
end
theorem seq_ex {P : Program} {x y : Code} {Q : Exit → St → Prop} {σ : St} {α : Type} (S : α → St) (I : α → Prop) (h : Tr P x (Then (fun σ => ∃ a, I a ∧ Weaker σ (S a)) Q) σ) (hy : ∀ a, I a → Tr P y Q (S a)) : Tr P (.seq x y) Q σ :=
 tr_seq (h.mono fun e σ'' hq => by
  cases e with
  | normal => obtain ⟨a, ha, hw⟩ := hq; exact Tr.weaken hw (hy a ha)
  | _ => exact hq)
section
variable {x y : Int} {K : V → Prop}
def o64 (x y : Int) : Int := IntKind.u64.wrap ((BitVec.ofInt 64 x ||| BitVec.ofInt 64 y).toNat : Nat)
def n64 (x y : Int) : Int := IntKind.u64.wrap ((BitVec.ofInt 64 x &&& BitVec.ofInt 64 y).toNat : Nat)
def x64 (x y : Int) : Int := IntKind.u64.wrap ((BitVec.ofInt 64 x ^^^ BitVec.ofInt 64 y).toNat : Nat)
def sl64 (x y : Int) : Int := IntKind.u64.wrap (x * 2 ^ (min y.toNat 64))
def sr64 (x y : Int) : Int := x.fdiv (2 ^ (min y.toNat 64))
omit [Md] in
theorem bi_or64g : binIV .or .u64 x y K = K (.val (.int .u64 (o64 x y))) := Eq.trans rfl rfl
omit [Md] in
theorem bi_and64g : binIV .and .u64 x y K = K (.val (.int .u64 (n64 x y))) := Eq.trans rfl rfl
omit [Md] in
theorem bi_xor64g : binIV .xor .u64 x y K = K (.val (.int .u64 (x64 x y))) := Eq.trans rfl rfl
omit [Md] in
theorem sh_l64g : shIV .shl .u64 x y K = (0 ≤ y ∧ K (.val (.int .u64 (sl64 x y)))) := Eq.trans rfl rfl
omit [Md] in
theorem sh_r64g : shIV .shr .u64 x y K = (0 ≤ y ∧ K (.val (.int .u64 (sr64 x y)))) := Eq.trans rfl rfl
end
attribute [go_sem ↓ high] bi_or64g bi_and64g bi_xor64g sh_l64g sh_r64g
attribute [go_sem] upds
end Go.Sl
namespace Go.Sl
variable [Md]
section
variable {F : Nat → Prop} {ι ι' : Names} {H H' : Heap} {P : Program}
theorem Fn.pre {f : FuncId} {args args' : List V} {k : Nat} {K : V → Heap → Nat → Prop}
    (hw : ∀ F ι w cargs, VRels ι (Own F ι H) w args cargs → Rep F ι H w → VRels ι (Own F ι H') w args' cargs ∧ Rep F ι H' w ∧ Kept ι H w ι H' w ∧ ∀ n, n ∈ H'.map Prod.fst → n ∈ H.map Prod.fst)
    (h : Fn P f args' H' k K) : Fn P f args H k K :=
  ⟨h.enters, fun F ι w cargs h1 h2 h3 => by
    obtain ⟨a1, a2, a3, a4⟩ := hw F ι w cargs h1 h2
    refine (h.calls F ι w cargs a1 a2 h3).mono ?_
    rintro e w' ⟨ι', v, cv, H2, k', he, hr, hO⟩
    exact ⟨ι', v, cv, H2, k', he, hr, ⟨⟨a3.trans hO.ext.kept, hO.ext.le, hO.ext.same, fun n hn => (hO.ext.dom n hn).imp (a4 n) id⟩, hO.rep, hO.fresh, hO.val⟩⟩⟩
theorem frz_pre (d dh : Nat) {args args' : List V} (ha : args.map (frz (H'.map Prod.fst) H d) = args') (hn : (H'.map Prod.fst).Nodup) (hH : ∀ p ∈ H', ∃ B, look p.1 H = some B ∧ frzB (H'.map Prod.fst) H dh B = p.2)
    (F : Nat → Prop) (ι : Names) (w : World) (cargs : List Value) (hv : VRels ι (Own F ι H) w args cargs) (R : Rep F ι H w) : VRels ι (Own F ι H') w args' cargs ∧ Rep F ι H' w ∧ Kept ι H w ι H' w ∧ ∀ n, n ∈ H'.map Prod.fst → n ∈ H.map Prod.fst := by
  have L : Less ι (H'.map Prod.fst) H H' := ⟨fun n B hm => ⟨List.mem_map_of_mem (f := Prod.fst) hm, by
    obtain ⟨C, hC, _⟩ := hH _ hm
    exact ⟨C, look_mem hC⟩⟩⟩
  have hno : ∀ b, ¬ OwnH ι H b → ¬ OwnH ι H' b := fun b hb ⟨n, B, l, hm, hl, hg, he⟩ => by
    obtain ⟨C, hC, _⟩ := hH _ hm
    exact hb ⟨n, C, l, look_mem hC, hl, hg, he⟩
  have K : Kept ι H w ι H' w := ⟨fun _ _ h => h, rfl, Tp.refl _, rfl, Nat.le_refl _, fun _ _ _ => rfl, fun b _ h => Classical.byContradiction fun hc => hno b hc h⟩
  refine ⟨?_, ⟨R.frame, hn, fun n B hm => ?_, fun n B m C l l' h1 h2 => ?_⟩, K, fun n h => ?_⟩
  · rw [← ha]; exact hv.mapF fun v x h => frz_ok L R d v x h
  · obtain ⟨C, hC, hB⟩ := hH _ hm
    obtain ⟨l, hl, hr, hg⟩ := R.own n C (look_mem hC)
    refine ⟨l, hl, ?_, hg⟩
    have := frzB_ok L R dh hr
    rw [hB] at this; exact this
  · obtain ⟨B', hB', _⟩ := hH _ h1
    obtain ⟨C', hC', _⟩ := hH _ h2
    exact R.apart n B' m C' l l' (look_mem hB') (look_mem hC')
  · obtain ⟨p, hp, rfl⟩ := List.mem_map.1 h
    obtain ⟨C, hC, _⟩ := hH _ hp
    exact List.mem_map.2 ⟨(p.1, C), look_mem hC, rfl⟩
theorem call_fz {f : FuncId} {args : List V} {k : Nat} {K : V → Heap → Nat → Prop} {r : V} (H' : Heap) (args' : List V) (d dh : Nat) (h : Pf P f args' r) (ha : args.map (frz (H'.map Prod.fst) H d) = args') (hn : (H'.map Prod.fst).Nodup) (hH : ∀ p ∈ H', ∃ B, look p.1 H = some B ∧ frzB (H'.map Prod.fst) H dh B = p.2)
    (hK : K r H' k) : @callF _ P f args H k ⟨K⟩ := Fn.pre (frz_pre d dh ha hn hH) (h.fn hK)
theorem Weaker.seen {N k : Nat} {t t' : List (Nat × V)} {H : Heap} (h : ∀ p ∈ t', SeenAs (Sl.get t p.1) p.2) : Weaker ⟨N, t, H, k⟩ ⟨N, t', H, k⟩ :=
 ⟨fun F ι a w hh => ⟨ι, ⟨hh.defers, hh.size, fun i => by
  rcases get_mem t' i with e | hm
  ·simp only []; rw [e]; exact .any _
  ·exact h _ hm _ _ _ _ (hh.tmps i), hh.rep, hh.fresh⟩, Ext.refl _ _ _ _ _⟩⟩
omit [Md] in
theorem seen_all {t : List (Nat × V)} : ∀ {t' : List (Nat × V)}, SeenAll (t'.map fun p => Sl.get t p.1) (t'.map Prod.snd) → ∀ p ∈ t', SeenAs (Sl.get t p.1) p.2
 | [], _, p, hp => absurd hp (List.not_mem_nil)
 | q :: r, .cons h hs, p, hp => by
  rcases List.mem_cons.1 hp with rfl | hp
  ·exact h
  ·exact seen_all hs p hp
end
section
variable {F : Nat → Prop} {ι ι' : Names} {O : Nat → Prop} {H H' : Heap} {σ σ' : St} {a a' : Act} {w w' : World} {P : Program} {T : Tab} {Q : Exit → St → Prop}
theorem vcL_cut (hT : TabOk P T) (ops : List Oper) (l l2 : List Oper) (σm : St) (K : St → Prop) (h2 : TrL P ops.toArray l2 K σm) : ∀ (σ : St), vcL T P ops σ.N l (fun σ => Weaker σ σm) σ.t σ.H σ.k → (∀ o ∈ ops, dstLt o.dst σ.N) → TrL P ops.toArray (l ++ l2) K σ := by
 induction l with
 | nil =>
  intro σ h _ F ι a w hh Q hQ
  obtain ⟨ι', hh', hx⟩ := h.h F ι a w hh
  exact h2 F ι' a w hh' Q fun ι2 σ2 a2 w2 hK2 hh2 hx2 => hQ ι2 σ2 a2 w2 hK2 hh2 (hx.trans hx2)
 | cons o rest ih =>
  intro σ h hops F ι a w hh Q hQ
  simp only [vcL] at h
  obtain ⟨hd, hg⟩ := h
  have yes : opV T P σ.t σ.H σ.k o.op (fun v H' k' => vcL T P ops σ.N rest (fun σ => Weaker σ σm) (setT σ.t o.dst v) H' k') → o.wp P a w (wpList P ops.toArray Q (rest ++ l2)) Q := fun h => by
   refine opV_sound hT trivial (fun _ => rfl) h F ι a w hh _ Q ?_
   intro ι' v cv H' k' w' hk hO
   have hh' := hh.step hO (dst := o.dst) (fun d hd' => by rw [hd'] at hd; exact hd)
   exact ih ⟨σ.N, setT σ.t o.dst v, H', k'⟩ hk hops F ι' _ w' hh' Q fun ι'' σ'' a'' w'' hK hh'' hx => hQ ι'' σ'' a'' w'' hK hh'' (hO.ext.trans hx)
  have no : vcL T P ops σ.N rest (fun σ => Weaker σ σm) (setT σ.t o.dst (.tup [])) σ.H σ.k → wpList P ops.toArray Q (rest ++ l2) (a.put o.dst undef) w := fun h =>
   ih ⟨σ.N, setT σ.t o.dst (.tup []), σ.H, σ.k⟩ h hops F ι _ w (hh.skipped hd) Q hQ
  have hg := guardO_of hg
  unfold guardO at hg
  cases hgd : o.guard with
  | none =>
   rw [hgd] at hg
   simp only [List.cons_append, wpList]
   rw [if_pos (by simp [Region.wanted, hgd])]
   exact .inl (yes hg)
  | some g =>
   obtain ⟨j, want⟩ := g
   rw [hgd] at hg
   simp only at hg
   cases hj : (ops[j]?).bind (·.dst) with
   | none => rw [hj] at hg; exact hg.elim
   | some d =>
    rw [hj] at hg
    simp only at hg
    have hdN : d < σ.N := by
     obtain ⟨oj, hoj, hdj⟩ := Option.bind_eq_some_iff.1 hj
     have := hops oj (List.mem_of_getElem? hoj)
     rw [hdj] at this; exact this
    obtain ⟨hy1, hy2⟩ := hh.yields hdN
    have hyl : ∀ b, a.tmps[d]? = some (.bool b) → yielded ops.toArray a.tmps j = some b := by
     intro b hb
     unfold yielded
     have : ((ops.toArray[j]?).bind (·.dst)) = some d := by simpa using hj
     rw [this]; simp [hb]
    simp only [List.cons_append, wpList]
    split at hg
    ·rename_i b hb
     have hyb := hyl b (hy1 b hb)
     cases want <;> cases b <;> simp only [Region.wanted, hgd, hyb, if_true, if_false, Bool.false_eq_true] at hg ⊢
     ·rw [if_pos (by simp)]; exact .inl (yes (hg.1 trivial))
     ·rw [if_neg (by simp)]; exact no (hg.2 trivial)
     ·rw [if_neg (by simp)]; exact no (hg.2 trivial)
     ·rw [if_pos (by simp)]; exact .inl (yes (hg.1 trivial))
    ·rename_i hb
     have ht := hy2 hb
     have hyn : yielded ops.toArray a.tmps j = none := by
      unfold yielded
      have : ((ops.toArray[j]?).bind (·.dst)) = some d := by simpa using hj
      rw [this]; simp [ht]
     rw [if_neg (by simp [Region.wanted, hgd, hyn])]
     exact no hg
    ·exact hg.elim
theorem reg_start {id : Nat} {l : List Oper} {y : Code} (h : TrL P l.toArray l (fun σ' => Tr P y Q σ') σ) : Tr P (.seq (.region id l.toArray false) y) Q σ :=
 tr_seq fun F ι a w hh => wp_region_lit (h F ι a w hh _ fun ι' σ' _ _ hK hh' hx => ⟨ι', σ', hK, hh', hx⟩)
theorem reg_cut (hT : TabOk P T) {l l2 : List Oper} {N k : Nat} {t : List (Nat × V)} {H : Heap} {K : St → Prop} (n : Nat) (t' : List (Nat × V)) (H' : Heap) (k' : Nat) (hN : dstsLt l N = true)
    (h1 : vcL T P l N (l2.take n) (fun σ => Weaker σ ⟨N, t', H', k'⟩) t H k) (h2 : TrL P l.toArray (l2.drop n) K ⟨N, t', H', k'⟩) : TrL P l.toArray l2 K ⟨N, t, H, k⟩ := by
  have e := vcL_cut hT l (l2.take n) (l2.drop n) ⟨N, t', H', k'⟩ K h2 ⟨N, t, H, k⟩ h1 (dstsLt_spec hN)
  rwa [List.take_append_drop] at e
theorem reg_end (hT : TabOk P T) {l l2 : List Oper} {y : Code} {N k : Nat} {t : List (Nat × V)} {H : Heap} (hN : dstsLt l N = true) (h : ∀ K : St → Prop, (∀ σ', Tr P y Q σ' → K σ') → vcL T P l N l2 K t H k) : TrL P l.toArray l2 (fun σ' => Tr P y Q σ') ⟨N, t, H, k⟩ :=
 vcL_sound hT l l2 _ ⟨N, t, H, k⟩ (h _ fun _ h => h) (dstsLt_spec hN)
end
end Go.Sl
namespace Go.Sl
variable [Md]
section
variable {F : Nat → Prop} {ι ι' : Names} {O : Nat → Prop} {H H' : Heap} {σ σ' : St} {a a' : Act} {w w' : World} {P : Program} {T : Tab} {Q : Exit → St → Prop}
theorem trL_op {ops : Array Oper} {o : Oper} {l : List Oper} {K : St → Prop} (hg : o.guard = none) (hd : dstLt o.dst σ.N) (h : OpT All P o σ fun v H k => TrL P ops l K ⟨σ.N, setT σ.t o.dst v, H, k⟩) : TrL P ops (o :: l) K σ := by
 intro F ι a w hh Q hQ
 simp only [wpList]
 rw [if_pos (by simp [Region.wanted, hg])]
 refine .inl (h F ι a w hh _ Q ?_)
 intro ι' v cv H' k' w' hk hO
 have hh' := hh.step hO (dst := o.dst) (fun d hd' => by rw [hd'] at hd; exact hd)
 exact hk F ι' _ w' hh' Q fun ι'' σ'' a'' w'' hK hh'' hx => hQ ι'' σ'' a'' w'' hK hh'' (hO.ext.trans hx)
theorem reg_next {ops : Array Oper} {o : Oper} {l : List Oper} {K : St → Prop} {N k d it : Nat} {t : List (Nat × V)} (ho : o.op = .next (.tmp it) false) (hg : o.guard = none) (hdst : o.dst = some d) (hd : d < N)
    (r m n : Nat) (done : List Nat) (es : List (V × V)) (hx : Sl.get t it = .ptr r 0 0) (hr : look r H = some (.iter m done n)) (hm : look m H = some (.map es)) (hn : es.length = n)
    (h0 : (∀ i, i < n → i ∈ done) → TrL P ops l K ⟨N, (d, .tup [.val (.bool false)]) :: t, H, k⟩)
    (h1 : ∀ i p, es[i]? = some p → i ∉ done → TrL P ops l K ⟨N, (d, .tup [.val (.bool true), p.1, p.2]) :: t, put r (.iter m (done ++ [i]) n) H, k⟩) : TrL P ops (o :: l) K ⟨N, t, H, k⟩ := by
  refine trL_op hg (by rw [hdst]; exact hd) (op_next (.tmp it) ho hx hr hm hn (fun h => ?_) fun i p hp hi => ?_)
  · rw [hdst]; exact h0 h
  · rw [hdst]; exact h1 i p hp hi
end
end Go.Sl
namespace Go.Sl
open Go.Proofs (CmpLays SWK)
open Go.Sort (HoldsK)
theorem enters_other {P : Program} {f : FuncId} (h : Enters P f) : Go.Proofs.Enters P f := by
 obtain ⟨fn, hf, hn, hb⟩ := h
 cases hc : fn.body with
 | none => rw [hc] at hb; cases hb
 | some c => exact Go.Proofs.enters_of hf hn hc
theorem vrels_val {ι : Names} {O : Nat → Prop} {w : World} {vs : List Value} (h : ∀ v ∈ vs, v.oneCell' = true) : VRels ι O w (vs.map .val) vs := by
 induction vs with
 | nil => exact .nil
 | cons v vs ih => exact .cons (.val _ (h v (.head _))) (ih fun v hv => h v (.tail _ hv))
theorem vrels_val_eq {ι : Names} {O : Nat → Prop} {w : World} : ∀ {vs xs : List Value}, VRels ι O w (vs.map .val) xs → xs = vs
 | [], _, .nil => rfl
 | v :: vs, _, .cons h hs => by cases h; rw [vrels_val_eq hs]
def rowOf {α : Type} (enc : α → List Value) (x : α) : V := .agg ((enc x).map .val)
section
variable {α : Type} [Inhabited α] {enc : α → List Value} {K : Nat}
omit [Inhabited α] in
theorem rows_cells (l : List α) : (l.map (rowOf enc)).flatMap V.cells = (l.flatMap enc).map .val := by
 induction l with
 | nil => rfl
 | cons x l ih => simp only [List.map_cons, List.flatMap_cons, List.map_append, ih]; rfl
omit [Inhabited α] in
theorem flat_len (hk : ∀ x, (enc x).length = K) (l : List α) : (l.flatMap enc).length = l.length * K := by
 induction l with
 | nil => simp
 | cons x l ih => simp [ih, hk, Nat.add_mul, Nat.add_comm]
theorem flat_get (hk : ∀ x, (enc x).length = K) : ∀ (l : List α) (j : Nat), j < l.length * K → (l.flatMap enc)[j]? = some ((enc (l.toArray[j / K]!))[j % K]!)
 | [], j, h => by simp at h
 | x :: l, j, h => by
  have hK : 0 < K := Nat.pos_of_ne_zero fun e => by subst e; simp at h
  simp only [List.flatMap_cons]
  by_cases hj : j < K
  ·rw [List.getElem?_append_left (by rw [hk]; exact hj), Nat.div_eq_of_lt hj, Nat.mod_eq_of_lt hj]
   simp [hk, hj]
  ·rw [List.getElem?_append_right (by rw [hk]; omega), hk]
   have h' : j - K < l.length * K := by simp only [List.length_cons, Nat.add_mul, Nat.one_mul] at h; omega
   rw [flat_get hk l (j - K) h']
   have e1 : j / K = (j - K) / K + 1 := by rw [Nat.div_eq_sub_div hK (by omega)]
   have e2 : j % K = (j - K) % K := by rw [Nat.mod_eq_sub_mod (by omega)]
   rw [e1, e2]
   simp
theorem flatK_list (hk : ∀ x, (enc x).length = K) (l : List α) : (Go.Sort.flatK enc K l.toArray).toList = l.flatMap enc := by
 apply List.ext_getElem?
 intro j
 by_cases hj : j < l.length * K
 ·rw [flat_get hk l j hj]
  have hs : j < (Go.Sort.flatK enc K l.toArray).size := by simpa using hj
  rw [List.getElem?_eq_getElem (by simpa using hs), Array.getElem_toList, ← getElem!_pos _ j hs, Go.Sort.get_flatK _ _ _ _ (by simpa using hj)]
 ·rw [List.getElem?_eq_none (by simp; omega), List.getElem?_eq_none (by rw [flat_len hk]; omega)]
theorem putCells_list (off : Nat) (d : Array Value) (c : Array Value) (h : off + d.size ≤ c.size) : ((Go.Sort.putCells id off d c).toList.drop off).take d.size = d.toList := by
 apply List.ext_getElem?
 intro j
 by_cases hj : j < d.size
 ·rw [List.getElem?_take_of_lt hj, List.getElem?_drop, Array.getElem?_toList, Go.Sort.putCells, Array.getElem?_mapIdx, Array.getElem?_eq_getElem (by omega), Option.map_some, if_pos ⟨by omega, by omega⟩,
   show off + j - off = j by omega, getElem!_pos d j hj, Array.getElem?_toList, Array.getElem?_eq_getElem hj]
  rfl
 ·rw [List.getElem?_eq_none (by simp; omega), List.getElem?_eq_none (by simp; omega)]
theorem pdq_fn {P : Program} {ρ : Go.Shelf.Ren} (L : Go.Proofs.SlLaysF0.n14 P ρ) (aE : ∀ w, (isAgg (ρ.t 24)).run P w = .ok true w) (zE : ∀ w, (Go.sizeOf (ρ.t 24)).run P w = .ok K w) (hk : ∀ x, (enc x).length = K) (h1 : ∀ x, ∀ v ∈ enc x, v.oneCell' = true)
    (cf : α → α → Int) (hO : Go.Sort.SWO (Go.Proofs.ltOf cf)) (g : Nat) (hc : ∀ x y, Pf P g [rowOf enc x, rowOf enc y] (.val (.int .i64 (cf x y)))) (r k : Nat) (l : List α) (hl0 : l ≠ []) (hl : l.length < 4611686018427387904) (lim : Nat) (hlim : lim < 4611686018427387904) :
    Fn P (ρ.f 14) [.sl r 0 l.length, .val (.int .i64 0), .val (.int .i64 (l.length : Nat)), .val (.int .i64 (lim : Nat)), .fn (.func g) [] []] [(r, .rows K (l.map (rowOf enc)))] k
      fun v H' _ => v = .tup [] ∧ ∃ l' : List α, l'.Perm l ∧ (l'.Pairwise fun a b => Go.Proofs.ltOf cf b a = false) ∧ H' = [(r, .rows K (l'.map (rowOf enc)))] := by
  obtain ⟨nm14, hnm14, F14⟩ := L.f14
  refine ⟨⟨_, F14, hnm14, rfl⟩, fun F ι w cargs hv R hf => ?_⟩
  obtain ⟨lo, hlo, ⟨hsz, hmp, hfit, hcells⟩, hin⟩ := R.own r _ (.head _)
  generalize hn : l.length = n at hv
  rcases hv with _ | ⟨v0, _ | ⟨v1, _ | ⟨v2, _ | ⟨v3, _ | ⟨v4, _ | _⟩⟩⟩⟩⟩
  cases v1; cases v2; cases v3
  cases v4 with | fn q1 q2 => ?_
  cases q1; cases q2
  have hn0 : n ≠ 0 := fun e => hl0 (List.eq_nil_of_length_eq_zero (hn.trans e))
  cases v0 with
  | sl0 => exact absurd rfl hn0
  | sl e1 hg hm ho h0 hle hcp hs => ?_
  rename_i off cap l1
  obtain rfl : lo = l1 := by rw [hlo] at e1; exact Option.some.inj e1
  rcases hcells with ⟨hgh, _⟩ | ⟨_, c, e, hw, hcs, hoc, hrel⟩
  · rw [hg] at hgh; cases hgh
  simp only [Nat.zero_mul, Nat.add_zero] at ho
  subst ho
  rw [rows_cells] at hrel
  have hflat := vrels_val_eq hrel
  rw [List.length_map] at hflat hoc
  rw [hsz] at hs
  have hd : l.toArray.size = n := by simpa using hn
  obtain ⟨hblk, hnF⟩ := hin hg
  have hH : HoldsK enc K w lo.b lo.o l.toArray := by
    intro j hj
    have hj' : j < l.length * K := by simpa using hj
    have hlt : lo.o + j < c.size := by omega
    refine ⟨?_, by simp [World.frozen?, hw]⟩
    have : c[lo.o + j]? = (l.flatMap enc)[j]? := by
      rw [← hflat, List.getElem?_take_of_lt hj', List.getElem?_drop, Array.getElem?_toList]
    simp only [World.cell?, hw, Option.isSome_none]
    rw [if_neg (by simp), this, flat_get hk l j hj', Go.Sort.get_flatK _ _ _ _ (by simpa using hj')]
    rfl
  have hcmp : CmpLays P g #[] enc K cf lo.b lo.o l.toArray.size w := by
    intro m os dk _ x y
    have := (hc x y).calls (fun _ => none) (fun _ => False) (Go.Proofs.sortWorldK enc K w lo.b lo.o m dk os) [.agg (enc x).toArray, .agg (enc y).toArray] (fun _ h => h.elim) (.cons (.agg (vrels_val (h1 x))) (.cons (.agg (vrels_val (h1 y))) .nil))
    refine (show Calls P g (#[.agg (enc x).toArray, .agg (enc y).toArray] ++ #[]) _ _ from this).mono ?_
    rintro e' w' ⟨cv, he, hv, ho', ht, hu, hs', hb⟩
    cases hv
    refine ⟨he, w'.drawn - (Go.Proofs.sortWorldK enc K w lo.b lo.o m dk os).drawn, w'.heap.extract (Go.Proofs.sortWorldK enc K w lo.b lo.o m dk os).heap.size w'.heap.size, ?_⟩
    generalize hW : Go.Proofs.sortWorldK enc K w lo.b lo.o m dk os = W at ho' ht hu hs' hb ⊢
    obtain ⟨ht1, ht2⟩ := ht; replace ht2 := ht2 trivial
    have hheap : w'.heap = W.heap ++ w'.heap.extract W.heap.size w'.heap.size := by
      apply Array.ext_getElem?
      intro i
      by_cases hi : i < W.heap.size
      · rw [Array.getElem?_append_left hi, hb i hi]
      · rw [Array.getElem?_append_right (by omega)]
        by_cases hi2 : i < w'.heap.size
        · rw [Array.getElem?_extract]
          rw [if_pos (by omega), show W.heap.size + (i - W.heap.size) = i by omega]
        · rw [Array.getElem?_eq_none (by omega), Array.getElem?_eq_none (by simp; omega)]
    have hdr : w'.drawn = W.drawn + (w'.drawn - W.drawn) := by omega
    cases w'; cases W
    simp only [Go.Sort.grow, World.drewN] at *
    subst ho' ht1 hu
    rw [← hheap, ← hdr]
  have main := Go.Proofs.AnyQ.pdqsortCmpFunc_all L K aE zE enc cf g #[] hO lo.b lo.o cap l.toArray w (enters_other (hc default default).enters) hcmp ⟨hk, h1, hH, hblk⟩ (n + 1) 0 n lim l.toArray w (by omega) rfl (SWK.start hH) (Nat.zero_le _) (by rw [hd]; exact Nat.le_refl _) (by rw [hd]; omega) hlim (.inl rfl)
  rw [hd] at main
  refine (show Calls P (ρ.f 14) _ w _ from main).mono ?_
  rintro e' w' ⟨he, m, os, hw'⟩
  obtain ⟨hp, hsd⟩ := Go.Sort.pdq_sorts (Go.Proofs.ltOf cf) hO l.toArray 0 l.toArray.size lim true true (Nat.zero_le _) (Nat.le_refl _) (.inl rfl)
  rw [← hd] at hw'
  generalize Go.Sort.pdq (Go.Proofs.ltOf cf) l.toArray 0 l.toArray.size lim true true = d' at hp hsd hw'
  obtain ⟨hps, -, hpm⟩ := hp
  obtain ⟨l', rfl⟩ : ∃ l' : List α, d' = l'.toArray := ⟨d'.toList, by simp⟩
  have hlen : l'.length = l.length := by simpa using hps
  have hperm : l'.Perm l := by
    have : (l'.toArray.extract 0 l.toArray.size).toList = l' := by simp [← hlen]
    rw [this] at hpm
    simpa using hpm
  have hstay : ∀ i, i < w.heap.size → i ≠ lo.b → w'.heap[i]? = w.heap[i]? := by
    intro i hi hne
    rw [hw']
    simp only [Go.Proofs.sortWorldK, Go.Sort.grow, Go.Sort.putRowK, Go.Sort.putRow, Go.Sort.mapBlock, Go.Sort.ahead]
    rw [Array.getElem?_append_left (by simpa using hi), Array.getElem?_modify, if_neg (Ne.symm hne)]
  have hsize : w.heap.size ≤ w'.heap.size := by
    rw [hw']
    simp [Go.Proofs.sortWorldK, Go.Sort.grow, Go.Sort.putRowK, Go.Sort.putRow, Go.Sort.mapBlock, Go.Sort.ahead]
  have hblk' : w'.heap[lo.b]? = some (.cells (Go.Sort.putCells id lo.o (Go.Sort.flatK enc K l'.toArray) c) e (0, 0)) := by
    rw [hw']
    simp only [Go.Proofs.sortWorldK, Go.Sort.grow, Go.Sort.putRowK, Go.Sort.putRow, Go.Sort.mapBlock, Go.Sort.ahead]
    rw [Array.getElem?_append_left (by simpa using hblk), Array.getElem?_modify, if_pos rfl, hw]
    rfl
  have ho' : w'.os = w.os := by rw [hw']; rfl
  have ht' : Tp w w' := by rw [hw']; exact ⟨rfl, fun _ => Nat.le_add_right _ _⟩
  have hu' : w'.output = w.output := by rw [hw']; rfl
  have hB : ∀ O', Stays ι (Own F ι [(r, .rows K (l.map (rowOf enc)))]) w ι O' w' → BRel ι O' w' lo (.rows K (l'.map (rowOf enc))) := by
    intro O' _
    refine ⟨hsz, hmp, ?_, .inr ⟨hg, _, e, hblk', ?_, ?_, ?_⟩⟩
    · intro v hv
      obtain ⟨x, _, rfl⟩ := List.mem_map.1 hv
      simp [rowOf, V.fits, V.cells, hk, V.one]
    · simpa [Go.Sort.putCells] using hcs
    · simpa [Go.Sort.putCells, hlen] using hoc
    · rw [rows_cells, List.length_map]
      have e2 : ((Go.Sort.putCells id lo.o (Go.Sort.flatK enc K l'.toArray) c).toList.drop lo.o).take (l'.length * K) = l'.flatMap enc := by
        have := putCells_list lo.o (Go.Sort.flatK enc K l'.toArray) c (by simpa [hlen] using hoc)
        rw [flatK_list hk, Go.Sort.size_flatK] at this
        simpa using this
      rw [e2]
      refine vrels_val fun v hv => ?_
      obtain ⟨x, _, hx⟩ := List.mem_flatMap.1 hv
      exact h1 x v hx
  have R' := R.put (.head _) hlo hg ho' ht' hu' hsize hstay hB
  have K' := kept_put (b' := .rows K (l'.map (rowOf enc))) (.head _) hlo hg R.names ho' ht' hu' hsize hstay
  have hput : put r (.rows K (l'.map (rowOf enc))) [(r, .rows K (l.map (rowOf enc)))] = [(r, .rows K (l'.map (rowOf enc)))] := by simp [put]
  rw [hput] at R' K'
  refine ⟨ι, .tup [], .tuple #[], _, k, he, ⟨rfl, l', hperm, ?_, rfl⟩, ⟨K', Nat.le_refl _, fun _ _ => rfl, fun n hn => .inl (by simpa using hn)⟩, R', fun n _ => hf n, .tup .nil⟩
  rw [List.pairwise_iff_getElem]
  intro i j hi hj hij
  have := hsd i j (Nat.zero_le _) hij (by simpa [hlen] using hj)
  rwa [getElem!_pos _ j (by simpa using hj), getElem!_pos _ i (by simpa using hi), List.getElem_toArray, List.getElem_toArray] at this
end
end Go.Sl
namespace Go.Sl
variable [Md]
open Go
section
variable {P : Program} {H : Heap}
theorem call_ex {α : Type} {I : α → Nat → Prop} {G : α → Heap} {f : FuncId} {args : List V} {k : Nat} {K : V → Heap → Nat → Prop} {Hf : Heap} {r : V} (h : Fn P f args Hf k fun v H' k' => ∃ a, I a k' ∧ v = r ∧ H' = G a) (hn : (Hf.map Prod.fst).Nodup) (hl : ∀ p ∈ Hf, look p.1 H = some p.2)
    (hK : ∀ k' a, k ≤ k' → I a k' → K r (G a ++ H.filter fun p => !decide (p.1 ∈ Hf.map Prod.fst)) k') : @callF _ P f args H k ⟨K⟩ :=
  show Fn P f args H k K from ⟨h.enters, fun F ι w cargs h1 h2 h3 => by
    have p := perm_keep h2.names hn hl
    refine Fn.calls ((h.frame p (K := fun v H' k' => ∃ a, k ≤ k' ∧ I a k' ∧ v = r ∧ H' = G a ++ H.filter fun p => !decide (p.1 ∈ Hf.map Prod.fst)) fun v H' k' hk e => ?_).mono fun v H' k' e => ?_) F ι w cargs h1 h2 h3
    · obtain ⟨a, e1, e2, e3⟩ := e
      exact ⟨a, hk, e1, e2, by rw [e3]⟩
    · obtain ⟨a, e1, e2, rfl, rfl⟩ := e
      exact hK k' a e1 e2⟩
end
end Go.Sl
namespace Go.Sl
variable [Md]
section
variable {F : Nat → Prop} {ι ι' : Names} {H H' : Heap} {P : Program}
theorem Pf.lend {f : FuncId} {args args' : List V} {r : Value} (h : Pf P f args' (.val r)) (d : Nat) (ha : args.map (frz [] H d) = args') : PfH P f args H (.val r) :=
 ⟨h.enters, fun F ι w cargs hv R => by
  obtain ⟨a1, a2, _, _⟩ := frz_pre (H := H) (H' := []) d 0 ha (by simp) (by simp) F ι w cargs hv R
  refine (h.calls ι (Own F ι []) w cargs a2.own_lt a1).mono ?_
  rintro e w' ⟨cv, he, hcv, rest⟩
  refine ⟨cv, he, ?_, rest⟩
  cases hcv with
  | val _ h => exact .val _ h⟩
theorem callD_lend {g : FuncId} {args args' : List V} {r : Value} {K : V → Prop} (h : Pf P g args' (.val r)) (d : Nat) (ha : args.map (frz [] H d) = args') (k : K (.val r)) : @callD _ P g args H ⟨K⟩ := ⟨.val r, h.lend d ha, k⟩
theorem call_lend {g : FuncId} {args args' : List V} {r : Value} {k : Nat} {K : V → Heap → Nat → Prop} (h : Pf P g args' (.val r)) (d : Nat) (ha : args.map (frz [] H d) = args') (hk : K (.val r) H k) : @callF _ P g args H k ⟨K⟩ := (h.lend d ha).fn hk
def PureV (r : V) : Prop := ∀ ι O w ι' O' w' cv, VRel ι O w r cv → VRel ι' O' w' r cv
omit [Md] in
theorem pure_vals {ι ι' : Names} {O O' : Nat → Prop} {w w' : World} : ∀ {cs : List V} {xs : List Value}, (∀ v ∈ cs, ∃ x, v = .val x) → VRels ι O w cs xs → VRels ι' O' w' cs xs
 | [], _, _, .nil => .nil
 | v :: cs, _, h, .cons h1 h2 => by
  obtain ⟨x, rfl⟩ := h v (.head _)
  refine .cons ?_ (pure_vals (fun u hu => h u (.tail _ hu)) h2)
  cases h1 with
  | val _ hx => exact .val _ hx
omit [Md] in
theorem pure_agg {cs : List V} (h : ∀ v ∈ cs, ∃ x, v = .val x) : PureV (.agg cs) := fun ι O w ι' O' w' cv hv => by
 cases hv with
 | agg hv => exact .agg (pure_vals h hv)
theorem Pf.lendP {f : FuncId} {args args' : List V} {r : V} (h : Pf P f args' r) (hp : PureV r) (d : Nat) (ha : args.map (frz [] H d) = args') : PfH P f args H r :=
 ⟨h.enters, fun F ι w cargs hv R => by
  obtain ⟨a1, a2, _, _⟩ := frz_pre (H := H) (H' := []) d 0 ha (by simp) (by simp) F ι w cargs hv R
  refine (h.calls ι (Own F ι []) w cargs a2.own_lt a1).mono ?_
  rintro e w' ⟨cv, he, hcv, rest⟩
  exact ⟨cv, he, hp _ _ _ _ _ _ _ hcv, rest⟩⟩
theorem callD_lendP {g : FuncId} {args args' : List V} {r : V} {K : V → Prop} (h : Pf P g args' r) (hp : PureV r) (d : Nat) (ha : args.map (frz [] H d) = args') (k : K r) : @callD _ P g args H ⟨K⟩ := ⟨r, h.lendP hp d ha, k⟩
theorem call_lendP {g : FuncId} {args args' : List V} {r : V} {k : Nat} {K : V → Heap → Nat → Prop} (h : Pf P g args' r) (hp : PureV r) (d : Nat) (ha : args.map (frz [] H d) = args') (hk : K r H k) : @callF _ P g args H k ⟨K⟩ := (h.lendP hp d ha).fn hk
end
end Go.Sl
namespace Go.Sl
variable [Md]
def V.pure1 : V → Bool
 | .val _ | .ptr _ _ _ | .sl _ _ _ | .sub _ _ _ _ _ | .map _ => true
 | _ => false
def V.pureE : V → Bool
 | .agg cs => cs.all V.pure1
 | v => v.pure1
def pureH (H : Heap) : Bool := H.all fun p => match p.2 with | .rows _ es => es.all V.pureE | _ => false
section
variable {F F' O O' : Nat → Prop} {ι : Names} {H H' : Heap} {w : World} {P : Program}
omit [Md] in
theorem pure1_rel {v : V} {x : Value} (hp : v.pure1 = true) (h : VRel ι O w v x) : VRel ι O' w v x := by
 cases h with
 | val _ h => exact .val _ h
 | ptr a b c d => exact .ptr a b c d
 | sl a b c d e f g i => exact .sl a b c d e f g i
 | sl0 a => exact .sl0 a
 | sub a b c d e f g => exact .sub a b c d e f g
 | map a b c => exact .map a b c
 | _ => cases hp
omit [Md] in
theorem pure1_rels : ∀ {vs : List V} {xs : List Value}, vs.all V.pure1 = true → VRels ι O w vs xs → VRels ι O' w vs xs
 | [], _, _, .nil => .nil
 | v :: vs, _, hp, .cons h hs => by
  rw [List.all_cons, Bool.and_eq_true] at hp
  exact .cons (pure1_rel hp.1 h) (pure1_rels hp.2 hs)
omit [Md] in
theorem pureE_rel {v : V} {x : Value} (hp : v.pureE = true) (h : VRel ι O w v x) : VRel ι O' w v x := by
 by_cases he : ∃ cs, v = .agg cs
 ·obtain ⟨cs, rfl⟩ := he
  cases h with
  | agg h => exact .agg (pure1_rels hp h)
 ·refine pure1_rel ?_ h
  cases v <;> first | exact hp | exact absurd ⟨_, rfl⟩ he
omit [Md] in
theorem pureE_cells {v : V} (hp : v.pureE = true) : v.cells.all V.pure1 = true := by
 cases v <;> first | exact hp | (simp only [V.cells, List.all_cons, List.all_nil, Bool.and_true]; exact hp)
omit [Md] in
theorem pure_flat {es : List V} (h : es.all V.pureE = true) : (es.flatMap V.cells).all V.pure1 = true := by
 rw [List.all_eq_true] at h ⊢
 intro c hc
 obtain ⟨e, he, hc⟩ := List.mem_flatMap.1 hc
 exact List.all_eq_true.1 (pureE_cells (h e he)) c hc
omit [Md] in
theorem VRel.less (h : ∀ b, O' b → O b) {v : V} {x : Value} (hv : VRel ι O w v x) (hO : ∀ b, O b → b < w.heap.size) : VRel ι O' w v x :=
 hv.stays ⟨fun _ _ h => h, Nat.le_refl _, fun b _ hn => ⟨fun hb => hn (h b hb), rfl⟩⟩
end
structure PfF (P : Program) (f : FuncId) (args : List V) (r : V) : Prop where
 enters : Enters P f
 calls : ∀ ι O w cargs, (∀ b, O b → b < w.heap.size) → VRels ι O w args cargs → Calls P f cargs.toArray w fun e w' => ∃ cv, e = .returned cv ∧ (∀ ι' O', (∀ b, O' b → b < w.heap.size) → VRel ι' O' w' r cv) ∧
  w'.os = w.os ∧ Tp w w' ∧ w'.output = w.output ∧ w.heap.size ≤ w'.heap.size ∧ ∀ b, b < w.heap.size → w'.heap[b]? = w.heap[b]?
section
variable {P : Program} {f : FuncId} {args args' : List V} {r : V} {H : Heap}
theorem PfF.pf (h : PfF P f args r) : Pf P f args r := ⟨h.enters, fun ι O w cargs hO hv => (h.calls ι O w cargs hO hv).mono fun e w' ⟨cv, he, hr, rest⟩ => ⟨cv, he, hr ι O hO, rest⟩⟩
theorem PfF.of_pure (h : Pf P f args r) (hp : PureV r) : PfF P f args r := ⟨h.enters, fun ι O w cargs hO hv => (h.calls ι O w cargs hO hv).mono fun e w' ⟨cv, he, hr, rest⟩ => ⟨cv, he, fun _ _ _ => hp _ _ _ _ _ _ _ hr, rest⟩⟩
omit [Md] in
theorem pure_val (x : Value) : PureV (.val x) := fun ι O w ι' O' w' cv h => by cases h with | val _ h => exact .val _ h
theorem PfF.of_fn (d : Nat) (ha : NLs args) (hr : NL r) (h : Fn P f args [] 0 fun v H' _ => frz [] H' d v = r ∧ v.pureE = true ∧ pureH H' = true) : PfF P f args r := by
 refine ⟨h.enters, fun ι O w cargs hO hv => ?_⟩
 have hown : Own O (fun _ => none) [] = O := funext fun b => propext ⟨fun h => h.elim id (fun ⟨_, _, _, h, _⟩ => by cases h), .inl⟩
 have R : Rep O (fun _ => none) [] w := ⟨hO, by simp, (by intro _ _ h; cases h), (by intro _ _ _ _ _ _ h; cases h)⟩
 refine (h.calls O (fun _ => none) w cargs (by rw [hown]; exact ha.rels hv) R (fun _ _ => rfl)).mono ?_
 rintro e w' ⟨ι', v, cv, H', k', he, ⟨hfr, hpv, hpH⟩, hO'⟩
 have hno : ∀ b, b < w.heap.size → ¬ OwnH ι' H' b := fun b hb ho => by
  obtain ⟨_, _, _, h, _⟩ := hO'.ext.kept.old b hb ho; cases h
 have K := hO'.ext.kept
 refine ⟨cv, he, fun ι2 O2 h2 => ?_, K.os, K.tape, K.output, K.size, fun b hb => K.stay b hb fun ⟨_, _, _, h, _⟩ => by cases h⟩
 have hpB : ∀ n B, (n, B) ∈ H' → ∃ sz es, B = .rows sz es ∧ es.all V.pureE = true := fun n B hm => by
  have := List.all_eq_true.1 hpH _ hm
  cases B with
  | rows sz es => exact ⟨sz, es, rfl, this⟩
  | _ => cases this
 -- all that was there before is not the callee's
 have R2 : Rep (fun b => b < w.heap.size) ι' H' w' := ⟨fun b hb => Nat.lt_of_lt_of_le hb K.size, hO'.rep.names, fun n B hm => by
  obtain ⟨l, hl, hB, hg⟩ := hO'.rep.own n B hm
  obtain ⟨sz, es, rfl, hes⟩ := hpB n B hm
  refine ⟨l, hl, ?_, fun hgh => ⟨(hg hgh).1, fun hb => hno _ hb ⟨n, _, l, hm, hl, hgh, rfl⟩⟩⟩
  obtain ⟨b1, b2, b3, b4⟩ := hB
  refine ⟨b1, b2, b3, ?_⟩
  rcases b4 with b4 | ⟨b4, c, e, b5, b6, b7, b8⟩
  ·exact .inl b4
  ·exact .inr ⟨b4, c, e, b5, b6, b7, pure1_rels (pure_flat hes) b8⟩, hO'.rep.apart⟩
 obtain ⟨_, _, _, hv2⟩ := View.fz (H := H') d v _ _ _ _ R2 (pureE_rel hpv hO'.val)
 rw [hfr] at hv2
 have hown2 : Own (fun b => b < w.heap.size) ι' [] = fun b => b < w.heap.size := funext fun b => propext ⟨fun h => h.elim id (fun ⟨_, _, _, h, _⟩ => by cases h), .inl⟩
 rw [hown2] at hv2
 exact hr _ _ _ _ _ (hv2.less h2 fun b hb => Nat.lt_of_lt_of_le hb K.size)
theorem PfF.lend (h : PfF P f args' r) (d : Nat) (ha : args.map (frz [] H d) = args') : PfH P f args H r :=
 ⟨h.enters, fun F ι w cargs hv R => by
  obtain ⟨a1, a2, _, _⟩ := frz_pre (H := H) (H' := []) d 0 ha (by simp) (by simp) F ι w cargs hv R
  refine (h.calls ι (Own F ι []) w cargs a2.own_lt a1).mono ?_
  rintro e w' ⟨cv, he, hr, rest⟩
  exact ⟨cv, he, hr ι _ R.own_lt, rest⟩⟩
omit [Md] in
theorem hide_last {ι : Names} {O : Nat → Prop} {w : World} {g : Go.Fn} {fs cs : List V} : ∀ {ds : List V} {xs : List Value}, VRels ι O w (ds ++ [.fn g fs cs]) xs → ∃ x, x.oneCell' = true ∧ VRels ι O w (ds ++ [.val x]) xs
 | [], _, .cons h .nil => by
  cases h with
  | fn h1 h2 => exact ⟨_, rfl, .cons (.val _ rfl) .nil⟩
 | d :: ds, _, .cons h hs => by
  obtain ⟨x, hx, hr⟩ := hide_last hs
  exact ⟨x, hx, .cons h hr⟩
theorem PfF.lendS {g : Go.Fn} {fs cs ds rest : List V} (h : ∀ x : Value, x.oneCell' = true → PfF P f (.rp (ds ++ [.val x]) 0 :: rest) r) (d : Nat) (ha : args.map (frz [] H d) = .rp (ds ++ [.fn g fs cs]) 0 :: rest) : PfH P f args H r :=
 ⟨(h .nilFunc rfl).enters, fun F ι w cargs hv R => by
  obtain ⟨a1, a2, _, _⟩ := frz_pre (H := H) (H' := []) d 0 ha (by simp) (by simp) F ι w cargs hv R
  cases a1 with
  | cons b1 b2 =>
   cases b1 with
   | rp c1 c2 c3 c4 c5 c6 c7 c8 =>
    obtain ⟨x, hx, hr⟩ := hide_last c7
    have hl : (ds ++ [V.fn g fs cs]).length = (ds ++ [V.val x]).length := by simp
    have hone : (ds ++ [V.val x]).all V.one = true := by
     rw [List.all_append, Bool.and_eq_true] at c4 ⊢
     exact ⟨c4.1, rfl⟩
    refine ((h x hx).calls ι (Own F ι []) w _ a2.own_lt (.cons (.rp c1 c2 c3 hone (by rw [← hl]; exact c5) (by rw [← hl]; exact c6) hr c8) b2)).mono ?_
    rintro e w' ⟨cv, he, hr, rest⟩
    exact ⟨cv, he, hr ι _ R.own_lt, rest⟩⟩
end
end Go.Sl
namespace Go.Sl
variable [Md]
def plainB : B → Bool
 | .rows _ es => es.all V.pureE
 | .map es => es.all fun p => p.1.pureE && p.2.pureE
 | _ => false
def plainH (G : Heap) : Bool := G.all fun p => plainB p.2
section
variable {F O O' : Nat → Prop} {ι : Names} {w : World} {P : Program}
omit [Md] in
theorem pureE_rels {α : Type} {f : α → V} : ∀ {l : List α} {xs : List Value}, (∀ a ∈ l, (f a).pureE = true) → VRels ι O w (l.map f) xs → VRels ι O' w (l.map f) xs
 | [], _, _, .nil => .nil
 | a :: l, _, hp, .cons h hs => .cons (pureE_rel (hp a (.head _)) h) (pureE_rels (fun b hb => hp b (.tail _ hb)) hs)
omit [Md] in
theorem plainB_rel {l : Loc} {B : B} (hp : plainB B = true) (h : BRel ι O w l B) : BRel ι O' w l B := by
 cases B with
 | rows sz es =>
  obtain ⟨b1, b2, b3, b4⟩ := h
  refine ⟨b1, b2, b3, ?_⟩
  rcases b4 with b4 | ⟨b4, c, e, b5, b6, b7, b8⟩
  ·exact .inl b4
  ·exact .inr ⟨b4, c, e, b5, b6, b7, pure1_rels (pure_flat hp) b8⟩
 | map es =>
  obtain ⟨b1, b2, mes, b3, b4, b5, b6⟩ := h
  have hp' : ∀ p ∈ es, p.1.pureE = true ∧ p.2.pureE = true := fun p hm => by
   have := List.all_eq_true.1 hp p hm
   rwa [Bool.and_eq_true] at this
  exact ⟨b1, b2, mes, b3, pureE_rels (fun p hm => (hp' p hm).1) b4, pureE_rels (fun p hm => (hp' p hm).2) b5, b6⟩
 | _ => cases hp
theorem Fn.lendP {f : FuncId} {args args' : List V} {L G G' : Heap} {k : Nat} (d : Nat) (h : Fn P f args' G k fun v H' _ => v = .tup [] ∧ H' = G') (ha : args.map (frz (G.map Prod.fst) (L ++ G) d) = args') (hp : plainH G' = true) :
    Fn P f args (L ++ G) k fun v H' _ => v = .tup [] ∧ H' = L ++ G' := by
  refine ⟨h.enters, fun F ι w cargs hv R hf => ?_⟩
  have hn := R.names
  rw [List.map_append, List.nodup_append] at hn
  obtain ⟨n1, n2, n3⟩ := hn
  have hlook : ∀ p ∈ G, look p.1 (L ++ G) = some p.2 := fun p hm => look_of_mem R.names (List.mem_append.2 (.inr hm))
  obtain ⟨a1, a2, a3, a4⟩ := frz_pre (H := L ++ G) (H' := G) d 0 ha n2 (fun p hm => ⟨p.2, hlook p hm, by
    cases p.2 with
    | rows sz es => simp [frzB, frz_zero, elemF_id]
    | _ => rfl⟩) F ι w cargs hv R
  refine (h.calls F ι w cargs a1 a2 hf).mono ?_
  rintro e w' ⟨ι', v, cv, H', k', he, ⟨rfl, rfl⟩, hO⟩
  have K := hO.ext.kept
  have hLG : ∀ b, OwnH ι G b → OwnH ι (L ++ G) b := fun b ⟨n, B, l, hm, hl, hg, hb⟩ => ⟨n, B, l, List.mem_append.2 (.inr hm), hl, hg, hb⟩
  -- the names of what is lent stay
  have hL : ∀ n B, (n, B) ∈ L → ∃ l, ι n = some l ∧ ι' n = some l ∧ BRel ι (Own F ι (L ++ G)) w l B ∧ (l.ghost = false → l.b < w.heap.size ∧ ¬ F l.b) := fun n B hm => by
    obtain ⟨l, hl, hB, hg⟩ := R.own n B (List.mem_append.2 (.inl hm))
    exact ⟨l, hl, K.le n l hl, hB, hg⟩
  have hold : ∀ b, b < w.heap.size → OwnH ι' (L ++ H') b → OwnH ι (L ++ G) b := fun b hb ⟨n, B, l, hm, hl, hg, he⟩ => by
    rcases List.mem_append.1 hm with hm | hm
    · obtain ⟨l0, h1, h2, _⟩ := hL n B hm
      rw [h2] at hl; cases hl
      exact ⟨n, B, l, List.mem_append.2 (.inl hm), h1, hg, he⟩
    · exact hLG b (K.old b hb ⟨n, B, l, hm, hl, hg, he⟩)
  have KK : Kept ι (L ++ G) w ι' (L ++ H') w' := ⟨K.le, K.os, K.tape, K.output, K.size, fun b hb hno => K.stay b hb fun ho => hno (hLG b ho), hold⟩
  -- a block that is lent is none of the state's
  have hapart : ∀ n B l, (n, B) ∈ L → ι n = some l → l.ghost = false → ¬ OwnH ι G l.b := fun n B l hm hl hg ⟨m, C, l2, hm2, hl2, hg2, hb2⟩ => by
    refine R.apart n B m C l l2 (List.mem_append.2 (.inl hm)) (List.mem_append.2 (.inr hm2)) (fun e => ?_) hl hl2 hg hg2 hb2.symm
    exact n3 n (List.mem_map.2 ⟨(n, B), hm, rfl⟩) m (List.mem_map.2 ⟨(m, C), hm2, rfl⟩) e
  have S : Stays ι (Own F ι (L ++ G)) w ι' (Own F ι' (L ++ H')) w' := ⟨K.le, K.size, fun b hb hno => ⟨fun ho => by
    rcases ho with ho | ho
    · exact hno (.inl ho)
    · exact hno (.inr (hold b hb ho)), K.stay b hb fun ho => hno (.inr (hLG b ho))⟩⟩
  have hk : ∀ n B, (n, B) ∈ L → n < k := fun n B hm => by
    obtain ⟨l, h1, _⟩ := hL n B hm
    refine Nat.lt_of_not_le fun hc => ?_
    rw [hf n hc] at h1; cases h1
  refine ⟨ι', .tup [], cv, L ++ H', k', he, ⟨rfl, rfl⟩, ⟨⟨KK, hO.ext.le, hO.ext.same, fun n hm => ?_⟩, ⟨hO.rep.frame, ?_, fun n B hm => ?_, fun n B m C l l' h1 h2 hne h3 h4 h5 h6 => ?_⟩, hO.fresh, ?_⟩⟩
  · rw [List.map_append, List.mem_append] at hm ⊢
    rcases hm with hm | hm
    · exact .inl (.inl hm)
    · exact (hO.ext.dom n hm).imp .inr id
  · rw [List.map_append, List.nodup_append]
    refine ⟨n1, hO.rep.names, fun a ha b hb e => ?_⟩
    subst e
    obtain ⟨⟨n, B⟩, hm, rfl⟩ := List.mem_map.1 ha
    rcases hO.ext.dom _ hb with hd | hd
    · exact n3 _ ha _ hd rfl
    · have := hk n B hm
      have := hd.2
      simp only at this; omega
  · rcases List.mem_append.1 hm with hm | hm
    · obtain ⟨l, h1, h2, hB, hg⟩ := hL n B hm
      refine ⟨l, h2, hB.stays S fun hgh => K.stay _ (hg hgh).1 (hapart n B l hm h1 hgh), fun hgh => ⟨Nat.lt_of_lt_of_le (hg hgh).1 K.size, (hg hgh).2⟩⟩
    · obtain ⟨l, hl, hB, hg⟩ := hO.rep.own n B hm
      exact ⟨l, hl, plainB_rel (List.all_eq_true.1 hp _ hm) hB, hg⟩
  · have LG' : ∀ n B m C l l', (n, B) ∈ L → (m, C) ∈ H' → ι' n = some l → ι' m = some l' → l.ghost = false → l'.ghost = false → l.b ≠ l'.b := fun n B m C l l' h1 h2 h3 h4 h5 h6 e => by
      obtain ⟨l0, q1, q2, _, q4⟩ := hL n B h1
      rw [q2] at h3; cases h3
      exact hapart n B l h1 q1 h5 (K.old _ (q4 h5).1 ⟨m, C, l', h2, h4, h6, e.symm⟩)
    rcases List.mem_append.1 h1 with h1 | h1
    · rcases List.mem_append.1 h2 with h2 | h2
      · obtain ⟨l0, q1, q2, _⟩ := hL n B h1
        obtain ⟨l1, r1, r2, _⟩ := hL m C h2
        rw [q2] at h3; cases h3
        rw [r2] at h4; cases h4
        exact R.apart n B m C _ _ (List.mem_append.2 (.inl h1)) (List.mem_append.2 (.inl h2)) hne q1 r1 h5 h6
      · exact LG' n B m C l l' h1 h2 h3 h4 h5 h6
    · rcases List.mem_append.1 h2 with h2 | h2
      · exact fun e => LG' m C n B l' l h2 h1 h4 h3 h6 h5 e.symm
      · exact hO.rep.apart n B m C l l' h1 h2 hne h3 h4 h5 h6
  · have hv := hO.val
    cases hv with
    | tup h => cases h; exact .tup .nil
theorem call_tail {f : FuncId} {args : List V} {A G G' : Heap} {k : Nat} {K : V → Heap → Nat → Prop} {r : V} (h : Fn P f args G k fun v H' _ => v = r ∧ H' = G') (hk : ∀ k', k ≤ k' → K r (A ++ G') k') : @callF _ P f args (A ++ G) k ⟨K⟩ := by
 have h2 : Fn P f args (A ++ G) k fun v H' k' => ∃ H'' v', View H' v H'' v' ∧ K v' H'' k' :=
  h.frame (G := A) List.perm_append_comm fun v H' k' hle ⟨e1, e2⟩ => ⟨A ++ G', r, e1 ▸ e2 ▸ View.perm List.perm_append_comm _, hk k' hle⟩
 exact Fn.view h2
end
end Go.Sl
namespace Go.Sl
variable [Md]
section
variable {F O O' : Nat → Prop} {ι : Names} {w : World} {P : Program} {A A' G G' : Heap}
omit [Md] in
theorem look_app (n : Nat) : ∀ (A G : Heap), look n (A ++ G) = if n ∈ A.map Prod.fst then look n A else look n G
 | [], G => by simp
 | (m, b) :: A, G => by
  have ih := look_app n A G
  simp only [List.cons_append, look, List.map_cons, List.mem_cons]
  by_cases e : n = m
  ·rw [if_pos e, if_pos (.inl e), if_pos e]
  ·rw [if_neg e, if_neg e, ih]
   by_cases h : n ∈ A.map Prod.fst
   ·rw [if_pos h, if_pos (.inr h)]
   ·rw [if_neg h, if_neg (fun hc => hc.elim e h)]
omit [Md] in
theorem tail_names (hN : ((A ++ G).map Prod.fst).Nodup) (hA : ∀ n ∈ A'.map Prod.fst, n ∈ A.map Prod.fst) (n : Nat) :
    (n ∈ (A' ++ G).map Prod.fst ∧ (n ∈ A'.map Prod.fst ∨ look n A = none)) ∨ (n ∉ (A' ++ G).map Prod.fst ∧ n ∉ A'.map Prod.fst ∧ look n (A ++ G) = look n A) := by
  rw [List.map_append, List.nodup_append] at hN
  obtain ⟨_, _, hd⟩ := hN
  by_cases h1 : n ∈ A'.map Prod.fst
  · exact .inl ⟨by rw [List.map_append]; exact List.mem_append.2 (.inl h1), .inl h1⟩
  · by_cases h2 : n ∈ G.map Prod.fst
    · exact .inl ⟨by rw [List.map_append]; exact List.mem_append.2 (.inr h2), .inr (look_none.2 fun h3 => hd n h3 n h2 rfl)⟩
    · refine .inr ⟨by rw [List.map_append, List.mem_append]; exact fun h => h.elim h1 h2, h1, ?_⟩
      rw [look_app]
      split
      · rfl
      · rename_i h3; rw [look_none.2 h2, look_none.2 h3]
omit [Md] in
theorem frz_tail (hN : ((A ++ G).map Prod.fst).Nodup) (hA : ∀ n ∈ A'.map Prod.fst, n ∈ A.map Prod.fst) : ∀ (d : Nat), frz ((A' ++ G).map Prod.fst) (A ++ G) d = frz (A'.map Prod.fst) A d
 | 0 => rfl
 | d + 1 => by
  have ih := frz_tail hN hA d
  funext v
  have key := tail_names hN hA
  unfold frz
  rw [ih]
  cases v with
  | sl n q len =>
   dsimp only
   rcases key n with ⟨h1, h2⟩ | ⟨h1, h2, h3⟩
   ·rw [if_pos h1]
    rcases h2 with h2 | h2
    ·rw [if_pos h2]
    ·rw [h2]; simp
   ·rw [if_neg h1, if_neg h2, h3]
  | ptr n i j =>
   dsimp only
   rcases key n with ⟨h1, h2⟩ | ⟨h1, h2, h3⟩
   ·rw [if_pos h1]
    rcases h2 with h2 | h2
    ·rw [if_pos h2]
    ·rw [h2]; simp
   ·rw [if_neg h1, if_neg h2, h3]
  | sub n i j z len =>
   dsimp only
   rcases key n with ⟨h1, h2⟩ | ⟨h1, h2, h3⟩
   ·rw [if_pos (.inl h1)]
    rcases h2 with h2 | h2
    ·rw [if_pos (.inl h2)]
    ·rw [h2]; simp
   ·by_cases hz : z ≠ 1
    ·rw [if_pos (.inr hz), if_pos (.inr hz)]
    ·rw [if_neg (fun h => h.elim h1 hz), if_neg (fun h => h.elim h2 hz), h3]
  | _ => rfl
omit [Md] in
theorem tail_hH (hN : ((A ++ G).map Prod.fst).Nodup) (hH : ∀ p ∈ A', look p.1 A = some p.2) : ∀ p ∈ A' ++ G, ∃ B, look p.1 (A ++ G) = some B ∧ frzB ((A' ++ G).map Prod.fst) (A ++ G) 0 B = p.2 := fun p hp => by
 have hz : ∀ B : B, frzB ((A' ++ G).map Prod.fst) (A ++ G) 0 B = B := fun B => by
  cases B with
  | rows sz es => simp [frzB, frz_zero, elemF_id]
  | _ => rfl
 refine ⟨p.2, ?_, hz _⟩
 rcases List.mem_append.1 hp with hp | hp
 ·exact look_of_mem hN (List.mem_append.2 (.inl (look_mem (hH p hp))))
 ·exact look_of_mem hN (List.mem_append.2 (.inr hp))
omit [Md] in
theorem tail_nodup (hN : ((A ++ G).map Prod.fst).Nodup) (hn : (A'.map Prod.fst).Nodup) (hA : ∀ n ∈ A'.map Prod.fst, n ∈ A.map Prod.fst) : ((A' ++ G).map Prod.fst).Nodup := by
 rw [List.map_append, List.nodup_append] at hN ⊢
 exact ⟨hn, hN.2.1, fun a ha b hb => hN.2.2 a (hA a ha) b hb⟩
omit [Md] in
theorem tail_sub (hH : ∀ p ∈ A', look p.1 A = some p.2) : ∀ n ∈ A'.map Prod.fst, n ∈ A.map Prod.fst := fun n hn => by
 obtain ⟨p, hp, rfl⟩ := List.mem_map.1 hn
 exact List.mem_map.2 ⟨(p.1, p.2), look_mem (hH p hp), rfl⟩
theorem Weaker.fzT {N k k' : Nat} {t t' : List (Nat × V)} (A A' G : Heap) (d : Nat) (hk : k ≤ k') (ht : ∀ p ∈ t', frz (A'.map Prod.fst) A d (get t p.1) = p.2) (hn : (A'.map Prod.fst).Nodup)
    (hH : ∀ p ∈ A', look p.1 A = some p.2) : Weaker ⟨N, t, A ++ G, k⟩ ⟨N, t', A' ++ G, k'⟩ :=
  ⟨fun F ι a w hh => by
    have hN := hh.rep.names
    simp only [] at hN
    have hA := tail_sub hH
    exact (Weaker.fzk (H := A ++ G) (H' := A' ++ G) d 0 hk (fun p hp => by rw [frz_tail hN hA]; exact ht p hp) (tail_nodup hN hn hA) (tail_hH hN hH)).h F ι a w hh⟩
theorem call_tailZ {f : FuncId} {args args' : List V} {k : Nat} {K : V → Heap → Nat → Prop} {r : V} (A A' : Heap) (G : Heap) (d : Nat) (h : Fn P f args' G k fun v H' _ => v = r ∧ H' = G') (ha : args.map (frz (A'.map Prod.fst) A d) = args') (hn : (A'.map Prod.fst).Nodup)
    (hH : ∀ p ∈ A', look p.1 A = some p.2) (hk : ∀ k', k ≤ k' → K r (A' ++ G') k') : @callF _ P f args (A ++ G) k ⟨K⟩ := by
  have h2 : Fn P f args' (A' ++ G) k K := call_tail h hk
  refine ⟨h2.enters, fun F ι w cargs hv R hf => ?_⟩
  have hN := R.names
  have hA := tail_sub hH
  obtain ⟨a1, a2, a3, a4⟩ := frz_pre (H := A ++ G) (H' := A' ++ G) (args' := args') d 0 (by rw [frz_tail hN hA]; exact ha) (tail_nodup hN hn hA) (tail_hH hN hH) F ι w cargs hv R
  refine (h2.calls F ι w cargs a1 a2 hf).mono ?_
  rintro e w' ⟨ι', v, cv, H2, k', he, hr, hO⟩
  exact ⟨ι', v, cv, H2, k', he, hr, ⟨⟨a3.trans hO.ext.kept, hO.ext.le, hO.ext.same, fun n hn => (hO.ext.dom n hn).imp (a4 n) id⟩, hO.rep, hO.fresh, hO.val⟩⟩
theorem View.tail (A G : Heap) (v : V) : View (A ++ G) v G v := View.drop v A
theorem call_pfH {g : FuncId} {args : List V} {H : Heap} {k : Nat} {K : V → Heap → Nat → Prop} {r : V} (h : PfH P g args H r) (hk : K r H k) : @callF _ P g args H k ⟨K⟩ := h.fn hk
theorem callD_H {g : FuncId} {args : List V} {H : Heap} {K : V → Prop} {r : V} (h : PfH P g args H r) (k : K r) : @callD _ P g args H ⟨K⟩ := ⟨r, h, k⟩
theorem Pf.hide {f : FuncId} {g : Go.Fn} {fs cs ds rest : List V} {r : V} (h : ∀ x : Value, x.oneCell' = true → Pf P f (.rp (ds ++ [.val x]) 0 :: rest) r) : Pf P f (.rp (ds ++ [.fn g fs cs]) 0 :: rest) r :=
 ⟨(h .nilFunc rfl).enters, fun ι O w cargs hO hv => by
  cases hv with
  | cons b1 b2 =>
   cases b1 with
   | rp c1 c2 c3 c4 c5 c6 c7 c8 =>
    obtain ⟨x, hx, hr⟩ := hide_last c7
    have hl : (ds ++ [V.fn g fs cs]).length = (ds ++ [V.val x]).length := by simp
    have hone : (ds ++ [V.val x]).all V.one = true := by
     rw [List.all_append, Bool.and_eq_true] at c4 ⊢
     exact ⟨c4.1, rfl⟩
    exact (h x hx).calls ι O w _ hO (.cons (.rp c1 c2 c3 hone (by rw [← hl]; exact c5) (by rw [← hl]; exact c6) hr c8) b2)⟩
end
end Go.Sl
namespace Go.Sl
variable [Md]
section
variable {A A' G H H' : Heap}
omit [Md] in
theorem frzB_tail (hN : ((A ++ G).map Prod.fst).Nodup) (hA : ∀ n ∈ A'.map Prod.fst, n ∈ A.map Prod.fst) (d : Nat) (B : B) : frzB ((A' ++ G).map Prod.fst) (A ++ G) d B = frzB (A'.map Prod.fst) A d B := by
 cases B with
 | rows sz es => unfold frzB; rw [frz_tail hN hA]
 | _ => rfl
theorem Weaker.fzP {N k k' : Nat} {t t' : List (Nat × V)} (A A' G : Heap) (d dh : Nat) (hG : ∀ S H, ∀ p ∈ G, frzB S H dh p.2 = p.2) (hk : k ≤ k') (ht : ∀ p ∈ t', frz (A'.map Prod.fst) A d (get t p.1) = p.2) (hn : (A'.map Prod.fst).Nodup)
    (hA : ∀ n ∈ A'.map Prod.fst, n ∈ A.map Prod.fst) (hH : ∀ p ∈ A', ∃ B, look p.1 A = some B ∧ frzB (A'.map Prod.fst) A dh B = p.2) : Weaker ⟨N, t, A ++ G, k⟩ ⟨N, t', A' ++ G, k'⟩ :=
  ⟨fun F ι a w hh => by
    have hN := hh.rep.names
    simp only [] at hN
    refine (Weaker.fzk (H := A ++ G) (H' := A' ++ G) d dh hk (fun p hp => by rw [frz_tail hN hA]; exact ht p hp) (tail_nodup hN hn hA) (fun p hp => ?_)).h F ι a w hh
    rcases List.mem_append.1 hp with hp | hp
    · obtain ⟨B, h1, h2⟩ := hH p hp
      exact ⟨B, look_of_mem hN (List.mem_append.2 (.inl (look_mem h1))), by rw [frzB_tail hN hA]; exact h2⟩
    · exact ⟨p.2, look_of_mem hN (List.mem_append.2 (.inr hp)), hG _ _ p hp⟩⟩
end
section
variable {P : Program} {T : Tab} {fr : Nat → Prop} {σ : St}
theorem op_nilNil {o : Oper} {K : V → Heap → Nat → Prop} (t u : TypeId) (x y : Operand) (ho : o.op = .binOp .eql t x y u) {ti : TI} (hti : tiOf P t = some ti) {e : TypeId} (hd : ti.d = .pointer e) (hx : evalV σ.t x = .val (.pointer none)) (hy : evalV σ.t y = .val (.pointer none))
    (hk : K (.val (.bool true)) σ.H σ.k) : OpT fr P o σ K := by
  obtain ⟨u', i, z, hu, _, _, _, _, h1, _⟩ := tiOf_spec hti
  have hu' : ∃ e', P.underlying t = some (.pointer e') := by rw [hu]; cases u' <;> simp_all [Go.Sl.D.of]
  obtain ⟨e', hu'⟩ := hu'
  have hp : P.underlying t = some (.pointer (P.pointee t)) := by simp [Program.pointee, hu']
  refine opT_pure hk fun F ι a w hh => ?_
  have he := hh.eval x
  have hi := hh.eval y
  rw [hx] at he
  rw [hy] at hi
  have he := he.inv_val
  have hi := hi.inv_val
  refine ⟨_, ?_, .val _ rfl⟩
  unfold execOp; rw [ho]
  have g : ∀ op : BinOp, (eqGuard op t x y (.pointer none) (.pointer none)).run P w = .ok () w := fun op => by cases op <;> simp [eqGuard]
  simp only [he, hi, Sem.run_bind, g, Result.andThen_ok, Go.run_eql_pointer_nil w t none hp, Sem.run_pure]; rfl
theorem reg_mov {ops : Array Oper} {o : Oper} {l : List Oper} {K : St → Prop} {N k d : Nat} {t : List (Nat × V)} {H : Heap} (x : Operand) (ho : o.op = .move x ∨ o.op = .assign x) (hg : o.guard = none) (hdst : o.dst = some d) (hd : d < N) (h : TrL P ops l K ⟨N, (d, evalV t x) :: t, H, k⟩) : TrL P ops (o :: l) K ⟨N, t, H, k⟩ :=
 trL_op hg (by rw [hdst]; exact hd) (op_move x ho (by rw [hdst]; exact h))
theorem reg_nil {ops : Array Oper} {o : Oper} {l : List Oper} {K : St → Prop} {N k d : Nat} {t : List (Nat × V)} {H : Heap} (ty u : TypeId) (x y : Operand) (ho : o.op = .binOp .eql ty x y u) (hg : o.guard = none) (hdst : o.dst = some d) (hd : d < N) {ti : TI} (hti : tiOf P ty = some ti) {e : TypeId} (he : ti.d = .pointer e)
    (hx : evalV t x = .val (.pointer none)) (hy : evalV t y = .val (.pointer none)) (h : TrL P ops l K ⟨N, (d, .val (.bool true)) :: t, H, k⟩) : TrL P ops (o :: l) K ⟨N, t, H, k⟩ :=
  trL_op hg (by rw [hdst]; exact hd) (op_nilNil ty u x y ho hti he hx hy (by rw [hdst]; exact h))
theorem call_ex0 {α : Type} {I : α → Prop} {G : α → Heap} {H : Heap} {f : FuncId} {args : List V} {k : Nat} {K : V → Heap → Nat → Prop} {r : V} (h : Fn P f args H k fun v H' _ => ∃ a, I a ∧ v = r ∧ H' = G a) (hK : ∀ k' a, k ≤ k' → I a → K r (G a) k') : @callF _ P f args H k ⟨K⟩ :=
 show Fn P f args H k K from h.frame (Hf := H) (G := []) (by rw [List.append_nil]) fun v H' k' hk ⟨a, e1, e2, e3⟩ => by rw [List.append_nil, e2, e3]; exact hK k' a hk e1
end
end Go.Sl
namespace Go.Sl
variable [Md]
section
variable {P : Program} {T : Tab} {fr : Nat → Prop} {σ : St}
theorem op_roNil {o : Oper} {K : V → Heap → Nat → Prop} (t u : TypeId) (x y : Operand) (ho : o.op = .binOp .eql t x y u) {ti : TI} (hti : tiOf P t = some ti) {e : TypeId} (hd : ti.d = .slice e) {sz : Nat} {es : List V} (hx : evalV σ.t x = .ro sz es) (hy : evalV σ.t y = .val (.slice none 0 0))
    (h1 : es = [] → K (.val (.bool true)) σ.H σ.k) (h0 : K (.val (.bool false)) σ.H σ.k) : OpT fr P o σ K := by
  have hs := run_und_slice hti hd
  refine opT_run fun F ι a w hh => ?_
  have he := hh.eval x
  have hi := hh.eval y
  rw [hx] at he
  rw [hy] at hi
  have hi := hi.inv_val
  obtain ⟨ad, n, c, hcv, hnil⟩ : ∃ (ad : Option Addr) (n c : Nat), a.eval x = .slice ad n c ∧ (ad = none → es = []) := by
    generalize a.eval x = cv at he
    cases he with
    | ro0 => exact ⟨_, _, _, rfl, fun _ => rfl⟩
    | ro => exact ⟨_, _, _, rfl, fun h => (nomatch h)⟩
  obtain ⟨u', i, z, hu, _, _, _, _, h1', _⟩ := tiOf_spec hti
  have hu' : ∃ e', P.underlying t = some (.slice e') := by rw [hu]; cases u' <;> simp_all [Go.Sl.D.of]
  obtain ⟨e', hu'⟩ := hu'
  have g : (eqGuard .eql t x y (.slice ad n c) (.slice none 0 0)).run P w = .ok () w := by simp [eqGuard]
  refine ⟨ι, .val (.bool ad.isNone), .bool ad.isNone, σ.H, σ.k, w, ?_, ?_, hh.same (.val _ rfl)⟩
  · unfold execOp; rw [ho]
    simp only [hcv, hi, Sem.run_bind, g, Result.andThen_ok, Go.Lib.run_eql_slice_nil w t e' ad n c 0 0 hu', Sem.run_pure]
  · cases ad with
    | none => exact h1 (hnil rfl)
    | some _ => exact h0
theorem reg_roNil {ops : Array Oper} {o : Oper} {l : List Oper} {K : St → Prop} {N k d : Nat} {t : List (Nat × V)} {H : Heap} (ty u : TypeId) (x y : Operand) (ho : o.op = .binOp .eql ty x y u) (hg : o.guard = none) (hdst : o.dst = some d) (hd : d < N) {ti : TI} (hti : tiOf P ty = some ti) {e : TypeId} (he : ti.d = .slice e)
    {sz : Nat} {es : List V} (hx : evalV t x = .ro sz es) (hy : evalV t y = .val (.slice none 0 0)) (h1 : es = [] → TrL P ops l K ⟨N, (d, .val (.bool true)) :: t, H, k⟩) (h0 : TrL P ops l K ⟨N, (d, .val (.bool false)) :: t, H, k⟩) : TrL P ops (o :: l) K ⟨N, t, H, k⟩ :=
  trL_op hg (by rw [hdst]; exact hd) (op_roNil ty u x y ho hti he hx hy (fun h => by rw [hdst]; exact h1 h) (by rw [hdst]; exact h0))
omit [Md] in
theorem zeroCells_list (z : Array Value) : ∀ n, (Builtin.zeroCells z n).toList = (List.replicate n z.toList).flatten
 | 0 => by simp [Builtin.zeroCells]
 | n + 1 => by
  have ih := zeroCells_list z n
  unfold Builtin.zeroCells at ih ⊢
  simp only [Array.toList_map, Array.toList_range] at ih ⊢
  rw [Nat.succ_mul, List.range_add, List.map_append, ih, List.replicate_succ', List.flatten_append, List.map_map]
  congr 1
  simp only [List.flatten_cons, List.flatten_nil, List.append_nil]
  apply List.ext_getElem
  ·simp
  ·intro i h1 h2
   have hi : i < z.size := by simpa using h2
   simp [Nat.add_mod, Nat.mod_eq_of_lt hi, hi]
theorem out_splice {F : Nat → Prop} {ι : Names} {a : Act} {w : World} (hh : Holds fr F ι σ a w) {n p sz : Nat} {es es' : List V} (hn : look n σ.H = some (.rows sz es)) {us : List V} (hp : p + us.length ≤ es.length * sz) (hone : ∀ c ∈ us, c.one = true) {xs : List Value} (hu : VRels ι (Own F ι σ.H) w us xs)
    (hl' : es'.length = es.length) (hf' : ∀ v ∈ es', v.fits sz = true) (he' : es'.flatMap V.cells = splice (es.flatMap V.cells) p us)
    {l : Loc} (hl : ι n = some l) (hg : l.ghost = false) {off : Nat} (hoff : off = l.o + p) {v' : V} {cv : Value} (hv' : ∀ O' w', VRel ι O' w' v' cv) :
    ∃ w', (storeCells ⟨l.b, off, none⟩ xs).run P w = .ok () w' ∧ Out fr F ι σ.H σ.k w ι v' cv (put n (.rows sz es') σ.H) σ.k w' := by
  have hyl : xs.length = us.length := hu.length.symm
  have hy1 := oneCells hu hone
  obtain ⟨h1, h2, h3, h4, h5, c, e, hw, hc, hlen, hv⟩ := hh.rep.block hn hl hg
  have hrun := run_storeCells_at P l.b off e xs 0 c w hw (by rw [hyl, hoff]; omega) hy1
  rw [Nat.add_zero] at hrun
  refine ⟨_, hrun, ?_⟩
  have hsz : (c.toList.take off ++ xs ++ c.toList.drop (off + xs.length)).toArray.size = c.size := by
    simp only [List.size_toArray, List.length_append, List.length_take, List.length_drop, Array.length_toList, hyl]
    rw [hoff]; omega
  have hcs : (w.setRow l.b (c.toList.take off ++ xs ++ c.toList.drop (off + xs.length)).toArray).heap[l.b]? = some (.cells _ e (0, 0)) := setRow_heap w l.b c _ e (0, 0) hw
  have hoth : ∀ q, q < w.heap.size → q ≠ l.b → (w.setRow l.b (c.toList.take off ++ xs ++ c.toList.drop (off + xs.length)).toArray).heap[q]? = w.heap[q]? := fun q _ hq => setRow_other w l.b q _ hq
  have hmem := look_mem hn
  have hrel : VRels ι (Own F ι σ.H) w (es'.flatMap V.cells) ((((c.toList.take off ++ xs ++ c.toList.drop (off + xs.length)).toArray).toList.drop l.o).take (es.length * sz)) := by
    rw [he']
    have h' := hv.splice hu p
    have e2 : ((((c.toList.take off ++ xs ++ c.toList.drop (off + xs.length)).toArray).toList.drop l.o).take (es.length * sz)) = splice ((c.toList.drop l.o).take (es.length * sz)) p xs := by
      have hs : c.toList.take off ++ xs ++ c.toList.drop (off + xs.length) = splice c.toList off xs := by simp [splice]
      show ((c.toList.take off ++ xs ++ c.toList.drop (off + xs.length)).drop l.o).take (es.length * sz) = _
      rw [hs]
      exact splice_window _ _ _ _ _ _ hoff (by rw [hyl]; omega) (by simpa using hlen)
    rw [e2]; exact h'
  refine ⟨⟨kept_put hmem hl hg hh.rep.names rfl (Tp.same rfl rfl) rfl (by simp) hoth, Nat.le_refl _, fun _ _ => rfl, fun m hm => .inl (by rw [names_put] at hm; exact hm)⟩, hh.rep.put hmem hl hg rfl (Tp.same rfl rfl) rfl (by simp) hoth fun O' S => ⟨h1, h2, hf', .inr ⟨hg, _, e, hcs, by rw [hsz, hc], by rw [hl', hsz]; exact hlen, ?_⟩⟩, hh.fresh, hv' _ _⟩
  rw [hl']; exact hrel.stays S
omit [Md] in
theorem flat_splice {sz : Nat} {es : List V} {i len : Nat} {z : V} (hcl : ∀ v ∈ es, v.cells.length = sz) (hz : z.cells.length = sz) (h : i + len ≤ es.length) :
    (es.take i ++ (List.replicate len z ++ es.drop (i + len))).flatMap V.cells = splice (es.flatMap V.cells) (i * sz) ((List.replicate len z).flatMap V.cells) := by
  have hzl : ((List.replicate len z).flatMap V.cells).length = len * sz := by
    have := length_flatMap_cells (es := List.replicate len z) (sz := sz) fun v hv => by rw [List.eq_of_mem_replicate hv]; exact hz
    rwa [List.length_replicate] at this
  unfold splice
  rw [hzl, ← Nat.add_mul, List.flatMap_append, List.flatMap_append, ← flatMap_take hcl, ← flatMap_drop hcl]
theorem op_clear {o : Oper} {K : V → Heap → Nat → Prop} (x : Operand) (t : TypeId) (ho : o.op = .call ⟨.builtin .clear, #[x], #[t]⟩) {ti te : TI} (hti : tiOf P t = some ti) {e : TypeId} (hd : ti.d = .slice e) (hte : tiOf P e = some te)
    {n i len : Nat} {es : List V} (hx : evalV σ.t x = .sl n i len) (hn : look n σ.H = some (.rows te.size es)) (hi : i + len ≤ es.length) (h0 : 0 < len)
    (hk : K (.tup []) (put n (.rows te.size (es.take i ++ (List.replicate len te.zeroV ++ es.drop (i + len)))) σ.H) σ.k) : OpT fr P o σ K :=
  opT_run fun F ι a w hh => by
    have he := hh.eval x
    rw [hx] at he
    generalize hcx : a.eval x = cx at he
    have hdu := run_und_slice hti hd
    obtain ⟨z, hz, hzc, hzs⟩ := run_zeroValue hte w
    cases he with
    | sl0 => exact absurd h0 (Nat.lt_irrefl _)
    | sl hl hg hm hoff hp hlc hcm hs =>
      rename_i off cap l
      obtain ⟨h1, h2, h3, h4, h5, c, et, hw, hc, hlen, hv⟩ := hh.rep.block hn hl hg
      have hcl : ∀ v ∈ es, v.cells.length = te.size := fun v hv => (fits_iff.1 (h3 v hv)).1
      have hzf := fits_iff.1 (zeroV_fits hte)
      have hfl := flat_splice (len := len) (z := te.zeroV) hcl hzf.1 hi
      have hul : ((List.replicate len te.zeroV).flatMap V.cells).length = len * te.size := by
        have := length_flatMap_cells (es := List.replicate len te.zeroV) (sz := te.size) fun v hv => by rw [List.eq_of_mem_replicate hv]; exact hzf.1
        rwa [List.length_replicate] at this
      have hmul : i * te.size + len * te.size ≤ es.length * te.size := by rw [← Nat.add_mul]; exact Nat.mul_le_mul_right _ hi
      have hrel : VRels ι (Own F ι σ.H) w ((List.replicate len te.zeroV).flatMap V.cells) (Builtin.zeroCells z.cells len).toList := by
        rw [zeroCells_list, hzc]
        have hz1 : VRels ι (Own F ι σ.H) w te.zeroV.cells te.zero := by
          rw [zeroV_cells hte]
          exact VRels.vals (zero_oneCell hte).1
        have : ∀ m, VRels ι (Own F ι σ.H) w ((List.replicate m te.zeroV).flatMap V.cells) (List.replicate m te.zero).flatten := fun m => by
          induction m with
          | zero => exact .nil
          | succ m ih => simp only [List.replicate_succ, List.flatMap_cons, List.flatten_cons]; exact hz1.append ih
        exact this len
      obtain ⟨w', hst, hO⟩ := out_splice (P := P) hh hn (us := (List.replicate len te.zeroV).flatMap V.cells) (p := i * te.size) (by rw [hul]; exact hmul)
        (fun c hc => by
          obtain ⟨v, hv, hcv⟩ := List.mem_flatMap.1 hc
          rw [List.eq_of_mem_replicate hv] at hcv
          exact hzf.2 c hcv) hrel (es' := es.take i ++ (List.replicate len te.zeroV ++ es.drop (i + len))) (by simp; omega)
        (fun v hv => by
          rcases List.mem_append.1 hv with h | h
          · exact h3 v (List.mem_of_mem_take h)
          · rcases List.mem_append.1 h with h | h
            · rw [List.eq_of_mem_replicate h]; exact zeroV_fits hte
            · exact h3 v (List.mem_of_mem_drop h)) hfl hl hg (off := off) (by rw [hoff, h1]) (v' := .tup []) (cv := .tuple #[]) (fun _ _ => .tup .nil)
      refine ⟨ι, _, _, _, _, w', ?_, hk, hO⟩
      have hlen0 : len ≠ 0 := by omega
      unfold execOp; rw [ho]
      cases len with
      | zero => exact absurd rfl hlen0
      | succ m => simp [resolve, invoke, builtin, hcx, Builtin.clear_, hdu, hz, hst]
theorem reg_clear {ops : Array Oper} {o : Oper} {l : List Oper} {K : St → Prop} {N k : Nat} {t : List (Nat × V)} {H : Heap} (x : Operand) (ty : TypeId) (ho : o.op = .call ⟨.builtin .clear, #[x], #[ty]⟩) (hg : o.guard = none) (hdst : o.dst = none) {ti te : TI} (hti : tiOf P ty = some ti) {e : TypeId} (hd : ti.d = .slice e) (hte : tiOf P e = some te)
    {n i len : Nat} {es : List V} (hx : evalV t x = .sl n i len) (hn : look n H = some (.rows te.size es)) (hi : i + len ≤ es.length) (h0 : 0 < len)
    (h : TrL P ops l K ⟨N, t, put n (.rows te.size (es.take i ++ (List.replicate len te.zeroV ++ es.drop (i + len)))) H, k⟩) : TrL P ops (o :: l) K ⟨N, t, H, k⟩ :=
  trL_op hg (by rw [hdst]; trivial) (op_clear x ty ho hti hd hte hx hn hi h0 (by rw [hdst]; exact h))
theorem call_exv {α : Type} {I : α → Nat → Prop} {R : α → V} {G : α → Heap} {H : Heap} {f : FuncId} {args : List V} {k : Nat} {K : V → Heap → Nat → Prop} (h : Fn P f args H k fun v H' k' => ∃ a, I a k' ∧ v = R a ∧ H' = G a) (hK : ∀ k' a, k ≤ k' → I a k' → K (R a) (G a) k') : @callF _ P f args H k ⟨K⟩ :=
 show Fn P f args H k K from h.frame (Hf := H) (G := []) (by rw [List.append_nil]) fun v H' k' hk ⟨a, e1, e2, e3⟩ => by rw [List.append_nil, e2, e3]; exact hK k' a hk e1
end
end Go.Sl
namespace Go.Proofs.YtjhnpebgfjefoaaDoor
open Go Go.Sl
structure Vl where
 k : Bool
 v : Int
deriving DecidableEq
def vlC (x : Vl) : V := .agg [bV x.k, uV x.v]
def clean (x : Vl) : Vl := if x.k then x else ⟨false, 0⟩
def vsum (a b : Vl) : Vl := ⟨a.k && b.k, IntKind.u64.wrap (a.v + b.v)⟩
structure Wk where
 regs : Nat → Vl
 hangs : Nat → Int
 path : Int
 left : Int
 lr : Int
 lrLoc : Int
def regsC (g : Nat → Vl) : List V := (List.range 8).flatMap fun r => [bV (g r).k, uV (g r).v]
def hangC (h : Nat → Int) : List V := (List.range 8).map fun r => uV (h r)
theorem lt8 {r : Nat} (h : r < 8) : r = 0 ∨ r = 1 ∨ r = 2 ∨ r = 3 ∨ r = 4 ∨ r = 5 ∨ r = 6 ∨ r = 7 := by omega
section
variable {f : V} {x : Wk} {r : Nat}
end
def iVs (l : List Int) : List V := l.map iV
def uVs (l : List Int) : List V := l.map uV
def vls (l : List Vl) : List V := l.map vlC
@[go_sem] theorem uVs_len (l : List Int) : (uVs l).length = l.length := List.length_map ..
@[go_sem] theorem uVs_at (l : List Int) (i : Nat) : (uVs l)[i]? = l[i]?.map uV := List.getElem?_map ..
@[go_sem] theorem uVs_get (l : List Int) (i : Nat) (h : i < (uVs l).length) : (uVs l)[i] = uV (l[i]'(by simpa [uVs] using h)) := by simp [uVs]
theorem nl_uVs (l : List Int) : NL (.ro 1 (uVs l)) := .ro fun v hv => by obtain ⟨a, _, rfl⟩ := List.mem_map.1 hv; exact .cons (.val _) .nil
def memI (x : Ins) : Bool := memB x.op
def reck (op a b : Int) : Int :=
 if op = 2 then IntKind.u64.wrap (a + b) else if op = 3 then IntKind.u64.wrap (a - b) else if op = 4 then x64 a b else if op = 5 then n64 a b else if op = 6 then o64 a b
 else if op = 7 then sl64 a (n64 b 63) else sr64 a (n64 b 63)
structure Fl where
 state : List Int
 write : List Vl
 pair : List Int
 place : List Int
 value : List Int
 path : List Int
def argW (w : Wk) (r : Bool) (n : Int) : Vl := if r then w.regs n.toNat else ⟨true, n⟩
def argH (w : Wk) (r : Bool) (n : Int) : Int := if r then w.hangs n.toNat else 0
def setW (w : Wk) (rd : Int) (v : Vl) (on : Int) : Wk := { w with regs := fun q => if q = rd.toNat then clean v else w.regs q, hangs := fun q => if q = rd.toNat then on else w.hangs q }
def condF (w : Wk) (f : Fl) (x : Ins) (k : Nat) (a : Vl) (on : Int) (works : Bool) : Fl :=
 let pr := if 0 < w.lr ∧ w.lrLoc = x.loc then f.pair.set k w.lr else f.pair
 if works then { f with pair := pr, write := f.write.set k a, value := f.value.set k on } else { f with pair := pr, state := f.state.set k 2, path := f.path.set k 0, place := f.place.set k 0 }
def condW (w : Wk) (x : Ins) (k : Nat) (works : Bool) : Wk :=
 if works then setW { w with lr := 0 } x.rd ⟨true, 0⟩ (sl64 1 (k : Nat)) else setW { w with lr := 0 } x.rd ⟨true, 1⟩ 0
def memF0 (w : Wk) (f : Fl) (x : Ins) (k : Nat) : Fl :=
 { f with state := f.state.set k 1, path := f.path.set k w.path, place := if 0 < x.dep then f.place.set k (w.hangs (x.dep - 1).toNat) else f.place }
def memF (w : Wk) (f : Fl) (x : Ins) (k : Nat) (read : Vl) (works : Bool) : Fl :=
 let f := memF0 w f x k
 let a := argW w x.aR x.aN
 let on := argH w x.aR x.aN
 if x.op = 10 ∨ x.op = 11 then { f with write := f.write.set k a, value := f.value.set k on }
 else if x.op = 12 then { f with write := f.write.set k (clean (vsum a read)), value := f.value.set k on }
 else if x.op = 14 then condF w f x k a on works else f
def memW (w : Wk) (x : Ins) (k : Nat) (read : Vl) (works : Bool) : Wk :=
 if x.op = 9 then setW w x.rd read (sl64 1 (k : Nat))
 else if x.op = 13 then { setW w x.rd read (sl64 1 (k : Nat)) with lr := (k : Nat) + 1, lrLoc := x.loc }
 else if x.op = 10 then w
 else if x.op = 11 ∨ x.op = 12 then setW w x.rd read (sl64 1 (k : Nat))
 else if x.op = 14 then condW w x k works else w
def brW (w : Wk) (x : Ins) : Wk := { w with path := o64 w.path (o64 (argH w x.aR x.aN) (argH w x.bR x.bN)) }
def brK (w : Wk) (x : Ins) : Bool := (argW w x.aR x.aN).k && (argW w x.bR x.bN).k
def brN (w : Wk) (x : Ins) : Int := if brK w x && (decide ((argW w x.aR x.aN).v = (argW w x.bR x.bN).v) == decide (x.op = 16)) then x.skip else 0
def plainW (w : Wk) (x : Ins) : Wk :=
 if x.op = 15 then w else if x.op = 1 then setW w x.rd (argW w x.aR x.aN) 0
 else setW w x.rd ⟨(argW w x.aR x.aN).k && (argW w x.bR x.bN).k, reck x.op (argW w x.aR x.aN).v (argW w x.bR x.bN).v⟩ (o64 (argH w x.aR x.aN) (argH w x.bR x.bN))
structure Ts where
 w : Wk
 f : Fl
 out : Int
 k : Nat
def zV : Vl := ⟨false, 0⟩
def stepT (reads : List Vl) (works : List Bool) (i : Nat) (x : Ins) (s : Ts) : Ts :=
 if 0 < s.out then { w := { s.w with left := o64 s.w.left (sl64 1 (i : Nat)) }, f := if memI x then { s.f with state := s.f.state.set s.k 2 } else s.f, out := s.out - 1, k := if memI x then s.k + 1 else s.k }
 else if memI x then { w := memW s.w x s.k (reads.getD s.k zV) (works.getD s.k false), f := memF s.w s.f x s.k (reads.getD s.k zV) (works.getD s.k false), out := s.out, k := s.k + 1 }
 else if isBr x.op then { s with w := brW s.w x, out := brN s.w x }
 else { s with w := plainW s.w x }
def stepB (x : Ins) (s : Ts) : Bool := !(decide (s.out ≤ 0) && !memI x && isBr x.op && !brK s.w x)
def runT (reads : List Vl) (works : List Bool) : Nat → List Ins → Ts → Ts × Bool
 | _, [], s => (s, true)
 | i, x :: l, s => if stepB x s then runT reads works (i + 1) l (stepT reads works i x s) else (stepT reads works i x s, false)
theorem drop_cons {α : Type} {l : List α} {i : Nat} {x : α} (h : l[i]? = some x) : l.drop i = x :: l.drop (i + 1) := by
 obtain ⟨h1, h2⟩ := List.getElem?_eq_some_iff.1 h
 rw [List.drop_eq_getElem_cons h1, h2]
def w0 : Wk := { regs := fun _ => ⟨true, 0⟩, hangs := fun _ => 0, path := 0, left := 0, lr := 0, lrLoc := 0 }
structure Os' where
 f : Fl
 left : List Int
 regs : List (Nat → Vl)
 whole : Bool
 k : Nat
def regsRows (l : List (Nat → Vl)) : List V := l.map fun g => .agg (regsC g)
def Os'.cs (s : Os') : List V := [.ro 1 (iVs s.f.state), .ro 2 (vls s.f.write), .ro 1 (iVs s.f.pair), .ro 1 (uVs s.f.place), .ro 1 (uVs s.f.value), .ro 1 (uVs s.f.path), .ro 1 (uVs s.left), .ro 16 (regsRows s.regs), bV s.whole]
open Go Go.Sl
def stK : List Int → List V
 | [] => []
 | n :: r => iV n :: r.map uV
def stSpec : List EK := List.replicate 41 .int
theorem stK_len (k : List Int) : (stK k).length = k.length := by cases k <;> simp [stK]
theorem eq_us : ∀ (a b : List Int) (m : Nat), a.length = m → b.length = m → eqCells (List.replicate m .int) (a.map uV) (b.map uV) = some (decide (a = b))
 | [], [], _, h, _ => by subst h; rfl
 | [], _ :: _, m, h, h' => by subst h; cases h'
 | _ :: _, [], m, h, h' => by subst h'; cases h
 | x :: a, y :: b, 0, h, _ => by cases h
 | x :: a, y :: b, m + 1, h, h' => by
  have := eq_us a b m (by simpa using h) (by simpa using h')
  simp only [List.map_cons, List.replicate_succ, eqCells, this, if_true, Option.map_some, Option.some.injEq, List.cons.injEq]
  rw [Bool.eq_iff_iff]; simp
theorem eq_stK {a b : List Int} (h : a.length = 41) (h' : b.length = 41) : eqCells stSpec (stK a) (stK b) = some (decide (a = b)) := by
 cases a with
 | nil => cases h
 | cons x a =>
  cases b with
  | nil => cases h'
  | cons y b =>
   have := eq_us a b 40 (by simpa using h) (by simpa using h')
   show eqCells (.int :: List.replicate 40 .int) (iV x :: a.map uV) (iV y :: b.map uV) = _
   simp only [eqCells, this, if_true, Option.map_some, Option.some.injEq, List.cons.injEq]
   rw [Bool.eq_iff_iff]; simp
def seenM (l : List (List Int)) : List (V × V) := l.map fun k => (.agg (stK k), bV true)
theorem seenM_len (l : List (List Int)) : (seenM l).length = l.length := List.length_map ..
theorem find_seen {k : List Int} (hk : k.length = 41) : ∀ {l : List (List Int)}, (∀ q ∈ l, q.length = 41) → findV stSpec (stK k) (seenM l) = some (if k ∈ l then some (bV true) else none)
 | [], _ => rfl
 | q :: l, h => by
  have ih := find_seen hk (l := l) fun r hr => h r (by simp [hr])
  have e := eq_stK hk (h q (by simp))
  unfold seenM at ih ⊢
  simp only [List.map_cons, findV]
  rw [e]
  by_cases hq : k = q
  ·subst hq; simp
  ·simp [hq, ih]
theorem ins_seen {k : List Int} (hk : k.length = 41) : ∀ {l : List (List Int)}, (∀ q ∈ l, q.length = 41) → insV stSpec (stK k) (bV true) (seenM l) = some (seenM (if k ∈ l then l else l ++ [k]))
 | [], _ => by simp [seenM, insV]
 | q :: l, h => by
  have ih := ins_seen hk (l := l) fun r hr => h r (by simp [hr])
  have e := eq_stK hk (h q (by simp))
  unfold seenM at ih ⊢
  simp only [List.map_cons, insV]
  rw [e]
  by_cases hq : k = q
  ·subst hq; simp
  ·by_cases hm : k ∈ l
   ·simp [hq, ih, hm]
   ·simp [hq, ih, hm]
def cmpI (a b : Int) : Int := if a < b then -1 else if b < a then 1 else 0
def cmpL : List Int → List Int → Int
 | [], [] => 0
 | [], _ :: _ => -1
 | _ :: _, [] => 1
 | a :: r, b :: s => if cmpI a b = 0 then cmpL r s else cmpI a b
def ltL (a b : List Int) : Bool := decide (cmpL a b < 0)
theorem cmpI_self (a : Int) : cmpI a a = 0 := by simp [cmpI]
theorem cmpI_zero {a b : Int} : cmpI a b = 0 ↔ a = b := by unfold cmpI; (repeat' split) <;> omega
theorem cmpI_neg {a b : Int} : cmpI a b < 0 ↔ a < b := by unfold cmpI; (repeat' split) <;> omega
theorem cmpI_swap (a b : Int) : cmpI b a = - cmpI a b := by unfold cmpI; (repeat' split) <;> omega
theorem cmpL_self : ∀ a : List Int, cmpL a a = 0
 | [] => rfl
 | a :: r => by simp [cmpL, cmpI_self, cmpL_self r]
theorem cmpL_zero : ∀ {a b : List Int}, cmpL a b = 0 → a = b
 | [], [], _ => rfl
 | [], _ :: _, h => by simp [cmpL] at h
 | _ :: _, [], h => by simp [cmpL] at h
 | a :: r, b :: s, h => by
  unfold cmpL at h
  split at h
  ·rename_i h1; rw [cmpI_zero.1 h1, cmpL_zero h]
  ·rename_i h1; exact absurd h h1
theorem cmpL_swap : ∀ a b : List Int, cmpL b a = - cmpL a b
 | [], [] => rfl
 | [], _ :: _ => rfl
 | _ :: _, [] => rfl
 | a :: r, b :: s => by
  unfold cmpL
  rw [cmpI_swap a b, cmpL_swap r s]
  by_cases h : cmpI a b = 0
  ·rw [if_pos h, if_pos (by omega)]
  ·rw [if_neg h, if_neg (by omega)]
theorem cmpL_trans : ∀ {a b c : List Int}, cmpL a b < 0 → cmpL b c < 0 → cmpL a c < 0
 | [], b, [], h, h' => by cases b <;> simp [cmpL] at h h'
 | [], _, _ :: _, _, _ => by simp [cmpL]
 | _ :: _, [], c, h, h' => by simp [cmpL] at h
 | _ :: _, _ :: _, [], h, h' => by simp [cmpL] at h'
 | a :: r, b :: s, c :: u, h, h' => by
  unfold cmpL at h h' ⊢
  by_cases e1 : cmpI a b = 0
  ·rw [if_pos e1] at h
   have := cmpI_zero.1 e1; subst this
   by_cases e2 : cmpI a c = 0
   ·rw [if_pos e2] at h' ⊢; exact cmpL_trans h h'
   ·rw [if_neg e2] at h' ⊢; exact h'
  ·rw [if_neg e1] at h
   by_cases e2 : cmpI b c = 0
   ·have := cmpI_zero.1 e2; subst this
    rw [if_neg e1]; exact h
   ·rw [if_neg e2] at h'
    have h1 := cmpI_neg.1 h
    have h2 := cmpI_neg.1 h'
    have h3 : a < c := by omega
    rw [if_neg (fun h => by have := cmpI_zero.1 h; omega)]
    exact cmpI_neg.2 h3
theorem ltL_trans {a b c : List Int} (h : ltL a b = true) (h' : ltL b c = true) : ltL a c = true := by
 unfold ltL at *
 simp only [decide_eq_true_eq] at *
 exact cmpL_trans h h'
theorem ltL_irr (a : List Int) : ltL a a = false := by simp [ltL, cmpL_self]
theorem ltL_total {a b : List Int} (h : ltL a b = false) (h' : ltL b a = false) : a = b := by
 unfold ltL at *
 simp only [decide_eq_false_iff_not] at *
 have := cmpL_swap a b
 exact cmpL_zero (by omega)
def Rising (l : List (List Int)) : Prop := l.Pairwise fun a b => ltL a b = true
theorem rising_eq : ∀ {l m : List (List Int)}, Rising l → Rising m → (∀ x, x ∈ l ↔ x ∈ m) → l = m
 | [], [], _, _, _ => rfl
 | [], y :: m, _, _, h => by have := (h y).2 (by simp); simp at this
 | x :: l, [], _, _, h => by have := (h x).1 (by simp); simp at this
 | x :: l, y :: m, hl, hm, h => by
  obtain ⟨h1, h2⟩ := List.pairwise_cons.1 hl
  obtain ⟨h3, h4⟩ := List.pairwise_cons.1 hm
  have hxy : x = y := by
   rcases List.mem_cons.1 ((h x).1 (by simp)) with e | e
   ·exact e
   ·rcases List.mem_cons.1 ((h y).2 (by simp)) with e' | e'
    ·exact e'.symm
    ·have := ltL_trans (h1 y e') (h3 x e)
     rw [ltL_irr] at this; cases this
  subst hxy
  congr 1
  refine rising_eq h2 h4 fun z => ⟨fun hz => ?_, fun hz => ?_⟩
  ·rcases List.mem_cons.1 ((h z).1 (by simp [hz])) with e | e
   ·subst e; have := h1 z hz; rw [ltL_irr] at this; cases this
   ·exact e
  ·rcases List.mem_cons.1 ((h z).2 (by simp [hz])) with e | e
   ·subst e; have := h3 z hz; rw [ltL_irr] at this; cases this
   ·exact e
def insR (x : List Int) : List (List Int) → List (List Int)
 | [] => [x]
 | y :: l => if ltL x y then x :: y :: l else if x = y then y :: l else y :: insR x l
def setOf (l : List (List Int)) : List (List Int) := l.foldr insR []
theorem mem_insR {x z : List Int} : ∀ {l : List (List Int)}, z ∈ insR x l ↔ z = x ∨ z ∈ l
 | [] => by simp [insR]
 | y :: l => by
  unfold insR
  split
  ·simp
  ·split
   ·rename_i h; subst h; simp
   ·rw [List.mem_cons, mem_insR, List.mem_cons]
    constructor
    ·rintro (h | h | h) <;> simp [h]
    ·rintro (h | h | h) <;> simp [h]
theorem rising_insR {x : List Int} : ∀ {l : List (List Int)}, Rising l → Rising (insR x l)
 | [], _ => by simp [insR, Rising]
 | y :: l, h => by
  obtain ⟨h1, h2⟩ := List.pairwise_cons.1 h
  unfold insR
  split
  ·rename_i hxy
   refine List.pairwise_cons.2 ⟨fun z hz => ?_, h⟩
   rcases List.mem_cons.1 hz with rfl | hz
   ·exact hxy
   ·exact ltL_trans hxy (h1 z hz)
  ·rename_i hxy
   split
   ·exact h
   ·rename_i hne
    refine List.pairwise_cons.2 ⟨fun z hz => ?_, rising_insR h2⟩
    rcases mem_insR.1 hz with rfl | hz
    ·cases hyx : ltL y z
     ·exact absurd (ltL_total (by simpa using hxy) hyx) hne
     ·rfl
    ·exact h1 z hz
theorem mem_setOf {x : List Int} : ∀ {l : List (List Int)}, x ∈ setOf l ↔ x ∈ l
 | [] => by simp [setOf]
 | y :: l => by
  show x ∈ insR y (setOf l) ↔ _
  rw [mem_insR, mem_setOf, List.mem_cons]
theorem rising_setOf : ∀ l : List (List Int), Rising (setOf l)
 | [] => List.Pairwise.nil
 | y :: l => rising_insR (rising_setOf l)
theorem setOf_eq {l m : List (List Int)} (hl : Rising l) (h : ∀ x, x ∈ l ↔ x ∈ m) : l = setOf m := rising_eq hl (rising_setOf m) fun x => (h x).trans mem_setOf.symm
theorem setOf_congr {l m : List (List Int)} (h : ∀ x, x ∈ l ↔ x ∈ m) : setOf l = setOf m := setOf_eq (rising_setOf l) fun x => mem_setOf.trans (h x)
theorem nl_us (l : List Int) : NLs (uVs l) := fun v hv => by obtain ⟨a, _, rfl⟩ := List.mem_map.1 hv; exact .val _
theorem us_one (l : List Int) : (uVs l).all V.one = true := by simp [uVs, V.one]
theorem us_frz (l : List Int) (S : List Nat) (H : Heap) (d : Nat) : (uVs l).map (frz S H d) = uVs l := by
 unfold uVs; rw [List.map_map]; exact List.map_congr_left fun x _ => frz_val
@[go_sem] theorem uVs_drop (l : List Int) (n : Nat) : (uVs l).drop n = uVs (l.drop n) := (List.map_drop ..).symm
theorem nl_stK (k : List Int) : NLs (stK k) := by
 cases k with
 | nil => exact .nil
 | cons n r => exact .cons (.val _) (nl_us r)
end Go.Proofs.YtjhnpebgfjefoaaDoor
