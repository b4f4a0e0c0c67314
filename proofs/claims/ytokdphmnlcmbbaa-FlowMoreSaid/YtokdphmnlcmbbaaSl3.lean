/- States of a frame; triples for operations, code and functions; the rules of the forms of code; the frame of a call. -/
import Derived.Test.YtokdphmnlcmbbaaSl2
set_option linter.unusedVariables false
set_option linter.unusedSimpArgs false
namespace Go.Sl

structure St where
  N : Nat
  t : List (Nat × V)
  H : Heap
  k : Nat

def get : List (Nat × V) → Nat → V
  | [], _ => .any
  | (j, v) :: r, i => if i = j then v else get r i

def setT (t : List (Nat × V)) : Option Tmp → V → List (Nat × V)
  | none, _ => t
  | some d, v => (d, v) :: t

/-- any name -/
def All : Nat → Prop := fun _ => True

structure Holds (fr : Nat → Prop) (F : Nat → Prop) (ι : Names) (σ : St) (a : Act) (w : World) : Prop where
  defers : a.defers = []
  size : a.tmps.size = σ.N
  tmps : ∀ i, VRel ι (Own F ι σ.H) w (get σ.t i) (a.tmps.getD i undef)
  rep : Rep F ι σ.H w
  fresh : ∀ n, fr n → σ.k ≤ n → ι n = none

def constV : Value → V
  | .agg _ => .any
  | .tuple _ => .any
  | v => .val v

def evalV (t : List (Nat × V)) : Operand → V
  | .tmp i => get t i
  | .const v => constV v
  | .global g => .val (.pointer (some ⟨g, 0, none⟩))
  | .func f => .fn (.func f) [] []

structure Ext (fr : Nat → Prop) (ι : Names) (H : Heap) (k : Nat) (w : World) (ι' : Names) (H' : Heap) (k' : Nat) (w' : World) : Prop where
  kept : Kept ι H w ι' H' w'
  le : k ≤ k'
  same : ∀ n, (fr n → n < k) → ι' n = ι n
  dom : ∀ n, n ∈ H'.map Prod.fst → n ∈ H.map Prod.fst ∨ (fr n ∧ k ≤ n)

theorem Ext.refl (fr : Nat → Prop) (ι : Names) (H : Heap) (k : Nat) (w : World) : Ext fr ι H k w ι H k w := ⟨.refl _ _ _, Nat.le_refl _, fun _ _ => rfl, fun _ h => .inl h⟩

theorem Ext.trans {fr : Nat → Prop} {ι ι' ι'' : Names} {H H' H'' : Heap} {k k' k'' : Nat} {w w' w'' : World} (h : Ext fr ι H k w ι' H' k' w') (h' : Ext fr ι' H' k' w' ι'' H'' k'' w'') : Ext fr ι H k w ι'' H'' k'' w'' :=
  ⟨h.kept.trans h'.kept, Nat.le_trans h.le h'.le, fun n hn => (h'.same n fun hf => Nat.lt_of_lt_of_le (hn hf) h.le).trans (h.same n hn), fun n hn => (h'.dom n hn).elim (h.dom n) fun hk => .inr ⟨hk.1, Nat.le_trans h.le hk.2⟩⟩

structure Out (fr : Nat → Prop) (F : Nat → Prop) (ι : Names) (H : Heap) (k : Nat) (w : World) (ι' : Names) (v : V) (cv : Value) (H' : Heap) (k' : Nat) (w' : World) : Prop where
  ext : Ext fr ι H k w ι' H' k' w'
  rep : Rep F ι' H' w'
  fresh : ∀ n, fr n → k' ≤ n → ι' n = none
  val : VRel ι' (Own F ι' H') w' v cv

section
variable {fr : Nat → Prop} {F : Nat → Prop} {ι ι' : Names} {σ σ' : St} {a a' : Act} {w w' : World}

theorem Holds.eval (h : Holds fr F ι σ a w) (x : Operand) : VRel ι (Own F ι σ.H) w (evalV σ.t x) (a.eval x) := by
  cases x with
  | tmp i => exact h.tmps i
  | const v =>
    simp only [evalV, Act.eval]
    cases v <;> first | exact .any _ | exact .val _ rfl
  | global g => exact .val _ rfl
  | func f => exact .fn .nil .nil

theorem getD_setIfInBounds (xs : Array Value) (d i : Nat) (v : Value) (h : d < xs.size) : (xs.setIfInBounds d v).getD i undef = if i = d then v else xs.getD i undef := by
  simp only [Array.getD_eq_getD_getElem?, Array.getElem?_setIfInBounds]
  by_cases hi : i = d
  · subst hi; simp [h]
  · simp [hi, Ne.symm hi]

theorem Holds.step (h : Holds fr F ι σ a w) {v : V} {cv : Value} {H' : Heap} {k' : Nat} (O : Out fr F ι σ.H σ.k w ι' v cv H' k' w') {dst : Option Tmp} (hd : ∀ d, dst = some d → d < σ.N) :
    Holds fr F ι' ⟨σ.N, setT σ.t dst v, H', k'⟩ (a.put dst cv) w' := by
  have hS := O.ext.kept.stays (F := F)
  refine ⟨?_, ?_, ?_, O.rep, O.fresh⟩
  · cases dst <;> exact h.defers
  · cases dst with
    | none => exact h.size
    | some d => simp [Act.put, h.size]
  · intro i
    cases dst with
    | none => exact (h.tmps i).stays hS
    | some d =>
      have hlt := hd d rfl
      simp only [setT, get, Act.put]
      rw [getD_setIfInBounds _ _ _ _ (by rw [h.size]; exact hlt)]
      split
      · exact O.val
      · exact (h.tmps i).stays hS

/-- an operation: from a state to a value, a heap, a next name -/
def OpT (fr : Nat → Prop) (P : Program) (o : Oper) (σ : St) (K : V → Heap → Nat → Prop) : Prop :=
  ∀ F ι a w, Holds fr F ι σ a w → ∀ next Q, (∀ ι' v cv H' k' w', K v H' k' → Out fr F ι σ.H σ.k w ι' v cv H' k' w' → next (a.put o.dst cv) w') → o.wp P a w next Q

def TrL (P : Program) (ops : Array Oper) (l : List Oper) (K : St → Prop) (σ : St) : Prop :=
  ∀ F ι a w, Holds All F ι σ a w → ∀ Q : Exit → Act → World → Prop,
    (∀ ι' σ' a' w', K σ' → Holds All F ι' σ' a' w' → Ext All ι σ.H σ.k w ι' σ'.H σ'.k w' → Q .normal a' w') → wpList P ops Q l a w

def Tr (P : Program) (c : Code) (Q : Exit → St → Prop) (σ : St) : Prop :=
  ∀ F ι a w, Holds All F ι σ a w → c.wp P (fun e a' w' => ∃ ι' σ', Q e σ' ∧ Holds All F ι' σ' a' w' ∧ Ext All ι σ.H σ.k w ι' σ'.H σ'.k w') a w

variable {P : Program} {Q Q' : Exit → St → Prop}

theorem Tr.mono {c : Code} (h : Tr P c Q σ) (hq : ∀ e σ', Q e σ' → Q' e σ') : Tr P c Q' σ := fun F ι a w hh =>
  wp_mono (h F ι a w hh) fun e a' w' ⟨ι', σ', q, h1, h2⟩ => ⟨ι', σ', hq _ _ q, h1, h2⟩

theorem tr_skip (h : Q .normal σ) : Tr P .skip Q σ := fun _ ι _ w hh => wp_skip ⟨ι, σ, h, hh, Ext.refl _ _ _ _ _⟩
theorem tr_label {l : Nat} (h : Q .normal σ) : Tr P (.label l) Q σ := fun _ ι _ w hh => wp_label ⟨ι, σ, h, hh, Ext.refl _ _ _ _ _⟩
theorem tr_exit {id : Nat} (h : Q (.exit id) σ) : Tr P (.exit id) Q σ := fun _ ι _ w hh => wp_exit ⟨ι, σ, h, hh, Ext.refl _ _ _ _ _⟩
theorem tr_ret (h : Q .ret σ) : Tr P .ret Q σ := fun _ ι _ w hh => wp_ret ⟨ι, σ, h, hh, Ext.refl _ _ _ _ _⟩

/-- what stands behind a first piece -/
def Then (K : St → Prop) (Q : Exit → St → Prop) : Exit → St → Prop
  | .normal, σ => K σ
  | e, σ => Q e σ

theorem tr_seq {x y : Code} (h : Tr P x (Then (Tr P y Q) Q) σ) : Tr P (.seq x y) Q σ := fun F ι a w hh => by
  refine wp_seq (wp_mono (h F ι a w hh) ?_)
  rintro e a' w' ⟨ι', σ', q, h1, h2⟩
  cases e with
  | normal => exact wp_mono (q F ι' a' w' h1) fun e a'' w'' ⟨ι'', σ'', q', h1', h2'⟩ => ⟨ι'', σ'', q', h1', h2.trans h2'⟩
  | _ => exact ⟨ι', σ', q, h1, h2⟩

theorem tr_cond {c : Operand} {x y : Code} {b : Bool} (hc : evalV σ.t c = .val (.bool b)) (ht : b = true → Tr P x Q σ) (hf : b = false → Tr P y Q σ) : Tr P (.cond c x y) Q σ := fun F ι a w hh => by
  have he := hh.eval c
  rw [hc] at he
  have : a.eval c = .bool b := by generalize a.eval c = x at he; cases he; rfl
  exact wp_cond_split this (fun e => ht e F ι a w hh) (fun e => hf e F ι a w hh)

def InBlock (id : Nat) (Q : Exit → St → Prop) : Exit → St → Prop
  | .exit id', σ => if id' = id then Q .normal σ else Q (.exit id') σ
  | e, σ => Q e σ

theorem tr_block {id : Nat} {c : Code} (h : Tr P c (InBlock id Q) σ) : Tr P (.block id c) Q σ := fun F ι a w hh => by
  refine wp_block (wp_mono (h F ι a w hh) ?_)
  rintro e a' w' ⟨ι', σ', q, h1, h2⟩
  cases e with
  | exit id' =>
    simp only [InBlock, Exit.inBlock] at q ⊢
    split at q <;> simp only [*, if_true, if_false] <;> exact ⟨ι', σ', q, h1, h2⟩
  | _ => exact ⟨ι', σ', q, h1, h2⟩

theorem tr_loop {c : Code} (I : Nat → St → Prop) (n : Nat) (h0 : I n σ) (round : ∀ n σ, I n σ → Tr P c (Then (fun σ' => ∃ m, m < n ∧ I m σ') Q) σ) : Tr P (.loop c) Q σ := by
  intro F ι a w hh b k cs
  have key : ∀ n σ ι a w, I n σ → Holds All F ι σ a w →
      ∃ e a' w', (∃ ι' σ', Q e σ' ∧ Holds All F ι' σ' a' w' ∧ Ext All ι σ.H σ.k w ι' σ'.H σ'.k w') ∧ Arrives P (lone (b.at a (.code c :: .inLoop c :: k)) cs w) b k cs e a' w' := by
    intro n
    induction n using Nat.strongRecOn with
    | _ n ih =>
      intro σ ι a w hI hh
      obtain ⟨e, a₁, w₁, ⟨ι₁, σ₁, hq, hh₁, hx⟩, harr⟩ := round n σ hI F ι a w hh b (.inLoop c :: k) cs
      cases e with
      | normal =>
        obtain ⟨m, hlt, hI₁⟩ := hq
        obtain ⟨e₂, a₂, w₂, ⟨ι₂, σ₂, hq₂, hh₂, hx₂⟩, harr₂⟩ := ih m hlt σ₁ ι₁ a₁ w₁ hI₁ hh₁
        exact ⟨e₂, a₂, w₂, ⟨ι₂, σ₂, hq₂, hh₂, hx.trans hx₂⟩, .of_steps (Steps.trans harr (.one step_inLoop)) harr₂⟩
      | exit id => exact ⟨_, a₁, w₁, ⟨ι₁, σ₁, hq, hh₁, hx⟩, .pass (x := .inLoop c) rfl (fun _ _ => .inl (by simp)) harr⟩
      | goto l => exact ⟨_, a₁, w₁, ⟨ι₁, σ₁, hq, hh₁, hx⟩, .pass (x := .inLoop c) rfl (fun _ _ => .inl (by simp)) harr⟩
      | ret => exact ⟨_, a₁, w₁, ⟨ι₁, σ₁, hq, hh₁, hx⟩, .pass (x := .inLoop c) rfl (fun _ _ => .inl (by simp)) harr⟩
      | panic ch => exact ⟨_, a₁, w₁, ⟨ι₁, σ₁, hq, hh₁, hx⟩, .pass (x := .inLoop c) rfl (fun _ _ => .inl (by simp)) harr⟩
      | outgrown => exact ⟨_, a₁, w₁, ⟨ι₁, σ₁, hq, hh₁, hx⟩, .pass (x := .inLoop c) rfl (fun _ _ => .inl (by simp)) harr⟩
  obtain ⟨e, a', w', hq, harr⟩ := key n σ ι a w h0 hh
  exact ⟨e, a', w', hq, .of_steps (.one step_loop) harr⟩

/-- less is known -/
structure Weaker (σ σ' : St) : Prop where
  h : ∀ F ι a w, Holds All F ι σ a w → ∃ ι', Holds All F ι' σ' a w ∧ Ext All ι σ.H σ.k w ι' σ'.H σ'.k w

theorem Tr.weaken {c : Code} (hw : Weaker σ σ') (h : Tr P c Q σ') : Tr P c Q σ := fun F ι a w hh => by
  obtain ⟨ι', h1, h2⟩ := hw.h F ι a w hh
  exact wp_mono (h F ι' a w h1) fun e a'' w'' ⟨ι'', σ'', q', h1', h2'⟩ => ⟨ι'', σ'', q', h1', h2.trans h2'⟩

theorem Weaker.refl (σ : St) : Weaker σ σ := ⟨fun _ ι _ _ h => ⟨ι, h, Ext.refl _ _ _ _ _⟩⟩
theorem Weaker.trans {σ σ' σ'' : St} (h : Weaker σ σ') (h' : Weaker σ' σ'') : Weaker σ σ'' := ⟨fun F ι a w hh => by
  obtain ⟨ι', h1, h2⟩ := h.h F ι a w hh
  obtain ⟨ι'', h3, h4⟩ := h'.h F ι' a w h1
  exact ⟨ι'', h3, h2.trans h4⟩⟩

/-- temporaries are forgotten, or stand otherwise -/
theorem Weaker.tmps {N k : Nat} {H : Heap} {t t' : List (Nat × V)} (h : ∀ i, get t' i = .any ∨ get t' i = get t i) : Weaker ⟨N, t, H, k⟩ ⟨N, t', H, k⟩ :=
  ⟨fun _ ι _ _ hh => ⟨ι, ⟨hh.defers, hh.size, fun i => by
    rcases h i with e | e
    · rw [e]; exact .any _
    · rw [e]; exact hh.tmps i, hh.rep, hh.fresh⟩, Ext.refl _ _ _ _ _⟩⟩

theorem Weaker.perm {N k : Nat} {H H' : Heap} {t : List (Nat × V)} (p : H.Perm H') : Weaker ⟨N, t, H, k⟩ ⟨N, t, H', k⟩ :=
  ⟨fun _ ι _ _ hh => ⟨ι, ⟨hh.defers, hh.size, fun i => (hh.tmps i).stays (Kept.perm p).stays, hh.rep.perm p, hh.fresh⟩, Kept.perm p, Nat.le_refl _, fun _ _ => rfl, fun _ h => .inl ((p.map _).mem_iff.2 h)⟩⟩

theorem Weaker.del {N k : Nat} {H : Heap} {t : List (Nat × V)} (n : Nat) : Weaker ⟨N, t, H, k⟩ ⟨N, t, del n H, k⟩ :=
  ⟨fun _ ι _ _ hh => ⟨ι, ⟨hh.defers, hh.size, fun i => (hh.tmps i).stays (kept_del hh.rep n).stays, hh.rep.del n, hh.fresh⟩, kept_del hh.rep n, Nat.le_refl _, fun _ _ => rfl, fun _ h => .inl ((names_del_sub n H).mem h)⟩⟩

/-! ## functions -/

def Enters (P : Program) (f : FuncId) : Prop := ∃ fn, P.funcs[f]? = some fn ∧ (fn.name == "runtime.NumGoroutine") = false ∧ fn.body.isNone = false

structure Fn (P : Program) (f : FuncId) (args : List V) (H : Heap) (k : Nat) (K : V → Heap → Nat → Prop) : Prop where
  enters : Enters P f
  calls : ∀ F ι w cargs, VRels ι (Own F ι H) w args cargs → Rep F ι H w → (∀ n, k ≤ n → ι n = none) →
    Calls P f cargs.toArray w fun e w' => ∃ ι' v cv H' k', e = .returned cv ∧ K v H' k' ∧ Out All F ι H k w ι' v cv H' k' w'

theorem Fn.mono {f : FuncId} {args : List V} {H : Heap} {k : Nat} {K K' : V → Heap → Nat → Prop} (h : Fn P f args H k K) (hk : ∀ v H' k', K v H' k' → K' v H' k') : Fn P f args H k K' :=
  ⟨h.enters, fun F ι w cargs h1 h2 h3 => (h.calls F ι w cargs h1 h2 h3).mono fun _ _ ⟨ι', v, cv, H', k', e, q, o⟩ => ⟨ι', v, cv, H', k', e, hk _ _ _ q, o⟩⟩

theorem Out.frame {H H' G : Heap} {k k' : Nat} {v : V} {cv : Value} (R : Rep F ι (H ++ G) w) (hf : ∀ n, fr n → k ≤ n → ι n = none) (O : Out fr (Fr F ι G) ι H k w ι' v cv H' k' w') :
    Out fr F ι (H ++ G) k w ι' v cv (H' ++ G) k' w' := by
  have hn := R.names
  simp only [List.map_append] at hn
  rw [List.nodup_append] at hn
  have hG : ∀ n, n ∈ G.map Prod.fst → fr n → n < k := fun n h hfn => by
    obtain ⟨⟨m, b⟩, hm, he⟩ := List.mem_map.1 h
    simp only at he; subst he
    obtain ⟨l, hl, _⟩ := R.own m b (List.mem_append.2 (.inr hm))
    refine Nat.lt_of_not_le fun hk => ?_
    rw [hf m hfn hk] at hl; cases hl
  have hd : ∀ n, n ∈ H'.map Prod.fst → n ∉ G.map Prod.fst := fun n h hg => by
    rcases O.ext.dom n h with h' | h'
    · exact hn.2.2 n h' n hg rfl
    · have := hG n hg h'.1; omega
  have hFr : Fr F ι' G = Fr F ι G := funext fun b => propext (Fr.later R O.ext.kept.le b)
  refine ⟨⟨Kept.frame R O.ext.kept, O.ext.le, O.ext.same, ?_⟩, Rep.give R O.ext.kept O.rep hd, O.fresh, ?_⟩
  · intro n h
    simp only [List.map_append, List.mem_append] at h ⊢
    rcases h with h | h
    · exact (O.ext.dom n h).imp .inl id
    · exact .inl (.inr h)
  · rw [own_split_eq, hFr]; exact O.val

theorem Out.perm_in {H H1 H' : Heap} {k k' : Nat} {v : V} {cv : Value} (p : H.Perm H1) (O : Out fr F ι H1 k w ι' v cv H' k' w') : Out fr F ι H k w ι' v cv H' k' w' :=
  ⟨⟨(Kept.perm p).trans O.ext.kept, O.ext.le, O.ext.same, fun n h => (O.ext.dom n h).imp (fun h => (p.map _).mem_iff.2 h) id⟩, O.rep, O.fresh, O.val⟩

/-- the frame of a call -/
theorem Fn.frame {f : FuncId} {args : List V} {H Hf G : Heap} {k : Nat} {R K : V → Heap → Nat → Prop} (h : Fn P f args Hf k R) (p : H.Perm (Hf ++ G))
    (hk : ∀ v H' k', k ≤ k' → R v H' k' → K v (H' ++ G) k') : Fn P f args H k K := by
  refine ⟨h.enters, fun F ι w cargs h1 h2 h3 => ?_⟩
  have R' := h2.perm p
  have e : Own F ι H = Own (Fr F ι G) ι Hf := by
    rw [← own_split_eq]; exact funext fun b => propext ⟨fun h => h.imp id (OwnH.perm p b).1, fun h => h.imp id (OwnH.perm p b).2⟩
  rw [e] at h1
  refine (h.calls (Fr F ι G) ι w cargs h1 R'.lend h3).mono ?_
  rintro e w' ⟨ι', v, cv, H', k', he, hr, hO⟩
  exact ⟨ι', v, cv, H' ++ G, k', he, hk v H' k' hO.ext.le hr, Out.perm_in p (Out.frame R' (fun n _ => h3 n) hO)⟩

end
end Go.Sl
