/- What a reading of an argument says of the argument, as abstract values; the row of a law out of its contract. -/
import Derived.Test.YtokdphmnlcmbbaaSl16
import Derived.JoinedOf
import Derived.SizedLaws
import Derived.Carry
import Derived.OpenShut
import Derived.WideShapes
import Derived.KernelRfl
set_option linter.unusedVariables false
set_option linter.unusedSimpArgs false
namespace Go.Sl
open Go.ChangeShapes Go.RowKit Go.WideShapes

/-- nothing is owned -/
def No : Nat → Prop := fun _ => False
def noN : Names := fun _ => none

structure ImpAs (P : Program) (t : TypeId) {α : Type} (ok : α → Prop) (f : α → List V) : Prop where
  nl : ∀ a, NLs (f a)
  one : ∀ a, ok a → (f a).all V.one = true
  len : ∀ a, ok a → (f a).length = P.cellsOf t
  imp : ∀ {H : Type} {enc : TypeId × Value → H} {w : World} {base : Nat} {held : Bool} {fuel : Nat} {cs : List Value} {x : DataW H × List MemPlace}, DataW.trod enc P w base (fun _ => true) held fuel t cs = some x → ∃ a, ok a ∧ VRels noN No w (f a) cs

section
variable {P : Program} {t e : TypeId}

theorem imp_bool (ht : P.underlying t = some .bool) (hc : P.cellsOf t = 1) : ImpAs P t (fun _ : Bool => True) fun b => [.val (.bool b)] where
  nl a := .cons (.val _) .nil
  one a _ := rfl
  len a _ := hc.symm
  imp h := by
    obtain ⟨b, rfl, _⟩ := DataW.trod_bool ht h
    exact ⟨b, trivial, .cons (.val _ rfl) .nil⟩

theorem imp_int {k : IntKind} (ht : P.underlying t = some (.int k)) (hc : P.cellsOf t = 1) : ImpAs P t (fun n : Int => (Lit.int k n).wf = true) fun n => [.val (.int k n)] where
  nl a := .cons (.val _) .nil
  one a _ := rfl
  len a _ := hc.symm
  imp h := by
    obtain ⟨n, rfl, _, hw⟩ := DataW.trod_int ht h
    exact ⟨n, hw, .cons (.val _ rfl) .nil⟩

theorem imp_string (ht : P.underlying t = some .string) (hc : P.cellsOf t = 1) : ImpAs P t (fun s : ByteArray => s.size ≤ maxLen) fun s => [.val (.string s)] where
  nl a := .cons (.val _) .nil
  one a _ := rfl
  len a _ := hc.symm
  imp h := by
    obtain ⟨s, rfl, _, hw⟩ := DataW.trod_string ht h
    exact ⟨s, hw, .cons (.val _ rfl) .nil⟩

def sliceOf {α : Type} (sz : Nat) (el : α → V) : Option (List α) → V
  | none => .val (.slice none 0 0)
  | some l => .ro sz (l.map el)

theorem imp_slice {α : Type} {ok : α → Prop} {f : α → List V} {sz : Nat} (el : α → V) (ht : P.underlying t = some (.slice e)) (hc : P.cellsOf t = 1) (hsz : P.cellsOf e = sz) (hpos : 0 < sz) (hel : ∀ a, ok a → (el a).cells = f a) (hnl : ∀ a, NLs (el a).cells)
    (h : ImpAs P e ok f) : ImpAs P t (fun o : Option (List α) => ∀ l, o = some l → l.length ≤ maxLen ∧ ∀ a ∈ l, ok a) fun o => [sliceOf sz el o] where
  nl o := .cons (by
    cases o with
    | none => exact .val _
    | some l => exact .ro fun v hv => by obtain ⟨a, _, rfl⟩ := List.mem_map.1 hv; exact hnl a) .nil
  one o _ := by cases o <;> rfl
  len o _ := hc.symm
  imp {H enc w base held fuel cs x} hr := by
    rcases DataW.trod_slice ht hr with ⟨rfl, _⟩ | ⟨a, len, cap, elems, rest, n, _, rfl, _, hb, hl, hm, hlen, hel', _, _⟩
    · exact ⟨none, ⟨fun l h => (nomatch h), .cons (.val _ rfl) .nil⟩⟩
    · rw [hsz] at hel'
      rcases Nat.eq_zero_or_pos len with h0 | h0
      · subst h0
        exact ⟨some [], fun l h => (by cases h; simp), .cons .ro0 .nil⟩
      · have key : ∀ i, i < len → ∃ csi, w.cells? base (a.add (i * sz)) sz = some csi ∧ ∃ b, ok b ∧ VRels noN No w (f b) csi := by
          intro i hi
          obtain ⟨y, hy⟩ : ∃ y, elems[i]? = some y := ⟨_, List.getElem?_eq_getElem (by omega)⟩
          have := hel' i hi
          rw [hy, Option.bind_eq_some_iff] at this
          obtain ⟨csi, h1, h2⟩ := this
          obtain ⟨b, hb1, hb2⟩ := h.imp h2
          exact ⟨csi, h1, b, hb1, hb2⟩
        obtain ⟨cs0, hcs0, _⟩ := key 0 h0
        obtain ⟨_, hcl, hcell⟩ := World.cells?_some hcs0
        have h00 := hcell 0 hpos
        rw [List.getElem?_eq_getElem (by omega)] at h00
        simp only [Nat.zero_mul, Addr.add, if_true] at h00
        obtain ⟨b, off, spot⟩ := a
        unfold World.cell? at h00
        split at h00
        · rename_i c ty fr hw
          split at h00
          · cases h00
          · rename_i hsp
            have hsp : spot = none := by cases spot <;> simp_all
            subst hsp
            have hadd : ∀ n, (Addr.mk b off none).add n = ⟨b, off + n, none⟩ := fun n => by unfold Addr.add; split <;> simp_all
            have hw' : w.heap[b]? = some (.cells c ty fr) := hw
            have hcell' : ∀ o, w.cell? ⟨b, o, none⟩ = c[o]? := fun o => by unfold World.cell?; simp only [hw']; simp
            have build : ∀ n, n ≤ len → ∃ l : List α, l.length = n ∧ (∀ a ∈ l, ok a) ∧ off + n * sz ≤ c.size ∧ VRels noN No w (l.flatMap f) ((c.toList.drop off).take (n * sz)) := by
              intro n
              induction n with
              | zero =>
                intro _
                refine ⟨[], rfl, by simp, ?_, by simpa using VRels.nil⟩
                have : c[off]? ≠ none := by have h00' : c[off]? = _ := h00; rw [h00']; simp
                rw [Ne, Array.getElem?_eq_none_iff] at this
                omega
              | succ n ih =>
                intro hn
                obtain ⟨l, hll, hok, hsz', hv⟩ := ih (by omega)
                obtain ⟨csi, h1, a', ha', hv'⟩ := key n (by omega)
                obtain ⟨_, hcl', hcell2⟩ := World.cells?_some h1
                have hcsi : ∀ i, i < sz → c[off + n * sz + i]? = csi[i]? := fun i hi => by
                  have := hcell2 i hi
                  rw [hadd] at this
                  have hadd2 : (Addr.mk b (off + n * sz) none).add i = ⟨b, off + n * sz + i, none⟩ := by unfold Addr.add; split <;> simp_all
                  rw [hadd2, hcell'] at this
                  exact this
                have hlast := hcsi (sz - 1) (by omega)
                rw [List.getElem?_eq_getElem (by omega)] at hlast
                obtain ⟨hlt, _⟩ := Array.getElem?_eq_some_iff.1 hlast
                refine ⟨l ++ [a'], by simp [hll], ?_, by rw [Nat.succ_mul]; omega, ?_⟩
                · intro x hx
                  rcases List.mem_append.1 hx with hx | hx
                  · exact hok x hx
                  · simp at hx; subst hx; exact ha'
                · have e1 : (c.toList.drop off).take ((n + 1) * sz) = (c.toList.drop off).take (n * sz) ++ csi := by
                    apply List.ext_getElem?
                    intro q
                    rw [Nat.succ_mul]
                    have hL : ((c.toList.drop off).take (n * sz)).length = n * sz := by simp; omega
                    by_cases hq : q < n * sz
                    · rw [List.getElem?_append_left (by omega), List.getElem?_take, List.getElem?_take, if_pos (by omega), if_pos hq]
                    · rw [List.getElem?_append_right (by omega), hL]
                      by_cases hq' : q < n * sz + sz
                      · rw [List.getElem?_take, if_pos hq', List.getElem?_drop, Array.getElem?_toList, ← hcsi (q - n * sz) (by omega)]
                        congr 1; omega
                      · rw [List.getElem?_take, if_neg hq', List.getElem?_eq_none (by omega)]
                  rw [e1]
                  simpa using hv.append hv'
            obtain ⟨l, hll, hok, hin, hv⟩ := build len (Nat.le_refl _)
            have hlf : (l.map el).flatMap V.cells = l.flatMap f := by
              rw [List.flatMap_map]
              clear hv hll build
              induction l with
              | nil => rfl
              | cons x xs ih => simp only [List.flatMap_cons, hel x (hok x (by simp)), ih (fun a ha => hok a (by simp [ha]))]
            refine ⟨some l, fun l' hl' => (by cases hl'; exact ⟨by omega, hok⟩), .cons (.ro (c := c) (e := ty) (fr := fr) ?_ (by simp [No]) hw' ?_ (by simp [hll]) hl (by simpa [hll] using hin) rfl ?_) .nil⟩
            · exact (Array.getElem?_eq_some_iff.1 hw').1
            · intro v hv
              obtain ⟨a', ha', rfl⟩ := List.mem_map.1 hv
              have h1 := h.len a' (hok a' ha')
              have h2 := h.one a' (hok a' ha')
              simp only [V.fits, hel a' (hok a' ha'), Bool.and_eq_true, beq_iff_eq]
              exact ⟨by omega, h2⟩
            · simp only [List.length_map, hlf, hll]; exact hv
        · cases h00

theorem imp_array {α : Type} {ok : α → Prop} {f : α → List V} {n sz : Nat} (ht : P.underlying t = some (.array n e)) (hsz : P.cellsOf e = sz) (hc : P.cellsOf t = n * sz) (h : ImpAs P e ok f) :
    ImpAs P t (fun l : List α => l.length = n ∧ ∀ a ∈ l, ok a) fun l => l.flatMap f where
  nl l := fun v hv => by
    obtain ⟨a, _, h2⟩ := List.mem_flatMap.1 hv
    exact h.nl a v h2
  one l hl := by
    rw [List.all_eq_true]
    intro v hv
    obtain ⟨a, h1, h2⟩ := List.mem_flatMap.1 hv
    exact List.all_eq_true.1 (h.one a (hl.2 a h1)) v h2
  len l hl := by
    rw [hc, ← hl.1]
    have := hl.2
    clear hl
    induction l with
    | nil => simp
    | cons x xs ih => simp only [List.flatMap_cons, List.length_append, List.length_cons, Nat.succ_mul, h.len x (this x (by simp)), hsz, ih (fun a ha => this a (by simp [ha]))]; omega
  imp {H enc w base held fuel cs x} hr := by
    obtain ⟨xs, m, _, _, hl, hxs, hi⟩ := DataW.trod_array ht hr
    rw [hsz] at hi
    rw [hc] at hl
    have build : ∀ q, q ≤ n → ∃ l : List α, l.length = q ∧ (∀ a ∈ l, ok a) ∧ VRels noN No w (l.flatMap f) (cs.take (q * sz)) := by
      intro q
      induction q with
      | zero => intro _; exact ⟨[], rfl, by simp, by simpa using VRels.nil⟩
      | succ q ih =>
        intro hq
        obtain ⟨l, hll, hok, hv⟩ := ih (by omega)
        have h1 := hi q (by omega)
        rw [List.getElem?_eq_getElem (by omega)] at h1
        obtain ⟨a, ha, hv'⟩ := h.imp h1
        refine ⟨l ++ [a], by simp [hll], fun x hx => ?_, ?_⟩
        · rcases List.mem_append.1 hx with hx | hx
          · exact hok x hx
          · simp at hx; subst hx; exact ha
        · rw [Nat.succ_mul, List.take_add]
          simpa using hv.append hv'
    obtain ⟨l, hll, hok, hv⟩ := build n (Nat.le_refl _)
    refine ⟨l, ⟨hll, hok⟩, ?_⟩
    rw [← hl, List.take_length] at hv
    exact hv

/-- the fields of a struct from cell o on -/
structure ImpFs (P : Program) (fs : List Field) (o tot : Nat) {α : Type} (ok : α → Prop) (f : α → List V) : Prop where
  nl : ∀ a, NLs (f a)
  one : ∀ a, ok a → (f a).all V.one = true
  len : ∀ a, ok a → o + (f a).length = tot
  imp : ∀ {H : Type} {enc : TypeId × Value → H} {w : World} {base : Nat} {held : Bool} {n : Nat} {cs : List Value}, cs.length = tot →
    (∀ fld ∈ fs, ∃ x, DataW.trod enc P w base (fun _ => true) held n fld.type ((cs.drop fld.offset).take (P.cellsOf fld.type)) = some x) → ∃ a, ok a ∧ VRels noN No w (f a) (cs.drop o)

theorem impF_nil {o : Nat} : ImpFs P [] o o (fun _ : Unit => True) fun _ => [] where
  nl _ := .nil
  one _ _ := rfl
  len _ _ := rfl
  imp hl _ := ⟨(), trivial, by rw [List.drop_eq_nil_of_le (by omega)]; exact .nil⟩

theorem impF_last {α : Type} {ok : α → Prop} {f : α → List V} {fld : Field} {o tot : Nat} (ho : fld.offset = o) (ht : o + P.cellsOf fld.type = tot) (h : ImpAs P fld.type ok f) : ImpFs P [fld] o tot ok f where
  nl := h.nl
  one := h.one
  len a ha := by rw [h.len a ha, ht]
  imp {H enc w base held n cs} hl hf := by
    obtain ⟨x, hx⟩ := hf fld (by simp)
    obtain ⟨a, ha, hv⟩ := h.imp hx
    refine ⟨a, ha, ?_⟩
    rw [ho, List.take_of_length_le (by simp; omega)] at hv
    exact hv

theorem impF_cons {α β : Type} {ok : α → Prop} {f : α → List V} {ok' : β → Prop} {f' : β → List V} {fld : Field} {fs : List Field} {o o' tot : Nat} (ho : fld.offset = o) (hs : o + P.cellsOf fld.type = o') (h : ImpAs P fld.type ok f) (h' : ImpFs P fs o' tot ok' f') :
    ImpFs P (fld :: fs) o tot (fun p : α × β => ok p.1 ∧ ok' p.2) fun p => f p.1 ++ f' p.2 where
  nl p := fun v hv => by
    rcases List.mem_append.1 hv with hv | hv
    · exact h.nl _ v hv
    · exact h'.nl _ v hv
  one p hp := by simp only [List.all_append, h.one _ hp.1, h'.one _ hp.2, Bool.and_self]
  len p hp := by have := h'.len _ hp.2; rw [List.length_append, h.len _ hp.1]; omega
  imp {H enc w base held n cs} hl hf := by
    obtain ⟨x, hx⟩ := hf fld (by simp)
    obtain ⟨a, ha, hv⟩ := h.imp hx
    obtain ⟨b, hb, hv'⟩ := h'.imp hl fun g hg => hf g (by simp [hg])
    refine ⟨(a, b), ⟨ha, hb⟩, ?_⟩
    have : cs.drop o = (cs.drop o).take (P.cellsOf fld.type) ++ cs.drop o' := by rw [← hs, ← List.drop_drop, List.take_append_drop]
    rw [this, ← ho]
    exact hv.append hv'

theorem imp_struct {α : Type} {ok : α → Prop} {f : α → List V} {fs : Array Field} {tot : Nat} (ht : P.underlying t = some (.struct fs)) (hc : P.cellsOf t = tot) (h : ImpFs P fs.toList 0 tot ok f) : ImpAs P t ok f where
  nl := h.nl
  one := h.one
  len a ha := by have := h.len a ha; omega
  imp {H enc w base held fuel cs x} hr := by
    obtain ⟨xs, n, _, _, hl, hxs, hi⟩ := DataW.trod_struct ht hr
    have := h.imp (cs := cs) (n := n) (enc := enc) (w := w) (base := base) (held := held) (by omega) fun fld hfld => by
      obtain ⟨i, hi1⟩ := List.getElem?_of_mem hfld
      have h2 := hi i fld (by simpa using hi1)
      have hlt : i < fs.size := by have := (List.getElem?_eq_some_iff.1 hi1).1; simpa using this
      rw [List.getElem?_eq_getElem (by omega)] at h2
      exact ⟨_, h2⟩
    simpa using this

/-! ## a list of arguments -/

structure ArgsAs (P : Program) (ts : List TypeId) {α : Type} (ok : α → Prop) (f : α → List V) : Prop where
  nl : ∀ a, NLs (f a)
  imp : ∀ {H : Type} {enc : TypeId × Value → H} {w : World} {held : Bool} {vs : List Value} {ds : List (DataW H)} {ps : List MemPlace}, DataW.TrodAll enc P w 0 (fun _ => true) held ts vs ds ps →
    (∀ (j : Nat) (t : TypeId) (v : Value), ts[j]? = some t → vs[j]? = some v → ∃ b, Value.okWide P w .any b t v) → ∃ a, ok a ∧ VRels noN No w (f a) vs

theorem args_nil : ArgsAs P [] (fun _ : Unit => True) fun _ => [] where
  nl _ := .nil
  imp {H enc w held vs ds ps} h _ := by
    cases vs with
    | nil => exact ⟨(), trivial, .nil⟩
    | cons v vs => exact False.elim h

/-- a type of one cell -/
theorem args_one {α β : Type} {ok : α → Prop} {f : α → V} {ok' : β → Prop} {f' : β → List V} {ts : List TypeId} (hu : (match P.underlying t with | some (.struct _) | some (.array _ _) => false | _ => true) = true) (h : ImpAs P t ok fun a => [f a]) (h' : ArgsAs P ts ok' f') :
    ArgsAs P (t :: ts) (fun p : α × β => ok p.1 ∧ ok' p.2) fun p => f p.1 :: f' p.2 where
  nl p := .cons (h.nl p.1 _ (by simp)) (h'.nl _)
  imp {H enc w held vs ds ps} hr hk := by
    match vs, ds, hr with
    | v :: vs, d :: ds, hr =>
      obtain ⟨p, q, ⟨fuel, h1⟩, h2, _⟩ := hr
      obtain ⟨a, ha, hv⟩ := h.imp h1
      obtain ⟨b, hb, hv'⟩ := h'.imp h2 fun j t v h3 h4 => hk (j + 1) t v (by simpa using h3) (by simpa using h4)
      refine ⟨(a, b), ⟨ha, hb⟩, .cons ?_ hv'⟩
      obtain ⟨bb, hok⟩ := hk 0 t v rfl rfl
      have hv1 : v.cells.toList = [v] := by
        have hcell : Cell.okWide P w .any bb t v := by
          unfold Value.okWide at hok
          split at hu
          · cases hu
          · cases hu
          · rename_i hA hB
            split at hok
            · rename_i x hx; exact absurd hx (hA x)
            · rename_i x y hx; exact absurd hx (hB x y)
            · exact hok
        cases v <;> first | rfl | (exfalso; revert hcell; unfold Cell.okWide Cell.ok; (repeat' split) <;> simp_all)
      rw [hv1] at hv
      cases hv with
      | cons hv _ => exact hv

/-- a struct or an array -/
theorem args_agg {α β : Type} {ok : α → Prop} {f : α → List V} {ok' : β → Prop} {f' : β → List V} {ts : List TypeId} (hu : (match P.underlying t with | some (.struct _) | some (.array _ _) => true | _ => false) = true) (h : ImpAs P t ok f) (h' : ArgsAs P ts ok' f') :
    ArgsAs P (t :: ts) (fun p : α × β => ok p.1 ∧ ok' p.2) fun p => .agg (f p.1) :: f' p.2 where
  nl p := .cons (.agg (h.nl p.1)) (h'.nl _)
  imp {H enc w held vs ds ps} hr hk := by
    match vs, ds, hr with
    | v :: vs, d :: ds, hr =>
      obtain ⟨p, q, ⟨fuel, h1⟩, h2, _⟩ := hr
      obtain ⟨a, ha, hv⟩ := h.imp h1
      obtain ⟨b, hb, hv'⟩ := h'.imp h2 fun j t v h3 h4 => hk (j + 1) t v (by simpa using h3) (by simpa using h4)
      refine ⟨(a, b), ⟨ha, hb⟩, .cons ?_ hv'⟩
      obtain ⟨bb, hok⟩ := hk 0 t v rfl rfl
      have hv1 : ∃ cs, v = .agg cs := by
        unfold Value.okWide at hok
        split at hok
        · exact ⟨_, hok.choose_spec.1⟩
        · exact ⟨_, hok.choose_spec.1⟩
        · rename_i hA hB
          split at hu
          · rename_i x hx; exact absurd hx (hA x)
          · rename_i x y hx; exact absurd hx (hB x y)
          · cases hu
      obtain ⟨cs, rfl⟩ := hv1
      have : VRel noN No w (.agg (f a)) (.agg cs.toList.toArray) := .agg (by simpa [Value.cells] using hv)
      simpa using this

end

/-! ## the row -/

theorem trodAll_stays {H : Type} {enc : TypeId × Value → H} {P : Program} (hl : laidOutB P = true) {W W' : World} (hb : Below W.heap.size W W') :
    ∀ {ts : List TypeId} {vs : List Value} {ds : List (DataW H)} {ps : List MemPlace}, (ts.all fun t => P.readableRec t && decide (t < P.types.size)) = true →
    DataW.TrodAll enc P W 0 (fun _ => true) true ts vs ds ps → DataW.TrodAll enc P W' 0 (fun b => decide (b < W.heap.size)) true ts vs ds ps
  | [], [], [], _, _, h => h
  | t :: ts, v :: vs, d :: ds, ps, hr, h => by
    obtain ⟨p, q, h1, h2, h3⟩ := h
    simp only [List.all_cons, Bool.and_eq_true, decide_eq_true_eq] at hr
    refine ⟨p, q, Below.trod hl hr.1.1 hr.1.2 h1 hb ?_, trodAll_stays hl hb (by simpa using hr.2) h2, h3⟩
    obtain ⟨m, hm⟩ := h1
    exact DataW.trod_lt m _ _ _ hm
  | [], _ :: _, _, _, _, h => False.elim h
  | [], [], _ :: _, _, _, h => False.elim h
  | _ :: _, [], _, _, _, h => False.elim h
  | _ :: _, _ :: _, [], _, _, h => False.elim h

theorem trodAll_length {H : Type} {enc : TypeId × Value → H} {P : Program} {W : World} {base : Nat} {sp : Nat → Bool} {held : Bool} :
    ∀ {ts : List TypeId} {vs : List Value} {ds : List (DataW H)} {ps : List MemPlace}, DataW.TrodAll enc P W base sp held ts vs ds ps → ds.length = ts.length
  | [], [], [], _, _ => rfl
  | _ :: _, _ :: _, _ :: _, _, ⟨_, _, _, h, _⟩ => by simp [trodAll_length h]
  | [], _ :: _, _, _, h => False.elim h
  | [], [], _ :: _, _, h => False.elim h
  | _ :: _, [], _, _, h => False.elim h
  | _ :: _, _ :: _, [], _, h => False.elim h

/-- A law: whatever the input, true; what it was given reads as it did. -/
theorem law_lifted {C : Checked} {os : Os} {f : FuncId} {fn : Func} {s : ChangeSpec} {α : Type} {ok : α → Prop} {g : α → List V} {rt : TypeId} (own : ownKnob C.prog.godebug = none) (started : os.Started) (noInit : C.prog.inits.idxOf? f = none) (hfn : C.prog.funcs[f]? = some fn)
    (hl : laidOutB C.prog = true) (hts : (fn.params.toList.all fun t => C.prog.readableRec t && decide (t < C.prog.types.size)) = true) (hrt : fn.resultTypes = #[rt]) (hbool : C.prog.underlying rt = some .bool) (hvars : s.vars = [])
    (hspec : ∀ (H : Type) (ds : List (DataW H)), ds.length = fn.params.size → s.fn H ds = { results := [.lit (.bool true)], args := ds }) {H : Type} {enc : TypeId × Value → H} {conds : List PathCond}
    (witness : ∃ (w : World) (tape : Tape) (i : Input), w.os = os ∧ (w.forCall tape i).Shaped C.prog ∧ i.vars = [] ∧ Input.okWide C.prog (w.forCall tape i) .any w.heap.size f i ∧
      s.pre6 enc C.prog fn conds false (w.forCall tape i).memory i.args ∧ Assume.holds {} C.prog (lone (Frame.enter C.prog f i.args .normal) [] (w.forCall tape i)))
    (ha : ArgsAs C.prog fn.params.toList ok g) (hp : ∀ a, ok a → Pf C.prog f (g a) (.val (.bool true))) :
    ReturnsInHanded {} C os f .any (s.pre6 enc C.prog fn conds false) (s.post enc C.prog fn false true false false) := by
  refine returnsInHanded_of_change_sized own started noInit hfn witness ?_
  intro W base args ds gs before hval hW _ _ _
  have hW' := hW
  obtain ⟨p, q, hA, hV, rfl, hfz, hnd⟩ := hW
  rw [hvars] at hV
  obtain ⟨rfl, rfl, rfl⟩ := trodVars_none hV
  obtain ⟨a, hok, hv⟩ := ha.imp hA fun j t v h1 h2 => ⟨base, hval j t v (by simpa using h1) (by simpa using h2)⟩
  refine ((hp a hok).calls noN No W args.toList (fun _ h => False.elim h) hv).mono ?_
  rintro e W' ⟨cv, he, hr, h1, h2, h3, h4, h5⟩
  have hcv : cv = .bool true := by cases hr; rfl
  subst hcv
  have bel : Below W.heap.size W W' := ⟨h1, h2, h3, h4, fun k hk => h5 k hk⟩
  have hlen := trodAll_length hA
  have hs := hspec H ds (by simpa using hlen)
  refine ⟨_, he, ds, [], p ++ [], [], p, [], hW', ?_, ?_, ?_, bel.frame _, fun h => by cases h⟩
  · rw [hrt, List.append_nil, hs]
    exact trodAll_mk1 (shut_bool hbool _)
  · rw [List.append_nil, hs]
    exact trodAll_stays hl bel hts hA
  · rw [List.append_nil, hs, hvars]
    rfl
end Go.Sl
