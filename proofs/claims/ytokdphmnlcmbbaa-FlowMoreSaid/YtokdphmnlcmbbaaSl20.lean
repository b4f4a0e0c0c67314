/- Calls of functions that change what is handed to them; numbers of 64 bits, whatever they are. -/
import Derived.Test.YtokdphmnlcmbbaaSl19
set_option linter.unusedVariables false
set_option linter.unusedSimpArgs false
namespace Go.Sl

section
variable {F : Nat → Prop} {ι ι' : Names} {O : Nat → Prop} {H H' G : Heap} {P : Program}

theorem View.drop (v : V) : ∀ (G : Heap), View (G ++ H) v H v
  | [] => View.refl _ _
  | p :: r => by
    have h := View.del (H := (p :: r) ++ H) p.1 v
    simp only [List.cons_append, Sl.del, if_true] at h
    exact h.trans (View.drop v r)

theorem perm_keep (hN : (H.map Prod.fst).Nodup) (hn : (G.map Prod.fst).Nodup) (hG : ∀ p ∈ G, look p.1 H = some p.2) : H.Perm (G ++ H.filter fun p => !decide (p.1 ∈ G.map Prod.fst)) := by
  have hnd : H.Nodup := nodup_of_map _ hN
  have hnd' : G.Nodup := nodup_of_map _ hn
  have p1 : (H.filter fun p => decide (p.1 ∈ G.map Prod.fst)).Perm G := by
    rw [List.perm_ext_iff_of_nodup (hnd.filter _) hnd']
    intro p
    simp only [List.mem_filter, decide_eq_true_eq]
    constructor
    · rintro ⟨h1, h2⟩
      obtain ⟨q, hq, he⟩ := List.mem_map.1 h2
      have e1 := hG q hq
      have e2 := look_of_mem (n := p.1) (b := p.2) hN h1
      rw [← he, e1] at e2
      have e3 := Option.some.inj e2
      have : q = p := Prod.ext he e3
      exact this ▸ hq
    · intro h
      exact ⟨look_mem (hG p h), List.mem_map_of_mem h⟩
  exact (List.filter_append_perm (fun p => decide (p.1 ∈ G.map Prod.fst)) H).symm.trans (p1.append_right _)

theorem View.sub {v : V} (hn : (G.map Prod.fst).Nodup) (hG : ∀ p ∈ G, look p.1 H = some p.2) : View H v G v := fun F ι w cv R hv =>
  (((View.perm (perm_keep R.names hn hG) v).trans (View.perm List.perm_append_comm v)).trans (View.drop v _)) F ι w cv R hv

/-- what a function leaves of what it was given -/
theorem Fn.keep {f : FuncId} {args : List V} {k : Nat} {r : V} (hn : (G.map Prod.fst).Nodup) (h : Fn P f args H k fun v H' _ => v = r ∧ ∀ p ∈ G, look p.1 H' = some p.2) : Fn P f args H k fun v H' _ => v = r ∧ H' = G :=
  Fn.view (h.mono fun v H' k' e => ⟨G, v, View.sub hn e.2, e.1, rfl⟩)

/-- the heap with other contents under some names -/
def upds (G H : Heap) : Heap := H.map fun p => (p.1, (look p.1 G).getD p.2)

theorem look_no {G : Heap} {n : Nat} (h : n ∉ G.map Prod.fst) : look n G = none := look_none.2 h

theorem upds_perm {Hf : Heap} (hN : (H.map Prod.fst).Nodup) (he : G.map Prod.fst = Hf.map Prod.fst) (hn : (Hf.map Prod.fst).Nodup) (hl : ∀ p ∈ Hf, look p.1 H = some p.2) : (G ++ H.filter fun p => !decide (p.1 ∈ Hf.map Prod.fst)).Perm (upds G H) := by
  have hnG : (G.map Prod.fst).Nodup := by rw [he]; exact hn
  have hU : ((upds G H).map Prod.fst) = H.map Prod.fst := by simp [upds, Function.comp_def]
  have hUn : (upds G H).Nodup := nodup_of_map Prod.fst (by rw [hU]; exact hN)
  have hL : (G ++ H.filter fun p => !decide (p.1 ∈ Hf.map Prod.fst)).Nodup := by
    rw [List.nodup_append]
    refine ⟨nodup_of_map _ hnG, (nodup_of_map _ hN).filter _, fun a ha b hb e => ?_⟩
    subst e
    simp only [List.mem_filter, Bool.not_eq_true', decide_eq_false_iff_not] at hb
    exact hb.2 (by rw [← he]; exact List.mem_map_of_mem ha)
  rw [List.perm_ext_iff_of_nodup hL hUn]
  intro p
  simp only [List.mem_append, List.mem_filter, Bool.not_eq_true', decide_eq_false_iff_not, upds, List.mem_map]
  constructor
  · rintro (h | ⟨h1, h2⟩)
    · have : p.1 ∈ Hf.map Prod.fst := by rw [← he]; exact List.mem_map_of_mem h
      obtain ⟨q, hq, e⟩ := List.mem_map.1 this
      have h3 := look_mem (hl q hq)
      refine ⟨q, h3, ?_⟩
      rw [e, look_of_mem hnG (n := p.1) (b := p.2) h]
      rfl
    · refine ⟨p, h1, ?_⟩
      rw [look_no (by rw [he]; simpa using h2)]; rfl
  · rintro ⟨q, hq, e⟩
    subst e
    by_cases h : q.1 ∈ Hf.map Prod.fst
    · left
      have h' : q.1 ∈ G.map Prod.fst := by rw [he]; exact h
      obtain ⟨g, hg, e⟩ := List.mem_map.1 h'
      have := look_of_mem hnG (n := g.1) (b := g.2) hg
      rw [e] at this
      rw [this]
      simp only [Option.getD_some]
      have : (q.1, g.2) = g := Prod.ext e.symm rfl
      rw [this]; exact hg
    · right
      rw [look_no (by rw [he]; exact h)]
      exact ⟨hq, by simpa using h⟩

/-- a call of a function that changes what is handed to it -/
theorem call_own {f : FuncId} {args : List V} {k : Nat} {K : V → Heap → Nat → Prop} {Hf : Heap} {r : V} (h : Fn P f args Hf k fun v H' _ => v = r ∧ H' = G) (he : G.map Prod.fst = Hf.map Prod.fst) (hn : (Hf.map Prod.fst).Nodup) (hl : ∀ p ∈ Hf, look p.1 H = some p.2)
    (hK : ∀ k', k ≤ k' → K r (upds G H) k') : @callF P f args H k ⟨K⟩ :=
  show Fn P f args H k K from ⟨h.enters, fun F ι w cargs h1 h2 h3 => by
    have p := perm_keep h2.names hn hl
    have q := upds_perm h2.names he hn hl
    refine Fn.calls (Fn.view ((h.frame p (K := fun v H' k' => k ≤ k' ∧ v = r ∧ H' = G ++ H.filter fun p => !decide (p.1 ∈ Hf.map Prod.fst)) fun v H' k' hk e => ⟨hk, e.1, by rw [e.2]⟩).mono fun v H' k' e => ⟨upds G H, v, ?_, ?_⟩)) F ι w cargs h1 h2 h3
    · rw [e.2.2]; exact View.perm q v
    · rw [e.2.1]; exact hK k' e.1⟩

end

/-- a piece whose ways meet again in one of some states -/
theorem seq_ex {P : Program} {x y : Code} {Q : Exit → St → Prop} {σ : St} {α : Type} (S : α → St) (I : α → Prop) (h : Tr P x (Then (fun σ => ∃ a, I a ∧ Weaker σ (S a)) Q) σ) (hy : ∀ a, I a → Tr P y Q (S a)) : Tr P (.seq x y) Q σ :=
  tr_seq (h.mono fun e σ'' hq => by
    cases e with
    | normal => obtain ⟨a, ha, hw⟩ := hq; exact Tr.weaken hw (hy a ha)
    | _ => exact hq)

section
variable {x y : Int} {K : V → Prop}
def o64 (x y : Int) : Int := IntKind.u64.wrap ((BitVec.ofInt 64 x ||| BitVec.ofInt 64 y).toNat : Nat)
def n64 (x y : Int) : Int := IntKind.u64.wrap ((BitVec.ofInt 64 x &&& BitVec.ofInt 64 y).toNat : Nat)
def x64 (x y : Int) : Int := IntKind.u64.wrap ((BitVec.ofInt 64 x ^^^ BitVec.ofInt 64 y).toNat : Nat)
def sl64 (x y : Int) : Int := IntKind.u64.wrap (x * 2 ^ (min y.toNat 64))
def sr64 (x y : Int) : Int := x.fdiv (2 ^ (min y.toNat 64))
theorem bi_or64g : binIV .or .u64 x y K = K (.val (.int .u64 (o64 x y))) := Eq.trans rfl rfl
theorem bi_and64g : binIV .and .u64 x y K = K (.val (.int .u64 (n64 x y))) := Eq.trans rfl rfl
theorem bi_xor64g : binIV .xor .u64 x y K = K (.val (.int .u64 (x64 x y))) := Eq.trans rfl rfl
theorem sh_l64g : shIV .shl .u64 x y K = (0 ≤ y ∧ K (.val (.int .u64 (sl64 x y)))) := Eq.trans rfl rfl
theorem sh_r64g : shIV .shr .u64 x y K = (0 ≤ y ∧ K (.val (.int .u64 (sr64 x y)))) := Eq.trans rfl rfl
end
attribute [go_sem ↓ high] bi_or64g bi_and64g bi_xor64g sh_l64g sh_r64g
attribute [go_sem] upds
end Go.Sl
