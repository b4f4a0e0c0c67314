/- Calls that are handed what is owned, and keep it; the same state, seen otherwise. -/
import Derived.Test.YtokdphmnlcmbbaaSl20
set_option linter.unusedVariables false
set_option linter.unusedSimpArgs false
namespace Go.Sl

section
variable {F : Nat → Prop} {ι ι' : Names} {H H' : Heap} {P : Program}

/-- what a function is handed, seen otherwise -/
theorem Fn.pre {f : FuncId} {args args' : List V} {k : Nat} {K : V → Heap → Nat → Prop}
    (hw : ∀ F ι w cargs, VRels ι (Own F ι H) w args cargs → Rep F ι H w → VRels ι (Own F ι H') w args' cargs ∧ Rep F ι H' w ∧ Kept ι H w ι H' w ∧ ∀ n, n ∈ H'.map Prod.fst → n ∈ H.map Prod.fst)
    (h : Fn P f args' H' k K) : Fn P f args H k K :=
  ⟨h.enters, fun F ι w cargs h1 h2 h3 => by
    obtain ⟨a1, a2, a3, a4⟩ := hw F ι w cargs h1 h2
    refine (h.calls F ι w cargs a1 a2 h3).mono ?_
    rintro e w' ⟨ι', v, cv, H2, k', he, hr, hO⟩
    exact ⟨ι', v, cv, H2, k', he, hr, ⟨⟨a3.trans hO.ext.kept, hO.ext.le, hO.ext.same, fun n hn => (hO.ext.dom n hn).imp (a4 n) id⟩, hO.rep, hO.fresh, hO.val⟩⟩⟩

theorem frz_pre (d dh : Nat) {args args' : List V} (ha : args.map (frz (H'.map Prod.fst) H d) = args') (hn : (H'.map Prod.fst).Nodup) (hH : ∀ p ∈ H', ∃ B, look p.1 H = some B ∧ frzB (H'.map Prod.fst) H dh B = p.2)
    (F : Nat → Prop) (ι : Names) (w : World) (cargs : List Value) (hv : VRels ι (Own F ι H) w args cargs) (R : Rep F ι H w) : VRels ι (Own F ι H') w args' cargs ∧ Rep F ι H' w ∧ Kept ι H w ι H' w ∧ ∀ n, n ∈ H'.map Prod.fst → n ∈ H.map Prod.fst := by
  have L : Less ι (H'.map Prod.fst) H H' := ⟨fun n B hm => ⟨List.mem_map_of_mem (f := Prod.fst) hm, by
    obtain ⟨C, hC, _⟩ := hH _ hm
    exact ⟨C, look_mem hC⟩⟩⟩
  have hno : ∀ b, ¬ OwnH ι H b → ¬ OwnH ι H' b := fun b hb ⟨n, B, l, hm, hl, hg, he⟩ => by
    obtain ⟨C, hC, _⟩ := hH _ hm
    exact hb ⟨n, C, l, look_mem hC, hl, hg, he⟩
  have K : Kept ι H w ι H' w := ⟨fun _ _ h => h, rfl, rfl, rfl, Nat.le_refl _, fun _ _ _ => rfl, fun b _ h => Classical.byContradiction fun hc => hno b hc h⟩
  refine ⟨?_, ⟨R.frame, hn, fun n B hm => ?_, fun n B m C l l' h1 h2 => ?_⟩, K, fun n h => ?_⟩
  · rw [← ha]; exact hv.mapF fun v x h => frz_ok L R d v x h
  · obtain ⟨C, hC, hB⟩ := hH _ hm
    obtain ⟨l, hl, hr, hg⟩ := R.own n C (look_mem hC)
    refine ⟨l, hl, ?_, hg⟩
    have := frzB_ok L R dh hr
    rw [hB] at this; exact this
  · obtain ⟨B', hB', _⟩ := hH _ h1
    obtain ⟨C', hC', _⟩ := hH _ h2
    exact R.apart n B' m C' l l' (look_mem hB') (look_mem hC')
  · obtain ⟨p, hp, rfl⟩ := List.mem_map.1 h
    obtain ⟨C, hC, _⟩ := hH _ hp
    exact List.mem_map.2 ⟨(p.1, C), look_mem hC, rfl⟩

/-- a call of a function that changes nothing, with what is owned; it is immutable from then on -/
theorem call_fz {f : FuncId} {args : List V} {k : Nat} {K : V → Heap → Nat → Prop} {r : V} (H' : Heap) (args' : List V) (d dh : Nat) (h : Pf P f args' r) (ha : args.map (frz (H'.map Prod.fst) H d) = args') (hn : (H'.map Prod.fst).Nodup) (hH : ∀ p ∈ H', ∃ B, look p.1 H = some B ∧ frzB (H'.map Prod.fst) H dh B = p.2)
    (hK : K r H' k) : @callF P f args H k ⟨K⟩ := Fn.pre (frz_pre d dh ha hn hH) (h.fn hK)

theorem Weaker.seen {N k : Nat} {t t' : List (Nat × V)} {H : Heap} (h : ∀ p ∈ t', SeenAs (Sl.get t p.1) p.2) : Weaker ⟨N, t, H, k⟩ ⟨N, t', H, k⟩ :=
  ⟨fun F ι a w hh => ⟨ι, ⟨hh.defers, hh.size, fun i => by
    rcases get_mem t' i with e | hm
    · simp only []; rw [e]; exact .any _
    · exact h _ hm _ _ _ _ (hh.tmps i), hh.rep, hh.fresh⟩, Ext.refl _ _ _ _ _⟩⟩
/-- one by one -/
theorem seen_all {t : List (Nat × V)} : ∀ {t' : List (Nat × V)}, SeenAll (t'.map fun p => Sl.get t p.1) (t'.map Prod.snd) → ∀ p ∈ t', SeenAs (Sl.get t p.1) p.2
  | [], _, p, hp => absurd hp (List.not_mem_nil)
  | q :: r, .cons h hs, p, hp => by
    rcases List.mem_cons.1 hp with rfl | hp
    · exact h
    · exact seen_all hs p hp
end
section
variable {F : Nat → Prop} {ι ι' : Names} {O : Nat → Prop} {H H' : Heap} {σ σ' : St} {a a' : Act} {w w' : World} {P : Program} {T : Tab} {Q : Exit → St → Prop}
/-- a list of operations, then another one, from a state that is given -/
theorem vcL_cut (hT : TabOk P T) (ops : List Oper) (l l2 : List Oper) (σm : St) (K : St → Prop) (h2 : TrL P ops.toArray l2 K σm) : ∀ (σ : St), vcL T P ops σ.N l (fun σ => Weaker σ σm) σ.t σ.H σ.k → (∀ o ∈ ops, dstLt o.dst σ.N) → TrL P ops.toArray (l ++ l2) K σ := by
  induction l with
  | nil =>
    intro σ h _ F ι a w hh Q hQ
    obtain ⟨ι', hh', hx⟩ := h.h F ι a w hh
    exact h2 F ι' a w hh' Q fun ι2 σ2 a2 w2 hK2 hh2 hx2 => hQ ι2 σ2 a2 w2 hK2 hh2 (hx.trans hx2)
  | cons o rest ih =>
    intro σ h hops F ι a w hh Q hQ
    simp only [vcL] at h
    obtain ⟨hd, hg⟩ := h
    have yes : opV T P σ.t σ.H σ.k o.op (fun v H' k' => vcL T P ops σ.N rest (fun σ => Weaker σ σm) (setT σ.t o.dst v) H' k') → o.wp P a w (wpList P ops.toArray Q (rest ++ l2)) Q := fun h => by
      refine opV_sound hT trivial (fun _ => rfl) h F ι a w hh _ Q ?_
      intro ι' v cv H' k' w' hk hO
      have hh' := hh.step hO (dst := o.dst) (fun d hd' => by rw [hd'] at hd; exact hd)
      exact ih ⟨σ.N, setT σ.t o.dst v, H', k'⟩ hk hops F ι' _ w' hh' Q fun ι'' σ'' a'' w'' hK hh'' hx => hQ ι'' σ'' a'' w'' hK hh'' (hO.ext.trans hx)
    have no : vcL T P ops σ.N rest (fun σ => Weaker σ σm) (setT σ.t o.dst (.tup [])) σ.H σ.k → wpList P ops.toArray Q (rest ++ l2) (a.put o.dst undef) w := fun h =>
      ih ⟨σ.N, setT σ.t o.dst (.tup []), σ.H, σ.k⟩ h hops F ι _ w (hh.skipped hd) Q hQ
    have hg := guardO_of hg
    unfold guardO at hg
    cases hgd : o.guard with
    | none =>
      rw [hgd] at hg
      simp only [List.cons_append, wpList]
      rw [if_pos (by simp [Region.wanted, hgd])]
      exact .inl (yes hg)
    | some g =>
      obtain ⟨j, want⟩ := g
      rw [hgd] at hg
      simp only at hg
      cases hj : (ops[j]?).bind (·.dst) with
      | none => rw [hj] at hg; exact hg.elim
      | some d =>
        rw [hj] at hg
        simp only at hg
        have hdN : d < σ.N := by
          obtain ⟨oj, hoj, hdj⟩ := Option.bind_eq_some_iff.1 hj
          have := hops oj (List.mem_of_getElem? hoj)
          rw [hdj] at this; exact this
        obtain ⟨hy1, hy2⟩ := hh.yields hdN
        have hyl : ∀ b, a.tmps[d]? = some (.bool b) → yielded ops.toArray a.tmps j = some b := by
          intro b hb
          unfold yielded
          have : ((ops.toArray[j]?).bind (·.dst)) = some d := by simpa using hj
          rw [this]; simp [hb]
        simp only [List.cons_append, wpList]
        split at hg
        · rename_i b hb
          have hyb := hyl b (hy1 b hb)
          cases want <;> cases b <;> simp only [Region.wanted, hgd, hyb, if_true, if_false, Bool.false_eq_true] at hg ⊢
          · rw [if_pos (by simp)]; exact .inl (yes (hg.1 trivial))
          · rw [if_neg (by simp)]; exact no (hg.2 trivial)
          · rw [if_neg (by simp)]; exact no (hg.2 trivial)
          · rw [if_pos (by simp)]; exact .inl (yes (hg.1 trivial))
        · rename_i hb
          have ht := hy2 hb
          have hyn : yielded ops.toArray a.tmps j = none := by
            unfold yielded
            have : ((ops.toArray[j]?).bind (·.dst)) = some d := by simpa using hj
            rw [this]; simp [ht]
          rw [if_neg (by simp [Region.wanted, hgd, hyn])]
          exact no hg
        · exact hg.elim


/-- a region in parts: what stands between them is given -/
theorem reg_start {id : Nat} {l : List Oper} {y : Code} (h : TrL P l.toArray l (fun σ' => Tr P y Q σ') σ) : Tr P (.seq (.region id l.toArray false) y) Q σ :=
  tr_seq fun F ι a w hh => wp_region_lit (h F ι a w hh _ fun ι' σ' _ _ hK hh' hx => ⟨ι', σ', hK, hh', hx⟩)
theorem reg_cut (hT : TabOk P T) {l l2 : List Oper} {N k : Nat} {t : List (Nat × V)} {H : Heap} {K : St → Prop} (n : Nat) (t' : List (Nat × V)) (H' : Heap) (k' : Nat) (hN : dstsLt l N = true)
    (h1 : vcL T P l N (l2.take n) (fun σ => Weaker σ ⟨N, t', H', k'⟩) t H k) (h2 : TrL P l.toArray (l2.drop n) K ⟨N, t', H', k'⟩) : TrL P l.toArray l2 K ⟨N, t, H, k⟩ := by
  have e := vcL_cut hT l (l2.take n) (l2.drop n) ⟨N, t', H', k'⟩ K h2 ⟨N, t, H, k⟩ h1 (dstsLt_spec hN)
  rwa [List.take_append_drop] at e
theorem reg_end (hT : TabOk P T) {l l2 : List Oper} {y : Code} {N k : Nat} {t : List (Nat × V)} {H : Heap} (hN : dstsLt l N = true) (h : ∀ K : St → Prop, (∀ σ', Tr P y Q σ' → K σ') → vcL T P l N l2 K t H k) : TrL P l.toArray l2 (fun σ' => Tr P y Q σ') ⟨N, t, H, k⟩ :=
  vcL_sound hT l l2 _ ⟨N, t, H, k⟩ (h _ fun _ h => h) (dstsLt_spec hN)
end
end Go.Sl
