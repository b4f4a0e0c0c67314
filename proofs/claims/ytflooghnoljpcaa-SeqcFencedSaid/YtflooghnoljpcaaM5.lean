/- Texts put together, in order: W55, W56, Sl25, Glita, Glitb, Gtsoa, Gfloa, Gseqa, Gseqb, Gseqc, Gseqd, Gtsob, Gtsoc, Gtsod, Glitg, Glith, Goutb, Gtsoe, Gtsof. -/
import Derived.KernelRfl
import Derived.Test.YtflooghnoljpcaaM4
set_option linter.unusedVariables false
set_option linter.unusedSimpArgs false
namespace Go.Proofs.Ytflooghnoljpcaa
open Go Go.Sl
theorem insA_bf {x : Ins} {h h' : Thr} {m m' : Mem} (ho : insA x h m = some (h', m')) (hb : h.bf = []) : (x.op ≠ 10 ∧ h'.bf = []) ∨ (x.op = 10 ∧ h'.bf = [(x.loc.toNat, argA h x.aR x.aN)] ∧ m' = m ∧ h'.rg = h.rg ∧ h'.pc = h.pc + 1) := by
 unfold insA at ho
 by_cases hm : memB x.op = true
 ·rw [if_pos hm] at ho
  unfold opA at ho
  by_cases h1 : x.op = 9
  ·rw [if_pos h1] at ho; cases ho; exact .inl ⟨by omega, hb⟩
  ·rw [if_neg h1] at ho
   by_cases h2 : x.op = 10
   ·rw [if_pos h2] at ho; cases ho; exact .inr ⟨h2, by rw [hb]; rfl, rfl, rfl, rfl⟩
   ·rw [if_neg h2] at ho
    by_cases h3 : x.op = 11 ∨ x.op = 12
    ·rw [if_pos h3, if_pos hb] at ho; cases ho; exact .inl ⟨h2, hb⟩
    ·rw [if_neg h3] at ho; cases ho
 ·rw [if_neg hm] at ho
  by_cases hs : stopA x h = true
  ·rw [if_pos hs] at ho; cases ho
  ·rw [if_neg hs] at ho; cases ho
   exact .inl ⟨fun e => hm (by rw [e]; rfl), by rw [locA_bf', hb]⟩
theorem bf_eta {h : Thr} (hb : h.bf = []) : ({ h with bf := [] } : Thr) = h := by
 have : h = ⟨h.pc, h.rg, h.bf⟩ := rfl
 rw [this, hb]
theorem sstep_run {t : Tst} {a b : Sys} (h : SStep t a b) (ha : Bare a) : ∃ n, ARun t n a b := by
 cases h with
 | @ins i x h' m' hi hx ho =>
  have s1 := AStep.ins hi hx ho
  rcases insA_bf ho (ha i) with ⟨_, hb⟩ | ⟨_, hb, hm, _⟩
  ·rw [bf_eta hb, hb]
   exact ⟨1, .cons s1 (.nil _)⟩
  ·have s2 := AStep.dr (t := t) (a := ⟨upd a.th i h', m'⟩) (i := i) (p := (x.loc.toNat, argA (a.th i) x.aR x.aN)) (r := []) hi (by dsimp only; rw [upd_same, hb])
   dsimp only at s2
   rw [upd_same, upd_upd] at s2
   rw [hb]
   exact ⟨2, .cons s1 (.cons s2 (.nil _))⟩
theorem srun_run {t : Tst} {n : Nat} {a b : Sys} (h : SRun t n a b) : Bare a → (∃ m, ARun t m a b) ∧ Bare b := by
 induction h with
 | nil => exact fun h => ⟨⟨0, .nil _⟩, h⟩
 | cons s _ ih =>
  intro ha
  obtain ⟨⟨m, hm⟩, hb⟩ := ih (s.bare ha)
  obtain ⟨m2, hm2⟩ := sstep_run s ha
  exact ⟨⟨_, hm2.append hm⟩, hb⟩
theorem init_bare (t : Tst) : Bare (initA t) := fun _ => rfl
theorem done_final {t : Tst} {b : Sys} (h : DoneA t b) (hb : Bare b) : FinalA t b := fun i hi => ⟨hb i, fun x hx => by rw [h i hi] at hx; cases hx⟩
theorem seq_in_tso {t : Tst} (ht : TSOk t) (hn : NoPairs t) : ∀ e ∈ seqEnds t, e ∈ tsoEnds t := by
 intro e he
 obtain ⟨n, b, hr, hd, rfl⟩ := (mem_seqA ht hn).1 he
 obtain ⟨⟨m, hm⟩, hb⟩ := srun_run hr (init_bare t)
 exact (mem_ends ht.tt).2 ⟨m, b, hm, done_final hd hb, rfl⟩
theorem runS_ok {t : Tst} (ht : TSOk t) : ∀ (f : Nat) (s : Ws), SOk t s → SOk t (runS t f s)
 | 0, _, h => h
 | f + 1, (td, r), h => by
  rw [runS]
  cases hl : td.getLast? with
  | none => exact h
  | some k =>
   have e := getLast_split hl
   have hkk : WOk t k := h.todo k (List.mem_of_getLast? hl)
   exact runS_ok ht f _ (nextS_ok ht hkk ⟨fun q hq => h.todo q (by dsimp only at hq ⊢; rw [e]; exact List.mem_append_left _ hq), h.seen, h.ends⟩)
theorem ends_keep {t : Tst} {k : List Int} (s : Ws) : ∀ i, (stepsS t k i s).2.2 = s.2.2
 | 0 => rfl
 | i + 1 => by
  rw [stepsS, (Gr.adds _ _).ends]; exact ends_keep s i
theorem nextS_nodup {t : Tst} {k : List Int} {s : Ws} (h : s.2.2.Nodup) : (nextS t k s).2.2.Nodup := by
 unfold nextS; split
 ·exact addK_nodup h
 ·rw [ends_keep]; exact h
theorem runS_nodup {t : Tst} : ∀ (f : Nat) (s : Ws), s.2.2.Nodup → (runS t f s).2.2.Nodup
 | 0, _, h => h
 | f + 1, (td, r), h => by
  rw [runS]
  cases hl : td.getLast? with
  | none => exact h
  | some k => exact runS_nodup f _ (nextS_nodup h)
theorem seqEnds_nodup (t : Tst) : (seqEnds t).Nodup := runS_nodup _ _ List.nodup_nil
theorem seqEnds_41 {t : Tst} (ht : TSOk t) : ∀ q ∈ seqEnds t, q.length = 41 := by
 refine (runS_ok ht _ _ ⟨fun q hq => ?_, fun q hq => ?_, fun q hq => by cases hq⟩).ends
 ·simp at hq; subst hq; exact startS_ok t
 ·simp at hq; subst hq; exact startS_ok t
theorem sub_len {α : Type} [DecidableEq α] : ∀ {l m : List α}, l.Nodup → l ⊆ m → l.length ≤ m.length
 | [], m, _, _ => Nat.zero_le _
 | x :: l, m, hn, hs => by
  have hx : x ∈ m := hs (List.mem_cons_self)
  have h2 : l ⊆ m.erase x := fun y hy => by
   have hne : y ≠ x := fun e => (List.nodup_cons.1 hn).1 (e ▸ hy)
   exact (List.mem_erase_of_ne hne).2 (hs (List.mem_cons_of_mem _ hy))
  have := sub_len (List.nodup_cons.1 hn).2 h2
  rw [List.length_erase_of_mem hx] at this
  have : 0 < m.length := List.length_pos_of_mem hx
  rw [List.length_cons]; omega
theorem seq_few {t : Tst} (ht : TSOk t) (hn : NoPairs t) (h : (tsoEnds t).length ≤ 400000000000) : (seqEnds t).length ≤ 400000000000 :=
 Nat.le_trans (sub_len (seqEnds_nodup t) (fun e he => seq_in_tso ht hn e he)) h
def fenX (x : Ins) : List Ins := if x.op = 10 then [x, fenI 2 1] else [x]
def fenF (l : List Ins) : List Ins := l.flatMap fenX
def fenS (t : Tst) : Tst := { t with ths := t.ths.map fenF }
theorem fenX_len (x : Ins) : 1 ≤ (fenX x).length ∧ (fenX x).length ≤ 2 := by unfold fenX; split <;> simp
theorem fenF_nil : fenF [] = [] := rfl
theorem fenF_cons (x : Ins) (l : List Ins) : fenF (x :: l) = fenX x ++ fenF l := rfl
theorem fenF_append (a b : List Ins) : fenF (a ++ b) = fenF a ++ fenF b := List.flatMap_append
theorem fenF_len : ∀ l : List Ins, l.length ≤ (fenF l).length ∧ (fenF l).length ≤ 2 * l.length
 | [] => by simp [fenF]
 | x :: l => by
  have h1 := fenF_len l
  have h2 := fenX_len x
  rw [fenF_cons, List.length_append, List.length_cons]; omega
def fpos (l : List Ins) (p : Nat) : Nat := (fenF (l.take p)).length
theorem fpos_step {l : List Ins} {p : Nat} {x : Ins} (h : l[p]? = some x) : fpos l (p + 1) = fpos l p + if x.op = 10 then 2 else 1 := by
 unfold fpos
 rw [takeAt h, fenF_append, List.length_append, fenF_cons, fenF_nil, List.append_nil]
 congr 1
 unfold fenX; split <;> rfl
theorem fen_split {l : List Ins} {p : Nat} {x : Ins} (h : l[p]? = some x) : fenF l = fenF (l.take p) ++ (fenX x ++ fenF (l.drop (p + 1))) := by
 conv => lhs; rw [← List.take_append_drop p l]
 rw [fenF_append, drop_cons h, fenF_cons]
theorem fen_at {l : List Ins} {p : Nat} {x : Ins} (h : l[p]? = some x) : (fenF l)[fpos l p]? = some x := by
 rw [fen_split h, show fpos l p = (fenF (l.take p)).length from rfl, List.getElem?_append_right (Nat.le_refl _), Nat.sub_self]
 unfold fenX; split <;> rfl
theorem fen_next {l : List Ins} {p : Nat} {x : Ins} (h : l[p]? = some x) (hx : x.op = 10) : (fenF l)[fpos l p + 1]? = some (fenI 2 1) := by
 rw [fen_split h, List.getElem?_append_right (by unfold fpos; omega)]
 unfold fpos
 rw [Nat.add_sub_cancel_left]
 unfold fenX; rw [if_pos hx]; rfl
theorem fpos_end {l : List Ins} {p : Nat} (h : l.length ≤ p) : (fenF l)[fpos l p]? = none := by
 unfold fpos
 rw [List.take_of_length_le h]
 exact List.getElem?_eq_none (Nat.le_refl _)
theorem fpos_far {l : List Ins} {p d : Nat} (h : p + d ≤ l.length) : fpos l p + d ≤ (fenF l).length := by
 unfold fpos
 have e : fenF l = fenF (l.take p) ++ fenF (l.drop p) := by rw [← fenF_append, List.take_append_drop]
 have := fenF_len (l.drop p)
 rw [List.length_drop] at this
 rw [e, List.length_append]; omega
theorem fen_from : ∀ {l : List Ins} {q : Nat} {y : Ins}, (fenF l)[q]? = some y → ∃ p x, l[p]? = some x ∧ ((q = fpos l p ∧ y = x) ∨ (q = fpos l p + 1 ∧ x.op = 10 ∧ y = fenI 2 1))
 | [], q, y, h => by simp [fenF] at h
 | x :: l, q, y, h => by
  have hf : ∀ p, fpos (x :: l) (p + 1) = (fenX x).length + fpos l p := fun p => by
   unfold fpos; rw [List.take_succ_cons, fenF_cons, List.length_append]
  rw [fenF_cons] at h
  by_cases hq : q < (fenX x).length
  ·rw [List.getElem?_append_left hq] at h
   refine ⟨0, x, rfl, ?_⟩
   unfold fenX at h hq
   split at h
   ·rename_i h10
    rw [if_pos h10] at hq
    match q, hq with
    | 0, _ => cases h; exact .inl ⟨rfl, rfl⟩
    | 1, _ => cases h; exact .inr ⟨rfl, h10, rfl⟩
   ·rename_i h10
    rw [if_neg h10] at hq
    match q, hq with
    | 0, _ => cases h; exact .inl ⟨rfl, rfl⟩
  ·rw [List.getElem?_append_right (by omega)] at h
   obtain ⟨p, z, h1, h2⟩ := fen_from h
   refine ⟨p + 1, z, h1, ?_⟩
   rw [hf p]
   rcases h2 with ⟨h2, h3⟩ | ⟨h2, h3, h4⟩
   ·exact .inl ⟨by omega, h3⟩
   ·exact .inr ⟨by omega, h3, h4⟩
theorem lth_fen (t : Tst) (i : Nat) : lth (fenS t) i = fenF (lth t i) := by
 unfold lth fenS
 simp only [List.getD, List.getElem?_map]
 cases t.ths[i]? <;> rfl
theorem fenS_len (t : Tst) : (fenS t).ths.length = t.ths.length := by simp [fenS]
theorem fen_ok {t : Tst} (ht : TSOk t) (h4 : ∀ i, (lth t i).length ≤ 4) : TTOk (fenS t) := by
 refine ⟨by rw [fenS_len]; exact ht.tt.ths, ht.tt.locs, fun i l h => ?_⟩
 have hi : i < t.ths.length := by have := (List.getElem?_eq_some_iff.1 h).1; rwa [fenS_len] at this
 have e : l = fenF (lth t i) := by rw [← lth_fen]; exact (lth_at h).symm
 subst e
 have hl := ht.tt.thr i _ (thr_at hi)
 refine ⟨by have := (fenF_len (lth t i)).2; have := h4 i; omega, fun q y hy => ?_⟩
 obtain ⟨p, x, hx, ⟨h1, rfl⟩ | ⟨h1, h2, rfl⟩⟩ := fen_from hy
 ·have ho := hl.2 p y hx
  have h1' := ho.skip
  have h2' := ho.skip0
  have hf := fpos_far (l := lth t i) (p := p) (d := y.skip.toNat + 1) (by omega)
  exact ⟨ho.op1, ho.op17, ho.rd0, ho.rd8, ho.a, ho.b, ho.fence, ho.loc, ho.skip0, by omega⟩
 ·have := (List.getElem?_eq_some_iff.1 hy).1
  exact ⟨by decide, by decide, by decide, by decide, by decide, by decide, by decide, by decide, by decide, by simp [fenI]; omega⟩
theorem setR_fen : ∀ l : List Ins, setR (fenF l) = setR l
 | [] => rfl
 | x :: l => by
  funext r
  have ih := congrFun (setR_fen l) r
  unfold setR at ih ⊢
  rw [fenF_cons, List.any_append, ih, List.any_cons]
  congr 1
  unfold fenX
  split
  ·simp [fenI, setB]
  ·simp
theorem fen_set (t : Tst) : (fenS t).ths.map setR = t.ths.map setR := by
 unfold fenS
 rw [List.map_map]
 exact List.map_congr_left fun l _ => setR_fen l
section
variable {t : Tst} (hnb : ∀ (i p : Nat) (x : Ins), (lth t i)[p]? = some x → x.op ≤ 15 ∧ 0 ≤ x.skip)
def fenA (t : Tst) (s : Sys) : Sys := ⟨fun i => { s.th i with pc := fpos (lth t i) (s.th i).pc }, s.mm⟩
theorem fenA_upd (t : Tst) (s : Sys) (i : Nat) (h : Thr) (m : Mem) : fenA t ⟨upd s.th i h, m⟩ = ⟨upd (fenA t s).th i { h with pc := fpos (lth t i) h.pc }, m⟩ := by
 unfold fenA
 congr 1
 funext j
 dsimp only
 by_cases e : j = i
 ·subst e; rw [upd_same, upd_same]
 ·rw [upd_ne e, upd_ne e]
include hnb
theorem fen_fwd {a b : Sys} (h : SStep t a b) (ha : Bare a) : ∃ n, ARun (fenS t) n (fenA t a) (fenA t b) := by
 cases h with
 | @ins i x h' m' hi hx ho =>
  have hi2 : i < (fenS t).ths.length := by rw [fenS_len]; exact hi
  obtain ⟨hop, hsk⟩ := hnb i _ x hx
  obtain ⟨d, e1, e2, e3⟩ := insA_pc ho hsk
  have hd := e2 hop
  subst hd
  have hgo := e3 (fpos (lth t i) (a.th i).pc)
  have s1 := AStep.ins (t := fenS t) (a := fenA t a) (i := i) (x := x) hi2 (by rw [lth_fen]; exact fen_at hx) hgo
  have hstep := fpos_step hx
  rw [fenA_upd]
  rcases insA_bf ho (ha i) with ⟨h1, hb⟩ | ⟨h1, hb, hm, hr, hp⟩
  ·rw [if_neg h1] at hstep
   refine ⟨1, .cons s1 ?_⟩
   have e4 : ({ h' with pc := fpos (lth t i) (a.th i).pc + 0 + 1 } : Thr) = { ({ h' with bf := [] } : Thr) with pc := fpos (lth t i) ({ h' with bf := [] } : Thr).pc } := by
    dsimp only at e1 ⊢
    rw [e1]
    rw [Nat.add_zero, Nat.add_zero, hstep, hb]
   dsimp only at s1 e4 ⊢
   rw [e4, hb]
   exact .nil _
  ·rw [if_pos h1] at hstep
   have hb1 : (({ h' with pc := fpos (lth t i) (a.th i).pc + 0 + 1 } : Thr)).bf = [(x.loc.toNat, argA (a.th i) x.aR x.aN)] := hb
   have s2 := AStep.dr (t := fenS t) (a := ⟨upd (fenA t a).th i { h' with pc := fpos (lth t i) (a.th i).pc + 0 + 1 }, m'⟩) (i := i) (p := (x.loc.toNat, argA (a.th i) x.aR x.aN)) (r := []) hi2 (by dsimp only; rw [upd_same]; exact hb)
   dsimp only at s2
   rw [upd_same, upd_upd] at s2
   have s3 := AStep.ins (t := fenS t) (a := ⟨upd (fenA t a).th i { h' with pc := fpos (lth t i) (a.th i).pc + 0 + 1, bf := [] }, upd m' x.loc.toNat (argA (a.th i) x.aR x.aN)⟩) (i := i) (x := fenI 2 1) hi2 (by dsimp only; rw [upd_same, lth_fen]; exact fen_next hx h1) (insA_loc (by unfold stopA; dsimp only; rw [upd_same]; rfl))
   dsimp only at s3
   rw [upd_same, upd_upd] at s3
   refine ⟨3, .cons s1 (.cons s2 (.cons s3 ?_))⟩
   have e4 : locA (fenI 2 1) { h' with pc := fpos (lth t i) (a.th i).pc + 0 + 1, bf := [] } = { ({ h' with bf := [] } : Thr) with pc := fpos (lth t i) ({ h' with bf := [] } : Thr).pc } := by
    show ({ h' with pc := fpos (lth t i) (a.th i).pc + 0 + 1 + 1, bf := [] } : Thr) = _
    dsimp only at e1 ⊢
    rw [e1, Nat.add_zero, Nat.add_zero, hstep]
   rw [e4, hb]
   exact .nil _
theorem fen_fwds {n : Nat} {a b : Sys} (h : SRun t n a b) : Bare a → (∃ m, ARun (fenS t) m (fenA t a) (fenA t b)) ∧ Bare b := by
 induction h with
 | nil => exact fun h => ⟨⟨0, .nil _⟩, h⟩
 | cons s _ ih =>
  intro ha
  obtain ⟨⟨m, hm⟩, hb⟩ := ih (s.bare ha)
  obtain ⟨m2, hm2⟩ := fen_fwd hnb s ha
  exact ⟨⟨_, hm2.append hm⟩, hb⟩
end
theorem seq_in_fen {t : Tst} (ht : TSOk t) (hn : NoPairs t) (h4 : ∀ i, (lth t i).length ≤ 4) (hnb : ∀ (i p : Nat) (x : Ins), (lth t i)[p]? = some x → x.op ≤ 15 ∧ 0 ≤ x.skip) : ∀ e ∈ seqEnds t, e ∈ tsoEnds (fenS t) := by
 intro e he
 obtain ⟨n, b, hr, hd, rfl⟩ := (mem_seqA ht hn).1 he
 obtain ⟨⟨m, hm⟩, hb⟩ := fen_fwds hnb hr (init_bare t)
 refine (mem_ends (fen_ok ht h4)).2 ⟨m, fenA t b, hm, fun i hi => ⟨hb i, fun x hx => ?_⟩, ?_⟩
 ·rw [fenS_len] at hi
  rw [lth_fen] at hx
  have hp := List.getElem?_eq_none_iff.1 (hd i hi)
  rw [show ((fenA t b).th i).pc = fpos (lth t i) (b.th i).pc from rfl, fpos_end hp] at hx
  cases hx
 ·rw [endA_congr (fen_set t) rfl]; rfl
inductive FenR (l : List Ins) : Thr → Thr → Prop
 | at_ {p : Nat} {rg : Nat → Int} : p ≤ l.length → FenR l ⟨fpos l p, rg, []⟩ ⟨p, rg, []⟩
 | behind {p : Nat} {rg : Nat → Int} {x : Ins} : l[p]? = some x → x.op = 10 → FenR l ⟨fpos l p + 1, rg, []⟩ ⟨p + 1, rg, []⟩
 | waits {p : Nat} {rg : Nat → Int} {x : Ins} : l[p]? = some x → x.op = 10 → FenR l ⟨fpos l p + 1, rg, [(x.loc.toNat, argA ⟨p, rg, []⟩ x.aR x.aN)]⟩ ⟨p, rg, []⟩
structure FenRs (t : Tst) (a s : Sys) : Prop where
 mm : a.mm = s.mm
 th : ∀ i, i < t.ths.length → FenR (lth t i) (a.th i) (s.th i)
theorem FenRs.upd {t : Tst} {a s : Sys} (h : FenRs t a s) {i : Nat} {ha hs : Thr} {m : Mem} (hr : FenR (lth t i) ha hs) : FenRs t ⟨upd a.th i ha, m⟩ ⟨upd s.th i hs, m⟩ := by
 refine ⟨rfl, fun j hj => ?_⟩
 dsimp only
 by_cases e : j = i
 ·subst e; rw [upd_same, upd_same]; exact hr
 ·rw [upd_ne e, upd_ne e]; exact h.th j hj
theorem FenRs.left {t : Tst} {a s : Sys} (h : FenRs t a s) {i : Nat} {ha : Thr} (hr : FenR (lth t i) ha (s.th i)) : FenRs t ⟨Go.Proofs.Ytflooghnoljpcaa.upd a.th i ha, a.mm⟩ s := by
 refine ⟨h.mm, fun j hj => ?_⟩
 dsimp only
 by_cases e : j = i
 ·subst e; rw [upd_same]; exact hr
 ·rw [upd_ne e]; exact h.th j hj
theorem insA_some {x : Ins} {h : Thr} {m : Mem} (hb : h.bf = []) (hn : x.op ≠ 13 ∧ x.op ≠ 14) : insA x h m ≠ none := by
 unfold insA
 by_cases hm : memB x.op = true
 ·rw [if_pos hm]
  unfold opA
  split
  ·simp
  ·split
   ·simp
   ·split
    ·simp [hb]
    ·simp [memB, rdB, wrB] at hm; omega
 ·rw [if_neg hm]
  have : stopA x h = false := by unfold stopA; rw [hb]; simp [hm]
  rw [this]; simp
theorem fen_back {t : Tst} (hnb : ∀ (i p : Nat) (x : Ins), (lth t i)[p]? = some x → x.op ≤ 15 ∧ 0 ≤ x.skip) {a b s : Sys} (hs : AStep (fenS t) a b) (hr : FenRs t a s) : FenRs t b s ∨ ∃ s', SStep t s s' ∧ FenRs t b s' := by
 cases hs with
 | @dr i p r hi hb =>
  rw [fenS_len] at hi
  have ht := hr.th i hi
  generalize ha : a.th i = ta at ht hb
  generalize hst : s.th i = ts at ht
  cases ht with
  | at_ => cases hb
  | behind => cases hb
  | @waits p rg x hx h10 =>
   cases hb
   have hop : insA x (s.th i) s.mm = some ({ (s.th i) with pc := p + 1, bf := [(x.loc.toNat, argA ⟨p, rg, []⟩ x.aR x.aN)] }, s.mm) := by
    rw [hst]
    unfold insA opA
    rw [if_pos (by rw [h10]; rfl), if_neg (by omega), if_pos h10]
    rfl
   have s1 := SStep.ins (t := t) (a := s) (i := i) (x := x) hi (by rw [hst]; exact hx) hop
   refine .inr ⟨_, s1, ?_⟩
   rw [hst]
   show FenRs t ⟨upd a.th i ⟨fpos (lth t i) p + 1, rg, []⟩, upd a.mm x.loc.toNat (argA ⟨p, rg, []⟩ x.aR x.aN)⟩ ⟨upd s.th i ⟨p + 1, rg, []⟩, upd s.mm x.loc.toNat (argA ⟨p, rg, []⟩ x.aR x.aN)⟩
   rw [hr.mm]
   exact hr.upd (.behind hx h10)
 | @ins i y h' m' hi hy ho =>
  rw [fenS_len] at hi
  rw [lth_fen] at hy
  have ht := hr.th i hi
  generalize ha : a.th i = ta at ht hy ho
  generalize hst : s.th i = ts at ht
  cases ht with
  | @at_ p rg hp =>
   dsimp only at hy
   by_cases hlt : p < (lth t i).length
   ·have hx : (lth t i)[p]? = some (lth t i)[p] := List.getElem?_eq_getElem hlt
    rw [fen_at hx] at hy
    cases hy
    generalize hxe : (lth t i)[p] = x at hx ho
    obtain ⟨hop, hsk⟩ := hnb i p x hx
    obtain ⟨d, e1, e2, e3⟩ := insA_pc ho hsk
    have hd := e2 hop
    subst hd
    have hgo := e3 p
    have hstep := fpos_step hx
    rcases insA_bf ho rfl with ⟨h1, hb⟩ | ⟨h1, hb, hm, hrg, hpc⟩
    ·rw [if_neg h1] at hstep
     have s1 := SStep.ins (t := t) (a := s) (i := i) (x := x) hi (by rw [hst]; exact hx) (by rw [hst, ← hr.mm]; exact hgo)
     refine .inr ⟨_, s1, ?_⟩
     dsimp only at e1 hb ⊢
     rw [hb]
     have e4 : h' = ⟨fpos (lth t i) (p + 1), h'.rg, []⟩ := by
      have : h' = ⟨h'.pc, h'.rg, h'.bf⟩ := rfl
      rw [this, hb, e1, hstep]
     show FenRs t ⟨upd a.th i h', m'⟩ ⟨upd s.th i ⟨p + 0 + 1, h'.rg, []⟩, m'⟩
     have h9 := hr.upd (m := m') (FenR.at_ (l := lth t i) (p := p + 1) (rg := h'.rg) hlt)
     rw [← e4] at h9
     exact h9
    ·refine .inl ?_
     have e4 : h' = ⟨fpos (lth t i) p + 1, rg, [(x.loc.toNat, argA ⟨p, rg, []⟩ x.aR x.aN)]⟩ := by
      have : h' = ⟨h'.pc, h'.rg, h'.bf⟩ := rfl
      rw [this, hb, hrg, hpc]
      rfl
     rw [e4, hm]
     exact hr.left (by rw [hst]; exact .waits hx h1)
   ·rw [fpos_end (by omega)] at hy; cases hy
  | @behind p rg x hx h10 =>
   dsimp only at hy
   rw [fen_next hx h10] at hy
   cases hy
   rw [insA_loc (by rfl)] at ho
   cases ho
   refine .inl ?_
   have hstep := fpos_step hx
   rw [if_pos h10] at hstep
   have e4 : locA (fenI 2 1) ⟨fpos (lth t i) p + 1, rg, []⟩ = ⟨fpos (lth t i) (p + 1), rg, []⟩ := by
    rw [hstep]; rfl
   rw [e4]
   exact hr.left (by rw [hst]; exact .at_ (List.getElem?_eq_some_iff.1 hx).1)
  | @waits p rg x hx h10 =>
   dsimp only at hy
   rw [fen_next hx h10] at hy
   cases hy
   unfold insA at ho
   rw [if_neg (by decide), if_pos (by rfl)] at ho
   cases ho
theorem fen_backs {t : Tst} (hnb : ∀ (i p : Nat) (x : Ins), (lth t i)[p]? = some x → x.op ≤ 15 ∧ 0 ≤ x.skip) {n : Nat} {a b : Sys} (h : ARun (fenS t) n a b) : ∀ s, FenRs t a s → ∃ m s', SRun t m s s' ∧ FenRs t b s' := by
 induction h with
 | nil => exact fun s hr => ⟨0, s, .nil _, hr⟩
 | cons st _ ih =>
  intro s hr
  rcases fen_back hnb st hr with h | ⟨s1, h1, h2⟩
  ·exact ih s h
  ·obtain ⟨m, s', h3, h4⟩ := ih s1 h2
   exact ⟨m + 1, s', .cons h1 h3, h4⟩
theorem fen_in_seq {t : Tst} (ht : TSOk t) (hn : NoPairs t) (h4 : ∀ i, (lth t i).length ≤ 4) (hnb : ∀ (i p : Nat) (x : Ins), (lth t i)[p]? = some x → x.op ≤ 15 ∧ 0 ≤ x.skip) : ∀ e ∈ tsoEnds (fenS t), e ∈ seqEnds t := by
 intro e he
 obtain ⟨n, b, hr, hf, rfl⟩ := (mem_ends (fen_ok ht h4)).1 he
 obtain ⟨m, s, h1, h2⟩ := fen_backs hnb hr (initA t) ⟨rfl, fun i _ => .at_ (Nat.zero_le _)⟩
 refine (mem_seqA ht hn).2 ⟨m, s, h1, fun i hi => ?_, ?_⟩
 ·obtain ⟨f1, f2⟩ := hf i (by rw [fenS_len]; exact hi)
  rw [lth_fen] at f2
  have hth := h2.th i hi
  generalize b.th i = tb at hth f1 f2
  generalize s.th i = ts at hth
  cases hth with
  | @at_ p rg hp =>
   dsimp only at f2 ⊢
   cases hx : (lth t i)[p]? with
   | none => rfl
   | some x =>
    exact absurd (f2 x (fen_at hx)) (insA_some rfl (hn i p x hx))
  | @behind p rg x hx h10 =>
   exact absurd (f2 _ (fen_next hx h10)) (insA_some rfl (by decide))
  | waits => cases f1
 ·rw [endA_congr (fen_set t) rfl]
  refine madeK_congr (fun i r hi _ => ?_) fun x _ => by rw [h2.mm]
  have hth := h2.th i hi
  generalize b.th i = tb at hth
  generalize s.th i = ts at hth
  cases hth <;> rfl
open Go Go.Sl
theorem good_ts {t : Tst} (h : chkErr t = 0) (hw : tstWf t) : TSOk t := by
 have ht := good_tt h hw
 refine ⟨ht, fun i l hl p x hx => ?_⟩
 have hz := chkErr_zero.1 h
 have h4 := (fe_zero _ _).1 hz.2.2.1 i l hl
 have h5 := (fe_zero _ _).1 h4 p x hx
 obtain ⟨e1, e2, e3, _⟩ := insErr_zero.1 h5
 by_cases hm : memB x.op = true
 ·exact ((ht.thr i l hl).2 p x hx).loc hm
 ·simp only [err1, Bool.or_eq_false_iff, Bool.not_eq_false'] at e1
  have hb := insEq_iff.1 e1.2.2
  have : x.loc = (blankI x).loc := by rw [hb]
  rw [this]
  unfold blankI
  simp only [hm, if_false, Bool.false_eq_true]
  decide
theorem bufS_ok (f : Bool) : TSOk (bufT f) := by
 refine ⟨bufT_ok f, fun i l h p x hx => ?_⟩
 have hi : i < 2 := (List.getElem?_eq_some_iff.1 h).1
 have hc : i = 0 ∨ i = 1 := by omega
 have hl : l = bufL f (i : Nat) := by rcases hc with rfl | rfl <;> exact (Option.some.inj h).symm
 subst hl
 have hm := List.mem_of_getElem? hx
 rcases hc with rfl | rfl <;> cases f <;> simp only [bufL, Bool.false_eq_true, if_false, if_true, List.mem_cons, List.not_mem_nil, or_false] at hm
 ·rcases hm with h | h <;> subst h <;> decide
 ·rcases hm with h | h | h <;> subst h <;> decide
 ·rcases hm with h | h <;> subst h <;> decide
 ·rcases hm with h | h | h <;> subst h <;> decide
set_option maxRecDepth 1000000 in
theorem endsQ : seqEnds (bufT false) = [4 :: ([1, 0, 1, 1] ++ List.replicate 36 0), 4 :: ([1, 1, 1, 1] ++ List.replicate 36 0), 4 :: ([0, 1, 1, 1] ++ List.replicate 36 0)] := by kernel_rfl
def st5 : List Int := 4 :: ([1, 1, 1, 1] ++ List.replicate 36 0)
theorem setQ_41 : ∀ q ∈ setOf (seqEnds (bufT false)), q.length = 41 := fun q hq => seqEnds_41 (bufS_ok false) q (mem_setOf.1 hq)
theorem seqLen (t : Tst) : (setOf (seqEnds t)).length = (seqEnds t).length := setOf_len (seqEnds_nodup t)
theorem setQ_len : (setOf (seqEnds (bufT false))).length = 3 := by rw [seqLen, endsQ]; rfl
theorem setQ_no : decide (st4 ∈ setOf (seqEnds (bufT false))) = false := by
 rw [decide_eq_false_iff_not, mem_setOf, endsQ]; decide
theorem setQ_has : decide (st5 ∈ setOf (seqEnds (bufT false))) = true := by
 rw [decide_eq_true_eq, mem_setOf, endsQ]; exact .tail _ (.head _)
theorem seq41 {t : Tst} (ht : TSOk t) : ∀ q ∈ setOf (seqEnds t), q.length = 41 := fun q hq => seqEnds_41 ht q (mem_setOf.1 hq)
end Go.Proofs.Ytflooghnoljpcaa
namespace Go.Sl
open Go
section
variable {P : Program} {H : Heap}
theorem call_ex {α : Type} {I : α → Nat → Prop} {G : α → Heap} {f : FuncId} {args : List V} {k : Nat} {K : V → Heap → Nat → Prop} {Hf : Heap} {r : V} (h : Fn P f args Hf k fun v H' k' => ∃ a, I a k' ∧ v = r ∧ H' = G a) (hn : (Hf.map Prod.fst).Nodup) (hl : ∀ p ∈ Hf, look p.1 H = some p.2)
    (hK : ∀ k' a, k ≤ k' → I a k' → K r (G a ++ H.filter fun p => !decide (p.1 ∈ Hf.map Prod.fst)) k') : @callF P f args H k ⟨K⟩ :=
  show Fn P f args H k K from ⟨h.enters, fun F ι w cargs h1 h2 h3 => by
    have p := perm_keep h2.names hn hl
    refine Fn.calls ((h.frame p (K := fun v H' k' => ∃ a, k ≤ k' ∧ I a k' ∧ v = r ∧ H' = G a ++ H.filter fun p => !decide (p.1 ∈ Hf.map Prod.fst)) fun v H' k' hk e => ?_).mono fun v H' k' e => ?_) F ι w cargs h1 h2 h3
    · obtain ⟨a, e1, e2, e3⟩ := e
      exact ⟨a, hk, e1, e2, by rw [e3]⟩
    · obtain ⟨a, e1, e2, rfl, rfl⟩ := e
      exact hK k' a e1 e2⟩
end
end Go.Sl
namespace Go.Proofs.Ytflooghnoljpcaa
open Go Go.Sl Go.Proofs.Try
theorem of_pf (x : Ins) : Pf Try.prog 82 [insC x] (.agg [bV (rdB x.op), bV (wrB x.op)]) := by
 refine Pf.of_fn (.cons (nl_insC x) .nil) (nl_kind _ _) ?_
 refine fn_in T_ok func82 rfl rfl ntmps82 rfl (by simp) ?_
 refine region_k T_ok (by decide) fun K hK => ?_
 simp [go_sem, insC, Ins.cs]
 refine hK _ ?_; clear hK K
 refine seq_k fun K1 hK1 => ?_
 refine region_k T_ok (by decide) fun K hK => ?_
 simp [go_sem, insC, Ins.cs]
 refine hK _ ?_; clear hK K
 refine tr_block ?_
 refine seq_k fun K2 hK2 => ?_
 refine region_k T_ok (by decide) fun K hK => ?_
 simp [go_sem]
 refine hK _ ?_; clear hK K
 refine cond_k rfl (fun h => ?_) (fun h => ?_)
 ·simp at h
  have h9 := h
  clear h
  refine tr_skip ?_
  refine hK2 _ ?_; try clear hK2 K2
  refine cond_k rfl (fun h => ?_) (fun h => ?_)
  ·clear h
   refine region_k T_ok (by decide) fun K hK => ?_
   simp [go_sem]
   refine hK _ ?_; clear hK K
   refine tr_ret ⟨.inr rfl, ?_⟩
   simp [go_sem, rdB, wrB, h9]
  ·simp at h
   exact absurd h9 h
 ·simp at h
  have h9 := h
  clear h
  refine region_e T_ok (by decide) fun K hK => ?_
  simp [go_sem]
  refine hK _ ?_; clear hK K
  refine hK2 _ ?_; try clear hK2 K2
  refine cond_k rfl (fun h => ?_) (fun h => ?_)
  ·simp at h
   have h13 := h
   clear h
   refine region_k T_ok (by decide) fun K hK => ?_
   simp [go_sem]
   refine hK _ ?_; clear hK K
   refine tr_ret ⟨.inr rfl, ?_⟩
   simp [go_sem, rdB, wrB, h13]
  ·simp at h
   have h13 := h
   clear h
   refine seq_k fun K3 hK3 => ?_
   refine region_k T_ok (by decide) fun K hK => ?_
   simp [go_sem]
   refine hK _ ?_; clear hK K
   refine cond_k rfl (fun h => ?_) (fun h => ?_)
   ·simp at h
    have h10 := h
    clear h
    refine tr_skip ?_
    refine hK3 _ ?_; try clear hK3 K3
    refine cond_k rfl (fun h => ?_) (fun h => ?_)
    ·clear h
     refine region_k T_ok (by decide) fun K hK => ?_
     simp [go_sem]
     refine hK _ ?_; clear hK K
     refine tr_ret ⟨.inr rfl, ?_⟩
     simp [go_sem, rdB, wrB, h9, h13, h10]
    ·simp at h
     exact absurd h10 h
   ·simp at h
    have h10 := h
    clear h
    refine region_e T_ok (by decide) fun K hK => ?_
    simp [go_sem]
    refine hK _ ?_; clear hK K
    refine hK3 _ ?_; try clear hK3 K3
    refine cond_k rfl (fun h => ?_) (fun h => ?_)
    ·simp at h
     have h14 := h
     clear h
     refine region_k T_ok (by decide) fun K hK => ?_
     simp [go_sem]
     refine hK _ ?_; clear hK K
     refine tr_ret ⟨.inr rfl, ?_⟩
     simp [go_sem, rdB, wrB, h9, h13, h14]
    ·simp at h
     have h14 := h
     clear h
     refine seq_k fun K4 hK4 => ?_
     refine region_k T_ok (by decide) fun K hK => ?_
     simp [go_sem]
     refine hK _ ?_; clear hK K
     refine cond_k rfl (fun h => ?_) (fun h => ?_)
     ·simp at h
      have h11 := h
      clear h
      refine tr_skip ?_
      refine hK4 _ ?_; try clear hK4 K4
      refine cond_k rfl (fun h => ?_) (fun h => ?_)
      ·clear h
       refine region_k T_ok (by decide) fun K hK => ?_
       simp [go_sem]
       refine hK _ ?_; clear hK K
       refine tr_ret ⟨.inr rfl, ?_⟩
       simp [go_sem, rdB, wrB, h9, h13, h10, h14, h11]
      ·simp at h
       exact absurd h11 h
     ·simp at h
      have h11 := h
      clear h
      refine region_e T_ok (by decide) fun K hK => ?_
      simp [go_sem]
      refine hK _ ?_; clear hK K
      refine hK4 _ ?_; try clear hK4 K4
      refine cond_k rfl (fun h => ?_) (fun h => ?_)
      ·simp at h
       have h12 := h
       clear h
       refine region_k T_ok (by decide) fun K hK => ?_
       simp [go_sem]
       refine hK _ ?_; clear hK K
       refine tr_ret ⟨.inr rfl, ?_⟩
       simp [go_sem, rdB, wrB, h9, h13, h10, h14, h12]
      ·simp at h
       have h12 := h
       clear h
       refine tr_skip ?_
       refine hK1 _ ?_; try clear hK1 K1
       refine region_k T_ok (by decide) fun K hK => ?_
       simp [go_sem]
       refine hK _ ?_; clear hK K
       refine tr_ret ⟨.inr rfl, ?_⟩
       simp [go_sem, rdB, wrB, h9, h13, h10, h14, h11, h12]
theorem ismem_pf (x : Ins) : Pf Try.prog 89 [insC x] (bV (memB x.op)) := by
 refine Pf.of_fn (.cons (nl_insC x) .nil) (.val _) ?_
 refine fn_in T_ok func89 rfl rfl ntmps89 rfl (by simp) ?_
 refine region_k T_ok (by decide) fun K hK => ?_
 simp [go_sem, insC, Ins.cs]
 refine hK _ ?_; clear hK K
 refine region_k T_ok (by decide) fun K hK => ?_
 simp [go_sem, insC, Ins.cs]
 refine call_pf (of_pf x) ?_
 simp [go_sem]
 refine hK _ ?_; clear hK K
 refine tr_ret ⟨.inr rfl, ?_⟩
 simp [go_sem, memB]
 try (cases rdB x.op <;> cases wrB x.op <;> rfl)
theorem sets_pf (x : Ins) : Pf Try.prog 103 [insC x] (bV (setB x.op)) := by
 refine Pf.of_fn (.cons (nl_insC x) .nil) (.val _) ?_
 refine fn_in T_ok func103 rfl rfl ntmps103 rfl (by simp) ?_
 refine region_k T_ok (by decide) fun K hK => ?_
 simp [go_sem, insC, Ins.cs]
 refine hK _ ?_; clear hK K
 refine region_to T_ok (by decide) ⟨16, [(2, bV (setB x.op))], [], 1⟩ ?_ ?_
 ·by_cases c1 : 1 ≤ x.op
  ·by_cases c2 : x.op ≤ 14
   ·by_cases c3 : x.op = 10
    ·simp [go_sem, c1, c2, c3, insC, Ins.cs]
     refine Weaker.fz 1 0 ?_ ?_ ?_
     ·simp [go_sem, c1, c2, c3, setB]
     ·first | (simp; done) | (simp; omega)
     ·simp [go_sem, c1, c2, c3, setB]
    ·simp [go_sem, c1, c2, c3, insC, Ins.cs]
     refine Weaker.fz 1 0 ?_ ?_ ?_
     ·simp [go_sem, c1, c2, c3, setB]
     ·first | (simp; done) | (simp; omega)
     ·simp [go_sem, c1, c2, c3, setB]
   ·simp [go_sem, c1, c2, insC, Ins.cs]
    refine Weaker.fz 1 0 ?_ ?_ ?_
    ·simp [go_sem, c1, c2, setB]
    ·first | (simp; done) | (simp; omega)
    ·simp [go_sem, c1, c2, setB]
  ·simp [go_sem, c1, insC, Ins.cs]
   refine Weaker.fz 1 0 ?_ ?_ ?_
   ·simp [go_sem, c1, setB]
   ·first | (simp; done) | (simp; omega)
   ·simp [go_sem, c1, setB]
 ·skip
  refine tr_ret ⟨.inr rfl, ?_⟩
  simp [go_sem]
theorem goodArg_pf (r : Bool) (n : Int) : Pf Try.prog 105 [.agg [bV r, uV n]] (bV (argOk r n)) := by
 refine Pf.of_fn (.cons (.agg (.cons (.val _) (.cons (.val _) .nil))) .nil) (.val _) ?_
 refine fn_in T_ok func105 rfl rfl ntmps105 rfl (by simp) ?_
 refine region_k T_ok (by decide) fun K hK => ?_
 simp [go_sem]
 refine hK _ ?_; clear hK K
 refine region_to T_ok (by decide) ⟨11, [(2, bV (argOk r n))], [], 1⟩ ?_ ?_
 ·by_cases c1 : r = true
  ·simp [go_sem, c1]
   refine Weaker.fz 1 0 ?_ ?_ ?_
   ·simp [go_sem, c1, argOk]
   ·first | (simp; done) | (simp; omega)
   ·simp [go_sem, c1, argOk]
  ·simp [go_sem, c1]
   refine Weaker.fz 1 0 ?_ ?_ ?_
   ·simp [go_sem, c1, argOk]
   ·first | (simp; done) | (simp; omega)
   ·simp [go_sem, c1, argOk]
 ·skip
  refine tr_ret ⟨.inr rfl, ?_⟩
  simp [go_sem]
theorem before_pf (a b : Atm) : Pf Try.prog 81 [atmC a, atmC b] (bV (beforeB a b)) := by
 refine Pf.of_fn (.cons (nl_atmC a) (.cons (nl_atmC b) .nil)) (.val _) ?_
 refine fn_in T_ok func81 rfl rfl ntmps81 rfl (by simp) ?_
 refine region_k T_ok (by decide) fun K hK => ?_
 simp [go_sem, atmC, Atm.cs]
 refine hK _ ?_; clear hK K
 refine seq_k fun K1 hK1 => ?_
 refine region_k T_ok (by decide) fun K hK => ?_
 simp [go_sem, atmC, Atm.cs]
 refine hK _ ?_; clear hK K
 refine cond_k rfl (fun h => ?_) (fun h => ?_)
 ·simp at h
  have hne := h
  refine region_to T_ok (by decide) ⟨30, [(4, bV (beforeB a b))], [], 2⟩ ?_ ?_
  ·by_cases c1 : b.th < 0
   ·simp [go_sem, c1, atmC, Atm.cs]
    refine Weaker.fz 1 0 ?_ ?_ ?_
    ·simp [go_sem, c1, beforeB, hne]
    ·first | (simp; done) | (simp; omega)
    ·simp [go_sem, c1, beforeB, hne]
   ·by_cases c2 : 0 ≤ a.th
    ·by_cases c3 : a.th < b.th
     ·simp [go_sem, c1, c2, c3, atmC, Atm.cs]
      refine Weaker.fz 1 0 ?_ ?_ ?_
      ·simp [go_sem, c1, c2, c3, beforeB, hne]
      ·first | (simp; done) | (simp; omega)
      ·simp [go_sem, c1, c2, c3, beforeB, hne]
     ·simp [go_sem, c1, c2, c3, atmC, Atm.cs]
      refine Weaker.fz 1 0 ?_ ?_ ?_
      ·simp [go_sem, c1, c2, c3, beforeB, hne]
      ·first | (simp; done) | (simp; omega)
      ·simp [go_sem, c1, c2, c3, beforeB, hne]
    ·simp [go_sem, c1, c2, atmC, Atm.cs]
     refine Weaker.fz 1 0 ?_ ?_ ?_
     ·simp [go_sem, c1, c2, beforeB, hne]
     ·first | (simp; done) | (simp; omega)
     ·simp [go_sem, c1, c2, beforeB, hne]
  ·skip
   refine tr_ret ⟨.inr rfl, ?_⟩
   simp [go_sem]
 ·simp at h
  have hne := h
  refine tr_skip ?_
  refine hK1 _ ?_; try clear hK1 K1
  refine region_k T_ok (by decide) fun K hK => ?_
  simp [go_sem, atmC, Atm.cs]
  refine hK _ ?_; clear hK K
  refine tr_ret ⟨.inr rfl, ?_⟩
  simp [go_sem, beforeB, hne]
open Go Go.Sl Go.Proofs.Try
set_option maxRecDepth 100000 in
set_option maxHeartbeats 8000000 in
theorem checkAsk_pf (t : Tst) (a : Atm) : Pf Try.prog 80 [.rp t.cs 0, atmC a] (iV (askErr t a)) := by
 refine Pf.of_fn (.cons (nl_rp t) (.cons (nl_atmC a) .nil)) (.val _) ?_
 refine fn_in T_ok func80 rfl rfl ntmps80 rfl (by simp) ?_
 refine region_k T_ok (by decide) fun K hK => ?_
 simp [go_sem, atmC, Atm.cs, Tst.cs]
 refine hK _ ?_; clear hK K
 refine region_k T_ok (by decide) fun K hK => ?_
 simp [go_sem, atmC, Atm.cs, Tst.cs]
 refine hK _ ?_; clear hK K
 refine seq_k fun K1 hK1 => ?_
 refine region_k T_ok (by decide) fun K hK => ?_
 simp [go_sem, atmC, Atm.cs, Tst.cs]
 refine hK _ ?_; clear hK K
 refine cond_k rfl (fun h => ?_) (fun h => ?_)
 ·simp at h
  have hth := h
  refine region_e T_ok (by decide) fun K hK => ?_
  simp [go_sem]
  refine hK _ ?_; clear hK K
  refine hK1 _ ?_; try clear hK1 K1
  refine seq_k fun K2 hK2 => ?_
  refine draw_to T_ok (by kernel_rfl) 22 [[], [0], [0, 1], [0, 1, 2], [0, 1, 2, 3], [0, 1, 2, 3, 4], [0, 1, 2, 3], [0, 1, 2, 3, 6], [0, 1, 2, 3, 6, 7], [0, 1, 2, 3, 6, 7, 8], [0, 1, 2, 3, 6, 7, 8, 9], [0, 1, 2, 3, 4, 5, 6, 7, 8, 9, 10], [0, 1, 2, 3, 4, 5, 6, 7, 8, 9, 10, 11], [0, 1, 2, 3, 4, 5, 6, 7, 8, 9, 10, 11, 12], [0, 1, 2, 3, 4, 5, 6, 7, 8, 9, 10, 11, 12, 13], [0, 1, 2, 3, 4, 5, 6, 7, 8, 9, 10, 11, 12, 13, 14], [0, 1, 2, 3, 4, 5, 6, 7, 8, 9, 10, 11, 12, 13, 14, 15], [0, 1, 2, 3, 4, 5, 6, 7, 8, 9, 10, 11, 12, 13, 14, 15, 16], [0, 1, 2, 3, 4, 5, 6, 7, 8, 9, 10, 11, 12, 13, 14, 15, 16, 17], [0, 1, 2, 3, 4, 5, 6, 7, 8, 9, 10, 11, 12, 13, 14, 15, 16, 17, 18], [0, 1, 2, 3, 4, 5, 6, 7, 8, 9, 10, 11, 12, 13, 14, 15, 16, 17, 18, 19], [0, 1, 2, 3, 4, 5, 6, 7, 8, 9, 10, 11, 12, 13, 14, 15, 16, 17, 18], [0, 1, 2, 3, 4, 5, 6, 7, 8, 9, 10, 11, 12, 13, 14, 15, 16, 17, 18, 19, 20, 21], [0, 1, 2, 3, 4, 5, 6, 7, 8, 9, 10, 11, 12, 13, 14, 15, 16, 17, 18, 19, 20, 21, 22]] [] (by decide) (by decide) (by decide) ⟨38, [(37, bV (askBad t a))], [], 23⟩ ?_ ?_
  ·first | dsimp only [List.take, List.drop] | dsimp [List.take, List.drop]
   by_cases c1 : a.th < -1
   ·simp [go_sem, c1, atmC, Atm.cs, Tst.cs]
    refine Weaker.fz 1 0 ?_ ?_ ?_
    ·simp [go_sem, c1, askBad, askLim, hth]
    ·first | (simp; done) | (simp; omega)
    ·simp [go_sem, c1, askBad, askLim, hth]
   ·by_cases c2 : (t.ths.length : Int) ≤ a.th
    ·simp [go_sem, c1, c2, atmC, Atm.cs, Tst.cs]
     refine Weaker.fz 1 0 ?_ ?_ ?_
     ·simp [go_sem, c1, c2, askBad, askLim, hth]
     ·first | (simp; done) | (simp; omega)
     ·simp [go_sem, c1, c2, askBad, askLim, hth]
    ·by_cases c3 : a.at_ < 0
     ·simp [go_sem, c1, c2, c3, atmC, Atm.cs, Tst.cs]
      refine Weaker.fz 1 0 ?_ ?_ ?_
      ·simp [go_sem, c1, c2, c3, askBad, askLim, hth]
      ·first | (simp; done) | (simp; omega)
      ·simp [go_sem, c1, c2, c3, askBad, askLim, hth]
     ·by_cases c4 : 8 ≤ a.at_
      ·simp [go_sem, c1, c2, c3, c4, atmC, Atm.cs, Tst.cs]
       refine Weaker.fz 1 0 ?_ ?_ ?_
       ·simp [go_sem, c1, c2, c3, c4, askBad, askLim, hth]
       ·first | (simp; done) | (simp; omega)
       ·simp [go_sem, c1, c2, c3, c4, askBad, askLim, hth]
      ·simp [go_sem, c1, c2, c3, c4, atmC, Atm.cs, Tst.cs]
       refine Weaker.fz 1 0 ?_ ?_ ?_
       ·simp [go_sem, c1, c2, c3, c4, askBad, askLim, hth]
       ·first | (simp; done) | (simp; omega)
       ·simp [go_sem, c1, c2, c3, c4, askBad, askLim, hth]
  ·skip
   refine cond_k rfl (fun h => ?_) (fun h => ?_)
   ·have hb := h
    refine region_k T_ok (by decide) fun K hK => ?_
    simp [go_sem]
    refine hK _ ?_; clear hK K
    refine tr_ret ⟨.inr rfl, ?_⟩
    simp [go_sem, askErr, hb]
   ·have hb := h
    refine tr_skip ?_
    refine hK2 _ ?_; try clear hK2 K2
    refine region_k T_ok (by decide) fun K hK => ?_
    simp [go_sem]
    refine hK _ ?_; clear hK K
    refine tr_ret ⟨.inr rfl, ?_⟩
    simp [go_sem, askErr, hb]
 ·simp at h
  have hth : ¬ 0 ≤ a.th := by omega
  refine tr_skip ?_
  refine hK1 _ ?_; try clear hK1 K1
  refine seq_k fun K3 hK3 => ?_
  refine draw_to T_ok (by kernel_rfl) 22 [[], [0], [0, 1], [0, 1, 2], [0, 1, 2, 3], [0, 1, 2, 3, 4], [0, 1, 2, 3], [0, 1, 2, 3, 6], [0, 1, 2, 3, 6, 7], [0, 1, 2, 3, 6, 7, 8], [0, 1, 2, 3, 6, 7, 8, 9], [0, 1, 2, 3, 4, 5, 6, 7, 8, 9, 10], [0, 1, 2, 3, 4, 5, 6, 7, 8, 9, 10, 11], [0, 1, 2, 3, 4, 5, 6, 7, 8, 9, 10, 11, 12], [0, 1, 2, 3, 4, 5, 6, 7, 8, 9, 10, 11, 12, 13], [0, 1, 2, 3, 4, 5, 6, 7, 8, 9, 10, 11, 12, 13, 14], [0, 1, 2, 3, 4, 5, 6, 7, 8, 9, 10, 11, 12, 13, 14, 15], [0, 1, 2, 3, 4, 5, 6, 7, 8, 9, 10, 11, 12, 13, 14, 15, 16], [0, 1, 2, 3, 4, 5, 6, 7, 8, 9, 10, 11, 12, 13, 14, 15, 16, 17], [0, 1, 2, 3, 4, 5, 6, 7, 8, 9, 10, 11, 12, 13, 14, 15, 16, 17, 18], [0, 1, 2, 3, 4, 5, 6, 7, 8, 9, 10, 11, 12, 13, 14, 15, 16, 17, 18, 19], [0, 1, 2, 3, 4, 5, 6, 7, 8, 9, 10, 11, 12, 13, 14, 15, 16, 17, 18], [0, 1, 2, 3, 4, 5, 6, 7, 8, 9, 10, 11, 12, 13, 14, 15, 16, 17, 18, 19, 20, 21], [0, 1, 2, 3, 4, 5, 6, 7, 8, 9, 10, 11, 12, 13, 14, 15, 16, 17, 18, 19, 20, 21, 22]] [] (by decide) (by decide) (by decide) ⟨38, [(37, bV (askBad t a))], [], 23⟩ ?_ ?_
  ·first | dsimp only [List.take, List.drop] | dsimp [List.take, List.drop]
   by_cases c1 : a.th < -1
   ·simp [go_sem, c1, atmC, Atm.cs, Tst.cs]
    refine Weaker.fz 1 0 ?_ ?_ ?_
    ·simp [go_sem, c1, askBad, askLim, hth]
    ·first | (simp; done) | (simp; omega)
    ·simp [go_sem, c1, askBad, askLim, hth]
   ·by_cases c2 : (t.ths.length : Int) ≤ a.th
    ·simp [go_sem, c1, c2, atmC, Atm.cs, Tst.cs]
     refine Weaker.fz 1 0 ?_ ?_ ?_
     ·simp [go_sem, c1, c2, askBad, askLim, hth]
     ·first | (simp; done) | (simp; omega)
     ·simp [go_sem, c1, c2, askBad, askLim, hth]
    ·by_cases c3 : a.at_ < 0
     ·simp [go_sem, c1, c2, c3, atmC, Atm.cs, Tst.cs]
      refine Weaker.fz 1 0 ?_ ?_ ?_
      ·simp [go_sem, c1, c2, c3, askBad, askLim, hth]
      ·first | (simp; done) | (simp; omega)
      ·simp [go_sem, c1, c2, c3, askBad, askLim, hth]
     ·by_cases c4 : (t.locs.length : Int) ≤ a.at_
      ·simp [go_sem, c1, c2, c3, c4, atmC, Atm.cs, Tst.cs]
       refine Weaker.fz 1 0 ?_ ?_ ?_
       ·simp [go_sem, c1, c2, c3, c4, askBad, askLim, hth]
       ·first | (simp; done) | (simp; omega)
       ·simp [go_sem, c1, c2, c3, c4, askBad, askLim, hth]
      ·simp [go_sem, c1, c2, c3, c4, atmC, Atm.cs, Tst.cs]
       refine Weaker.fz 1 0 ?_ ?_ ?_
       ·simp [go_sem, c1, c2, c3, c4, askBad, askLim, hth]
       ·first | (simp; done) | (simp; omega)
       ·simp [go_sem, c1, c2, c3, c4, askBad, askLim, hth]
  ·skip
   refine cond_k rfl (fun h => ?_) (fun h => ?_)
   ·have hb := h
    refine region_k T_ok (by decide) fun K hK => ?_
    simp [go_sem]
    refine hK _ ?_; clear hK K
    refine tr_ret ⟨.inr rfl, ?_⟩
    simp [go_sem, askErr, hb]
   ·have hb := h
    refine tr_skip ?_
    refine hK3 _ ?_; try clear hK3 K3
    refine region_k T_ok (by decide) fun K hK => ?_
    simp [go_sem]
    refine hK _ ?_; clear hK K
    refine tr_ret ⟨.inr rfl, ?_⟩
    simp [go_sem, askErr, hb]
theorem events_pf (t : Tst) (ht : t.ths.length ≤ 1000) (hl : ∀ x ∈ t.ths, x.length ≤ 1000) (he : events t.ths ≤ 1000000) : Pf Try.prog 50 [.rp t.cs 0] (iV (events t.ths : Nat)) := by
 refine Pf.of_fn (.cons (nl_rp t) .nil) (.val _) ?_
 refine fn_in T_ok func50 rfl rfl ntmps50 rfl (by simp) ?_
 refine region_k T_ok (by decide) fun K hK => ?_
 simp [go_sem]
 refine hK _ ?_; clear hK K
 refine region_k T_ok (by decide) fun K hK => ?_
 simp [go_sem]
 refine hK _ ?_; clear hK K
 refine seq_k fun K1 hK1 => ?_
 refine region_k T_ok (by decide) fun K hK => ?_
 simp [go_sem, Tst.cs]
 refine hK _ ?_; clear hK K
 refine tr_block ?_
 refine loop_p (α := Nat × Nat) (fun a => ⟨37, [(3, iV (events (t.ths.take a.1) : Nat)), (12, .ro 1 (thrs t.ths)), (13, iV (t.ths.length : Nat)), (14, iV (a.1 : Nat))], [], a.2⟩) (fun a => a.1 ≤ t.ths.length) (fun a => t.ths.length - a.1) (0, 0) ?_ ?_ ?_
 ·dsimp only; omega
 ·refine Weaker.fz 1 0 ?_ ?_ ?_
  ·simp [go_sem, events]
  ·first | (simp; done) | (simp; omega)
  ·simp [go_sem]
 rintro ⟨i, j⟩ hi
 dsimp only at hi ⊢
 refine region_k T_ok (by decide) fun K hK => ?_
 simp [go_sem]
 refine hK _ ?_; clear hK K
 refine seq_k fun K2 hK2 => ?_
 refine cond_k rfl (fun h => ?_) (fun h => ?_)
 ·simp at h
  have hI := h
  clear h
  have h' : i < (t.ths).length := by omega
  obtain ⟨l, hx, hx'⟩ := getAt h'
  have hi0 : (0 : Int) ≤ (i : Nat) := by omega
  have hw : IntKind.i64.wrap ((i : Nat) + 1) = (i : Nat) + 1 := wrap_i64 (by omega) (by omega)
  have hll := hl l (List.mem_of_getElem? hx)
  refine tr_skip ?_
  refine hK2 _ ?_; try clear hK2 K2
  refine seq_k fun K3 hK3 => ?_
  refine tr_block ?_
  refine region_k T_ok (by decide) fun K hK => ?_
  simp [go_sem, hI, hx, hx', hi0, h']
  refine hK _ ?_; clear hK K
  refine region_k T_ok (by decide) fun K hK => ?_
  simp [go_sem, hI, hx, hx', hi0, h']
  refine hK _ ?_; clear hK K
  refine tr_block ?_
  refine loop_p (α := Nat × Nat) (fun b => ⟨37, [(3, iV (evP t.ths i l b.1 : Nat)), (12, .ro 1 (thrs t.ths)), (13, iV (t.ths.length : Nat)), (14, iV (i : Nat)), (18, .ro 13 (inss l)), (19, iV (l.length : Nat)), (20, iV (b.1 : Nat))], [], b.2⟩) (fun b => b.1 ≤ l.length) (fun b => l.length - b.1) (0, j) ?_ ?_ ?_
  ·dsimp only; omega
  ·refine Weaker.fz 1 0 ?_ ?_ ?_
   ·simp [go_sem, evP_zero]
   ·first | (simp; done) | (simp; omega)
   ·simp [go_sem]
  rintro ⟨b, c⟩ hib
  dsimp only at hib ⊢
  refine region_k T_ok (by decide) fun K hK => ?_
  simp [go_sem]
  refine hK _ ?_; clear hK K
  refine seq_k fun K4 hK4 => ?_
  refine cond_k rfl (fun h => ?_) (fun h => ?_)
  ·simp at h
   have hIb := h
   clear h
   have h'b : b < (l).length := by omega
   obtain ⟨x, hxb, hx'b⟩ := getAt h'b
   have hi0b : (0 : Int) ≤ (b : Nat) := by omega
   have hwb : IntKind.i64.wrap ((b : Nat) + 1) = (b : Nat) + 1 := wrap_i64 (by omega) (by omega)
   have hle := evP_le hx hxb
   refine tr_skip ?_
   refine hK4 _ ?_; try clear hK4 K4
   refine seq_k fun K5 hK5 => ?_
   refine tr_block ?_
   refine region_k T_ok (by decide) fun K hK => ?_
   simp [go_sem, hIb, hxb, hx'b, hi0b, h'b, insC, Ins.cs]
   refine hK _ ?_; clear hK K
   refine region_k T_ok (by decide) fun K hK => ?_
   simp [go_sem, insC, Ins.cs]
   refine call_pf (of_pf x) ?_
   simp [go_sem]
   refine hK _ ?_; clear hK K
   refine seq_to ⟨37, [(3, iV (evP t.ths i l b + (rdB x.op).toNat : Nat)), (8, .ptr (c + 1) 0 0), (12, .ro 1 (thrs t.ths)), (13, iV (t.ths.length : Nat)), (14, iV (i : Nat)), (18, .ro 13 (inss l)), (19, iV (l.length : Nat)), (20, iV (b : Nat))], [(c + 1, .rows 2 [.agg [bV (rdB x.op), bV (wrB x.op)]])], c + 2⟩ ?_ ?_
   ·skip
    refine region_k T_ok (by decide) fun K hK => ?_
    simp [go_sem]
    refine hK _ ?_; clear hK K
    refine cond_k rfl (fun h => ?_) (fun h => ?_)
    ·have hr := h
     rw [hr] at hle
     simp only [Bool.toNat_true] at hle
     have hwr : IntKind.i64.wrap (((evP t.ths i l b : Nat) : Int) + 1) = ((evP t.ths i l b : Nat) : Int) + 1 := wrap_i64 (by omega) (by omega)
     refine region_e T_ok (by decide) fun K hK => ?_
     simp [go_sem, hwr]
     refine hK _ ?_; clear hK K
     refine Weaker.fzk 1 0 (by omega) ?_ ?_ ?_
     ·simp [go_sem, hr]
     ·first | (simp; done) | (simp; omega)
     ·simp [go_sem, hr]
    ·have hr := h
     have hwr : True := trivial
     refine tr_skip ?_
     refine Weaker.fzk 1 0 (by omega) ?_ ?_ ?_
     ·simp [go_sem, hr]
     ·first | (simp; done) | (simp; omega)
     ·simp [go_sem, hr]
   ·skip
    refine region_k T_ok (by decide) fun K hK => ?_
    simp [go_sem]
    refine hK _ ?_; clear hK K
    refine cond_k rfl (fun h => ?_) (fun h => ?_)
    ·have hw2 := h
     rw [hw2] at hle
     simp only [Bool.toNat_true] at hle
     have hwr2 : IntKind.i64.wrap (((evP t.ths i l b : Nat) : Int) + (((rdB x.op).toNat : Nat) : Int) + 1) = ((evP t.ths i l b : Nat) : Int) + (((rdB x.op).toNat : Nat) : Int) + 1 := wrap_i64 (by omega) (by omega)
     refine region_e T_ok (by decide) fun K hK => ?_
     simp [go_sem, hwr2]
     refine hK _ ?_; clear hK K
     refine hK5 _ ?_; try clear hK5 K5
     refine region_e T_ok (by decide) fun K hK => ?_
     simp [go_sem, hwb]
     refine hK _ ?_; clear hK K
     refine ⟨(b + 1, c + 2), ?_, ?_, ?_⟩
     ·dsimp only; omega
     ·dsimp only; omega
     ·refine Weaker.fz 1 0 ?_ ?_ ?_
      ·simp [go_sem, evP_step hxb, hw2]
      ·first | (simp; done) | (simp; omega)
      simp [go_sem]
    ·have hw2 := h
     refine tr_skip ?_
     refine hK5 _ ?_; try clear hK5 K5
     refine region_e T_ok (by decide) fun K hK => ?_
     simp [go_sem, hwb]
     refine hK _ ?_; clear hK K
     refine ⟨(b + 1, c + 2), ?_, ?_, ?_⟩
     ·dsimp only; omega
     ·dsimp only; omega
     ·refine Weaker.fz 1 0 ?_ ?_ ?_
      ·simp [go_sem, evP_step hxb, hw2]
      ·first | (simp; done) | (simp; omega)
      simp [go_sem]
  ·simp at h
   obtain rfl : b = l.length := by omega
   refine tr_exit ?_
   refine hK3 _ ?_; try clear hK3 K3
   refine region_e T_ok (by decide) fun K hK => ?_
   simp [go_sem, hw]
   refine hK _ ?_; clear hK K
   refine ⟨(i + 1, c), ?_, ?_, ?_⟩
   ·dsimp only; omega
   ·dsimp only; omega
   ·refine Weaker.fz 1 0 ?_ ?_ ?_
    ·simp [go_sem, evP_end hx]
    ·first | (simp; done) | (simp; omega)
    simp [go_sem]
 ·simp at h
  obtain rfl : i = t.ths.length := by omega
  refine tr_exit ?_
  refine hK1 _ ?_; try clear hK1 K1
  refine region_k T_ok (by decide) fun K hK => ?_
  simp [go_sem]
  refine hK _ ?_; clear hK K
  refine tr_ret ⟨.inr rfl, ?_⟩
  simp [go_sem]
open Go Go.Sl Go.Proofs.Try
theorem wrap_i8 {x : Int} (h : -128 ≤ x) (h' : x ≤ 127) : IntKind.i8.wrap x = x := by simp [IntKind.wrap, IntKind.bits, IntKind.signed]; omega
theorem drCases {x : Ins} (h : x.op = 15 → (1 ≤ x.pred ∧ x.pred ≤ 3) ∧ (1 ≤ x.succ ∧ x.succ ≤ 3)) : x.op ≠ 15 ∨ (x.op = 15 ∧ x.pred = 1 ∧ x.succ = 1) ∨ (x.op = 15 ∧ x.pred = 1 ∧ x.succ = 2) ∨ (x.op = 15 ∧ x.pred = 1 ∧ x.succ = 3) ∨ (x.op = 15 ∧ x.pred = 2 ∧ x.succ = 1) ∨ (x.op = 15 ∧ x.pred = 2 ∧ x.succ = 2) ∨ (x.op = 15 ∧ x.pred = 2 ∧ x.succ = 3) ∨ (x.op = 15 ∧ x.pred = 3 ∧ x.succ = 1) ∨ (x.op = 15 ∧ x.pred = 3 ∧ x.succ = 2) ∨ (x.op = 15 ∧ x.pred = 3 ∧ x.succ = 3) := by
 by_cases ho : x.op = 15
 ·have := h ho; omega
 ·exact .inl ho
theorem an12 {K : V → Prop} : binIV .and .i64 1 2 K = K (.val (.int .i64 0)) := by rfl
theorem an11 {K : V → Prop} : binIV .and .i64 1 1 K = K (.val (.int .i64 1)) := by rfl
theorem an22 {K : V → Prop} : binIV .and .i64 2 2 K = K (.val (.int .i64 2)) := by rfl
theorem an21 {K : V → Prop} : binIV .and .i64 2 1 K = K (.val (.int .i64 0)) := by rfl
theorem an32 {K : V → Prop} : binIV .and .i64 3 2 K = K (.val (.int .i64 2)) := by rfl
theorem an31 {K : V → Prop} : binIV .and .i64 3 1 K = K (.val (.int .i64 1)) := by rfl
def lookB (k : List Int) (i : Nat) (loc : Int) : Nat → Int
 | 0 => gt k (104 + loc.toNat)
 | n + 1 => if gt k (i * 26 + 10 + n * 2) = loc then gt k (i * 26 + 10 + n * 2 + 1) else lookB k i loc n
set_option maxHeartbeats 4000000 in
theorem drains_pf (x : Ins) (h : x.op = 15 → (1 ≤ x.pred ∧ x.pred ≤ 3) ∧ (1 ≤ x.succ ∧ x.succ ≤ 3)) : Pf Try.prog 117 [.agg x.cs] (bV (drB x)) := by
 refine Pf.of_fn (.cons (.agg (nl_ins x)) .nil) (.val _) ?_
 refine fn_in T_ok func117 rfl rfl ntmps117 rfl (by simp) ?_
 refine region_k T_ok (by decide) fun K hK => ?_
 simp [go_sem]
 refine hK _ ?_; clear hK K
 refine region_k T_ok (by decide) fun K hK => ?_
 rcases drCases h with hop | ⟨hop, hp, hs⟩ | ⟨hop, hp, hs⟩ | ⟨hop, hp, hs⟩ | ⟨hop, hp, hs⟩ | ⟨hop, hp, hs⟩ | ⟨hop, hp, hs⟩ | ⟨hop, hp, hs⟩ | ⟨hop, hp, hs⟩ | ⟨hop, hp, hs⟩
 ·have hp := True.intro
  have hs := True.intro
  simp [go_sem, hop]
  refine hK _ ?_; clear hK K
  refine tr_ret ⟨.inr rfl, ?_⟩
  simp [go_sem, drB, hop, hp, hs]
 ·simp [go_sem, hop, hp, hs, an12, an22, an32, an11, an21, an31]
  refine hK _ ?_; clear hK K
  refine tr_ret ⟨.inr rfl, ?_⟩
  simp [go_sem, drB, hop, hp, hs]
 ·simp [go_sem, hop, hp, hs, an12, an22, an32, an11, an21, an31]
  refine hK _ ?_; clear hK K
  refine tr_ret ⟨.inr rfl, ?_⟩
  simp [go_sem, drB, hop, hp, hs]
 ·simp [go_sem, hop, hp, hs, an12, an22, an32, an11, an21, an31]
  refine hK _ ?_; clear hK K
  refine tr_ret ⟨.inr rfl, ?_⟩
  simp [go_sem, drB, hop, hp, hs]
 ·simp [go_sem, hop, hp, hs, an12, an22, an32, an11, an21, an31]
  refine hK _ ?_; clear hK K
  refine tr_ret ⟨.inr rfl, ?_⟩
  simp [go_sem, drB, hop, hp, hs]
 ·simp [go_sem, hop, hp, hs, an12, an22, an32, an11, an21, an31]
  refine hK _ ?_; clear hK K
  refine tr_ret ⟨.inr rfl, ?_⟩
  simp [go_sem, drB, hop, hp, hs]
 ·simp [go_sem, hop, hp, hs, an12, an22, an32, an11, an21, an31]
  refine hK _ ?_; clear hK K
  refine tr_ret ⟨.inr rfl, ?_⟩
  simp [go_sem, drB, hop, hp, hs]
 ·simp [go_sem, hop, hp, hs, an12, an22, an32, an11, an21, an31]
  refine hK _ ?_; clear hK K
  refine tr_ret ⟨.inr rfl, ?_⟩
  simp [go_sem, drB, hop, hp, hs]
 ·simp [go_sem, hop, hp, hs, an12, an22, an32, an11, an21, an31]
  refine hK _ ?_; clear hK K
  refine tr_ret ⟨.inr rfl, ?_⟩
  simp [go_sem, drB, hop, hp, hs]
 ·simp [go_sem, hop, hp, hs, an12, an22, an32, an11, an21, an31]
  refine hK _ ?_; clear hK K
  refine tr_ret ⟨.inr rfl, ?_⟩
  simp [go_sem, drB, hop, hp, hs]
theorem targ_pf (k : List Int) (hk : k.length = 112) (i : Nat) (hi : i < 4) (r : Bool) (n : Int) (hn : r = true → 0 ≤ n ∧ n < 8) : Pf Try.prog 118 [.rp (mV k) (i * 26), .agg [bV r, uV n]] (uV (aArg k i r n)) := by
 refine Pf.of_fn (.cons (.rp (nl_mV k)) (.cons (.agg (.cons (.val _) (.cons (.val _) .nil))) .nil)) (.val _) ?_
 refine fn_in T_ok func118 rfl rfl ntmps118 rfl (by simp) ?_
 refine region_k T_ok (by decide) fun K hK => ?_
 simp [go_sem]
 refine hK _ ?_; clear hK K
 refine seq_k fun K1 hK1 => ?_
 refine region_k T_ok (by decide) fun K hK => ?_
 simp [go_sem]
 refine hK _ ?_; clear hK K
 refine cond_k rfl (fun h => ?_) (fun h => ?_)
 ·have hr : r = true := by simpa using h
  obtain ⟨h0, h8⟩ := hn hr
  obtain ⟨m, rfl⟩ : ∃ m : Nat, n = m := ⟨n.toNat, by omega⟩
  have hm : m < 8 := by omega
  have hmI : (m : Int) < 8 := by omega
  refine draw_k T_ok (by kernel_rfl) 5 [[], [], [1], [0], [0, 3], [0, 1, 2, 3, 4], [0, 1, 2, 3, 4, 5], [0, 1, 2, 3, 4, 5, 6]] [] (by decide) (by decide) (by decide) fun K hK => ?_
  first | dsimp only [List.take, List.drop] | dsimp [List.take, List.drop]
  simp [go_sem, hm, hmI, mV_112 hk, mV_reg hk hi hm]
  refine ⟨by omega, ?_⟩
  refine hK _ ?_; clear hK K
  refine tr_ret ⟨.inr rfl, ?_⟩
  simp [go_sem, aArg, hr]
 ·have hr : r = false := by simpa using h
  refine tr_skip ?_
  refine hK1 _ ?_; try clear hK1 K1
  refine region_k T_ok (by decide) fun K hK => ?_
  simp [go_sem]
  refine hK _ ?_; clear hK K
  refine tr_ret ⟨.inr rfl, ?_⟩
  simp [go_sem, aArg, hr]
set_option maxHeartbeats 4000000 in
theorem look_pf (k : List Int) (hk : k.length = 112) (i : Nat) (hi : i < 4) (w : Nat) (hw : gt k (i * 26 + 1) = (w : Nat)) (hw8 : w ≤ 8) (hlo : ∀ s, s < 8 → 0 ≤ gt k (i * 26 + 10 + s * 2) ∧ gt k (i * 26 + 10 + s * 2) < 8) (x : Nat) (hx : x < 8) : Pf Try.prog 137 [.rp (mV k) 0, .rp (mV k) (i * 26), iV (x : Nat)] (uV (lookB k i (x : Nat) w)) := by
 refine Pf.of_fn (.cons (.rp (nl_mV k)) (.cons (.rp (nl_mV k)) (.cons (.val _) .nil))) (.val _) ?_
 have hwr : IntKind.i8.wrap ((w : Nat) - 1) = (w : Nat) - 1 := wrap_i8 (by omega) (by omega)
 have hxI : (x : Int) < 8 := by omega
 have hx0 : (0 : Int) ≤ (x : Nat) := by omega
 refine fn_in T_ok func137 rfl rfl ntmps137 rfl (by simp) ?_
 refine region_k T_ok (by decide) fun K hK => ?_
 simp [go_sem]
 refine hK _ ?_; clear hK K
 refine seq_k fun K1 hK1 => ?_
 refine region_k T_ok (by decide) fun K hK => ?_
 simp [go_sem, mV_112 hk, mV_wait hk hi, hw, hwr]
 refine ⟨by omega, ?_⟩
 refine hK _ ?_; clear hK K
 refine tr_block ?_
 refine loop_p (α := Nat) (fun n => ⟨40, [(0, .rp (mV k) 0), (1, .rp (mV k) (i * 26)), (2, iV (x : Nat)), (7, i8V ((n : Nat) - 1))], [], 0⟩) (fun n => n ≤ 8 ∧ lookB k i (x : Nat) n = lookB k i (x : Nat) w) (fun n => n) w ?_ ?_ ?_
 ·exact ⟨hw8, rfl⟩
 ·refine Weaker.fz 1 0 ?_ ?_ ?_
  ·simp [go_sem]
  ·first | (simp; done) | (simp; omega)
  ·simp [go_sem]
 rintro n ⟨hn, hl⟩
 skip
 refine seq_k fun K2 hK2 => ?_
 refine region_k T_ok (by decide) fun K hK => ?_
 simp [go_sem]
 refine hK _ ?_; clear hK K
 refine cond_k rfl (fun h => ?_) (fun h => ?_)
 ·simp at h
  have hn1 : 1 ≤ n := by omega
  clear h
  obtain ⟨m, rfl⟩ : ∃ m, n = m + 1 := ⟨n - 1, by omega⟩
  have hm : m < 8 := by omega
  have hmI : (m : Int) < 8 := by omega
  have hm0 : (0 : Int) ≤ (m : Nat) := by omega
  obtain ⟨l0, l8⟩ := hlo m hm
  have hwl : IntKind.i64.wrap (gt k (i * 26 + 10 + m * 2)) = gt k (i * 26 + 10 + m * 2) := wrap_i64 (by omega) (by omega)
  have hwm : IntKind.i8.wrap ((m : Nat) - 1) = (m : Nat) - 1 := wrap_i8 (by omega) (by omega)
  refine tr_skip ?_
  refine hK2 _ ?_; try clear hK2 K2
  refine seq_k fun K3 hK3 => ?_
  refine tr_block ?_
  refine region_k T_ok (by decide) fun K hK => ?_
  simp [go_sem, hm, hmI, mV_112 hk, mV_loc hk hi hm, hwl]
  trace_state
  refine ⟨by omega, ?_⟩
  refine hK _ ?_; clear hK K
  refine cond_k rfl (fun h => ?_) (fun h => ?_)
  ·have he : gt k (i * 26 + 10 + m * 2) = (x : Nat) := by simpa using h
   refine region_k T_ok (by decide) fun K hK => ?_
   simp [go_sem, hm, hmI, mV_112 hk, mV_val hk hi hm]
   refine ⟨by omega, ?_⟩
   refine hK _ ?_; clear hK K
   refine tr_ret ⟨.inr rfl, ?_⟩
   simp [go_sem, ← hl, lookB, he]
  ·have hne : ¬ gt k (i * 26 + 10 + m * 2) = (x : Nat) := by simpa using h
   refine tr_skip ?_
   refine hK3 _ ?_; try clear hK3 K3
   refine region_e T_ok (by decide) fun K hK => ?_
   simp [go_sem, hwm]
   refine hK _ ?_; clear hK K
   refine ⟨m, ?_, ?_, ?_⟩
   ·exact ⟨by omega, by rw [← hl, lookB, if_neg hne]⟩
   ·omega
   ·refine Weaker.fz 1 0 ?_ ?_ ?_
    ·simp [go_sem]
    ·first | (simp; done) | (simp; omega)
    simp [go_sem]
 ·simp at h
  obtain rfl : n = 0 := by omega
  clear h
  refine tr_exit ?_
  refine hK1 _ ?_; try clear hK1 K1
  refine region_k T_ok (by decide) fun K hK => ?_
  simp [go_sem, hx, hxI, mV_112 hk, mV_mem hk hx]
  refine ⟨by omega, ?_⟩
  refine hK _ ?_; clear hK K
  refine tr_ret ⟨.inr rfl, ?_⟩
  simp [go_sem, ← hl, lookB]
open Go Go.Sl Go.Proofs.Try
theorem n64_nonneg (a b : Int) : 0 ≤ n64 a b := by
 unfold n64
 rw [IntWalk.u64_in _ ⟨Int.natCast_nonneg _, by have := (BitVec.ofInt 64 a &&& BitVec.ofInt 64 b).isLt; omega⟩]
 exact Int.natCast_nonneg _
theorem left_pf (a b : Int) : Pf Try.prog 83 [uV a, uV b] (uV (sl64 a (n64 b 63))) := by
 refine Pf.of_fn (.cons (.val _) (.cons (.val _) .nil)) (.val _) ?_
 refine fn_in T_ok func83 rfl rfl ntmps83 rfl (by simp) ?_
 refine region_k T_ok (by decide) fun K hK => ?_
 simp [go_sem]
 refine hK _ ?_; clear hK K
 refine region_k T_ok (by decide) fun K hK => ?_
 simp [go_sem, n64_nonneg]
 refine hK _ ?_; clear hK K
 refine tr_ret ⟨.inr rfl, ?_⟩
 simp [go_sem]
theorem right_pf (a b : Int) : Pf Try.prog 84 [uV a, uV b] (uV (sr64 a (n64 b 63))) := by
 refine Pf.of_fn (.cons (.val _) (.cons (.val _) .nil)) (.val _) ?_
 refine fn_in T_ok func84 rfl rfl ntmps84 rfl (by simp) ?_
 refine region_k T_ok (by decide) fun K hK => ?_
 simp [go_sem]
 refine hK _ ?_; clear hK K
 refine region_k T_ok (by decide) fun K hK => ?_
 simp [go_sem, n64_nonneg]
 refine hK _ ?_; clear hK K
 refine tr_ret ⟨.inr rfl, ?_⟩
 simp [go_sem]
theorem reckon_pf (op a b : Int) : Pf Try.prog 52 [iV op, uV a, uV b] (uV (reck op a b)) := by
 refine Pf.of_fn (.cons (.val _) (.cons (.val _) (.cons (.val _) .nil))) (.val _) ?_
 refine fn_in T_ok func52 rfl rfl ntmps52 rfl (by simp) ?_
 refine region_k T_ok (by decide) fun K hK => ?_
 simp [go_sem]
 refine hK _ ?_; clear hK K
 refine seq_k fun K1 hK1 => ?_
 refine region_k T_ok (by decide) fun K hK => ?_
 simp [go_sem]
 refine hK _ ?_; clear hK K
 refine tr_block ?_
 refine region_k T_ok (by decide) fun K hK => ?_
 simp [go_sem]
 refine hK _ ?_; clear hK K
 refine cond_k rfl (fun h => ?_) (fun h => ?_)
 ·have h2 : op = 2 := by simpa using h
  clear h
  refine region_k T_ok (by decide) fun K hK => ?_
  simp [go_sem]
  refine hK _ ?_; clear hK K
  refine tr_ret ⟨.inr rfl, ?_⟩
  simp [go_sem, reck, h2]
 ·have h2 : ¬ op = 2 := by simpa using h
  clear h
  refine region_k T_ok (by decide) fun K hK => ?_
  simp [go_sem]
  refine hK _ ?_; clear hK K
  refine cond_k rfl (fun h => ?_) (fun h => ?_)
  ·have h3 : op = 3 := by simpa using h
   clear h
   refine region_k T_ok (by decide) fun K hK => ?_
   simp [go_sem]
   refine hK _ ?_; clear hK K
   refine tr_ret ⟨.inr rfl, ?_⟩
   simp [go_sem, reck, h2, h3]
  ·have h3 : ¬ op = 3 := by simpa using h
   clear h
   refine region_k T_ok (by decide) fun K hK => ?_
   simp [go_sem]
   refine hK _ ?_; clear hK K
   refine cond_k rfl (fun h => ?_) (fun h => ?_)
   ·have h4 : op = 4 := by simpa using h
    clear h
    refine region_k T_ok (by decide) fun K hK => ?_
    simp [go_sem]
    refine hK _ ?_; clear hK K
    refine tr_ret ⟨.inr rfl, ?_⟩
    simp [go_sem, reck, h2, h3, h4]
   ·have h4 : ¬ op = 4 := by simpa using h
    clear h
    refine region_k T_ok (by decide) fun K hK => ?_
    simp [go_sem]
    refine hK _ ?_; clear hK K
    refine cond_k rfl (fun h => ?_) (fun h => ?_)
    ·have h5 : op = 5 := by simpa using h
     clear h
     refine region_k T_ok (by decide) fun K hK => ?_
     simp [go_sem]
     refine hK _ ?_; clear hK K
     refine tr_ret ⟨.inr rfl, ?_⟩
     simp [go_sem, reck, h2, h3, h4, h5]
    ·have h5 : ¬ op = 5 := by simpa using h
     clear h
     refine region_k T_ok (by decide) fun K hK => ?_
     simp [go_sem]
     refine hK _ ?_; clear hK K
     refine cond_k rfl (fun h => ?_) (fun h => ?_)
     ·have h6 : op = 6 := by simpa using h
      clear h
      refine region_k T_ok (by decide) fun K hK => ?_
      simp [go_sem]
      refine hK _ ?_; clear hK K
      refine tr_ret ⟨.inr rfl, ?_⟩
      simp [go_sem, reck, h2, h3, h4, h5, h6]
     ·have h6 : ¬ op = 6 := by simpa using h
      clear h
      refine region_k T_ok (by decide) fun K hK => ?_
      simp [go_sem]
      refine hK _ ?_; clear hK K
      refine cond_k rfl (fun h => ?_) (fun h => ?_)
      ·have h7 : op = 7 := by simpa using h
       clear h
       refine region_k T_ok (by decide) fun K hK => ?_
       simp [go_sem]
       refine call_pf (left_pf a b) ?_
       simp [go_sem]
       refine hK _ ?_; clear hK K
       refine tr_ret ⟨.inr rfl, ?_⟩
       simp [go_sem, reck, h2, h3, h4, h5, h6, h7]
      ·have h7 : ¬ op = 7 := by simpa using h
       clear h
       refine tr_skip ?_
       refine hK1 _ ?_; try clear hK1 K1
       refine region_k T_ok (by decide) fun K hK => ?_
       simp [go_sem]
       refine call_pf (right_pf a b) ?_
       simp [go_sem]
       refine hK _ ?_; clear hK K
       refine tr_ret ⟨.inr rfl, ?_⟩
       simp [go_sem, reck, h2, h3, h4, h5, h6, h7]
open Go Go.Sl Go.Proofs.Try
def thC (k : List Int) (i : Nat) : List V := ((wV k).drop (i * 11)).take 11
section
variable {k : List Int} (hk : k.length = 52) {i : Nat} (hi : i < 4)
include hk hi
theorem thC_len : (thC k i).length = 11 := by unfold thC; rw [List.length_take, List.length_drop, wV_52 hk]; omega
omit hk hi in
theorem thC_get {c : Nat} (hc : c < 11) : (thC k i)[c]? = (wV k)[i * 11 + c]? := by unfold thC; rw [List.getElem?_take_of_lt hc, List.getElem?_drop]
theorem thC_reg {r : Nat} (hr : r < 8) : (thC k i)[3 + r]? = some (uV (gS k i r)) := by
 rw [thC_get (by omega), ← Nat.add_assoc, wV_reg hk hi hr]; rfl
theorem thC_held : (thC k i)[1]? = some (i8V (gt k (i * 11 + 1))) := by rw [thC_get (by omega), wV_held hk hi]
theorem thC_lost : (thC k i)[2]? = some (bV (decide (gt k (i * 11 + 2) ≠ 0))) := by rw [thC_get (by omega), wV_lost hk hi]
end
theorem thC_nl (k : List Int) (i : Nat) : NLs (thC k i) := fun v hv => nl_wV k v (List.mem_of_mem_drop (List.mem_of_mem_take hv))
theorem thC_one (k : List Int) (i : Nat) : ∀ x ∈ thC k i, x.one = true := fun v hv => wV_one k v (List.mem_of_mem_drop (List.mem_of_mem_take hv))
theorem gS_arg (k : List Int) (i : Nat) (r : Bool) (n : Int) : (if r = true then gS k i n.toNat else n) = sArg k i r n := by unfold sArg gS; rfl
theorem lostS_set {k : List Int} {i j : Nat} {loc : Int} (h : j ≠ i) (h2 : gt (lostS k i loc j) (j * 11 + 1) = loc + 1) : lostS k i loc (j + 1) = (lostS k i loc j).set (j * 11 + 2) 1 := by rw [lostS, if_pos ⟨h, h2⟩]
theorem lostS_same {k : List Int} {i j : Nat} {loc : Int} (h : j = i ∨ ¬ gt (lostS k i loc j) (j * 11 + 1) = loc + 1) : lostS k i loc (j + 1) = lostS k i loc j := by rw [lostS, if_neg (fun e => h.elim e.1 (fun h => h e.2))]
theorem sarg_pf (cs : List V) (h11 : cs.length = 11) (ho : ∀ x ∈ cs, x.one = true) (hnl : NLs cs) (g : Nat → Int) (hg : ∀ r, r < 8 → cs[3 + r]? = some (uV (g r))) (r : Bool) (n : Int) (hn : r = true → 0 ≤ n ∧ n < 8) : Pf Try.prog 131 [.agg cs, .agg [bV r, uV n]] (uV (if r = true then g n.toNat else n)) := by
 refine Pf.of_fn (.cons (.agg hnl) (.cons (.agg (.cons (.val _) (.cons (.val _) .nil))) .nil)) (.val _) ?_
 have hct : List.take 11 cs = cs := List.take_of_length_le (by omega)
 refine fn_in T_ok func131 rfl rfl ntmps131 rfl (by simp) ?_
 refine region_k T_ok (by decide) fun K hK => ?_
 simp [go_sem, h11, hct]
 refine ⟨ho, ?_⟩
 refine hK _ ?_; clear hK K
 refine seq_k fun K1 hK1 => ?_
 refine region_k T_ok (by decide) fun K hK => ?_
 simp [go_sem]
 refine hK _ ?_; clear hK K
 refine cond_k rfl (fun h => ?_) (fun h => ?_)
 ·have hr : r = true := by simpa using h
  obtain ⟨h0, h8⟩ := hn hr
  obtain ⟨m, rfl⟩ : ∃ m : Nat, n = m := ⟨n.toNat, by omega⟩
  have hm : m < 8 := by omega
  have hmI : (m : Int) < 8 := by omega
  refine region_k T_ok (by decide) fun K hK => ?_
  simp [go_sem, hm, hmI, h11, hct, hg m hm]
  repeat refine ⟨by omega, ?_⟩
  refine hK _ ?_; clear hK K
  refine tr_ret ⟨.inr rfl, ?_⟩
  simp [go_sem, hr]
 ·have hr : r = false := by simpa using h
  refine tr_skip ?_
  refine hK1 _ ?_; try clear hK1 K1
  refine region_k T_ok (by decide) fun K hK => ?_
  simp [go_sem]
  refine hK _ ?_; clear hK K
  refine tr_ret ⟨.inr rfl, ?_⟩
  simp [go_sem, hr]
set_option maxHeartbeats 4000000 in
theorem put_fn (k : List Int) (hk : k.length = 52) (i : Nat) (hi : i < 4) (y : Nat) (hy : y < 8) (v : Int) (hh : ∀ j, j < 4 → 0 ≤ gt k (j * 11 + 1) ∧ gt k (j * 11 + 1) ≤ 8) (r n : Nat) : Sl.Fn Try.prog 132 [.ptr r 0 0, iV (i : Nat), iV (y : Nat), uV v] [(r, .rows 52 [.agg (wV k)])] n fun u H _ => u = .tup [] ∧ H = [(r, .rows 52 [.agg (wV (putS k i (y : Nat) v))])] := by
 have hyI : (y : Int) < 8 := by omega
 have hy0 : (0 : Int) ≤ (y : Nat) := by omega
 refine fn_in T_ok func132 rfl rfl ntmps132 rfl (by simp) ?_
 refine region_k T_ok (by decide) fun K hK => ?_
 simp [go_sem, hy, hyI, hy0, wV_52 hk, putW_mem hk hy]
 repeat refine ⟨by omega, ?_⟩
 refine hK _ ?_; clear hK K
 refine region_k T_ok (by decide) fun K hK => ?_
 simp [go_sem]
 refine hK _ ?_; clear hK K
 refine tr_block ?_
 refine loop_p (α := Nat × Nat) (fun a => ⟨41, [(0, .ptr r 0 0), (1, iV (i : Nat)), (2, iV (y : Nat)), (16, iV (a.1 : Nat))], [(r, .rows 52 [.agg (wV (lostS (k.set (44 + y) v) i (y : Nat) a.1))])], a.2⟩) (fun a => a.1 ≤ 4) (fun a => 4 - a.1) (0, n) ?_ ?_ ?_
 ·exact Nat.zero_le _
 ·refine Weaker.fzk 1 0 (by first | omega | (dsimp only; omega)) ?_ ?_ ?_
  ·simp [go_sem, lostS]
  ·first | (simp; done) | (simp; omega)
  ·simp [go_sem, lostS]
 rintro ⟨j, n2⟩ hj
 dsimp only at hj ⊢
 refine region_k T_ok (by decide) fun K hK => ?_
 simp [go_sem]
 refine hK _ ?_; clear hK K
 refine seq_k fun K1 hK1 => ?_
 refine cond_k rfl (fun h => ?_) (fun h => ?_)
 ·simp at h
  have hj4 : j < 4 := by omega
  clear h
  have hjI : (j : Int) < 4 := by omega
  have hj0 : (0 : Int) ≤ (j : Nat) := by omega
  have hw : IntKind.i64.wrap ((j : Nat) + 1) = (j : Nat) + 1 := wrap_i64 (by omega) (by omega)
  have hwy : IntKind.i64.wrap ((y : Nat) + 1) = (y : Nat) + 1 := wrap_i64 (by omega) (by omega)
  have hq : (lostS (k.set (44 + y) v) i (y : Nat) j).length = 52 := by rw [lostS_len, List.length_set, hk]
  have hqh : 0 ≤ gt (lostS (k.set (44 + y) v) i (y : Nat) j) (j * 11 + 1) ∧ gt (lostS (k.set (44 + y) v) i (y : Nat) j) (j * 11 + 1) ≤ 8 := by rw [lostS_gt _ _ _ (fun a _ => by omega) j hj, gt_ne (by omega)]; exact hh j hj4
  generalize hqe : lostS (k.set (44 + y) v) i (y : Nat) j = q at hq hqh ⊢
  have hwl : IntKind.i64.wrap (gt q (j * 11 + 1)) = gt q (j * 11 + 1) := wrap_i64 (by omega) (by omega)
  refine tr_skip ?_
  refine hK1 _ ?_; try clear hK1 K1
  refine seq_k fun K2 hK2 => ?_
  refine tr_block ?_
  refine region_k T_ok (by decide) fun K hK => ?_
  simp [go_sem]
  refine hK _ ?_; clear hK K
  refine region_k T_ok (by decide) fun K hK => ?_
  simp [go_sem, hj4, hjI, hj0, wV_52 hq]
  refine hK _ ?_; clear hK K
  refine region_k T_ok (by decide) fun K hK => ?_
  by_cases c1 : j = i
  rotate_left
  by_cases c2 : gt q (j * 11 + 1) = (y : Int) + 1
  rotate_left
  rotate_left
  ·subst c1
   simp [go_sem]
   refine hK _ ?_; clear hK K
   refine cond_k rfl (fun h => ?_) (fun h => ?_)
   ·simp at h
   ·clear h
    have hls : lostS (k.set (44 + y) v) j (y : Nat) (j + 1) = q := (lostS_same (.inl rfl)).trans hqe
    refine tr_skip ?_
    refine hK2 _ ?_; try clear hK2 K2
    refine region_e T_ok (by decide) fun K hK => ?_
    simp [go_sem, hw]
    refine hK _ ?_; clear hK K
    refine ⟨(j + 1, n2), ?_, ?_, ?_⟩
    ·dsimp only; omega
    ·dsimp only; omega
    ·refine Weaker.fzk 1 0 (by first | omega | (dsimp only; omega)) ?_ ?_ ?_
     ·simp [go_sem]
     ·first | (simp; done) | (simp; omega)
     simp [go_sem, hls]
  ·have c1I : ¬ (j : Int) = (i : Nat) := by omega
   simp [go_sem, c1, c1I, c2, wV_52 hq, wV_held hq hj4, hwl, hwy]
   repeat refine ⟨by omega, ?_⟩
   try simp [c2]
   refine hK _ ?_; clear hK K
   refine cond_k rfl (fun h => ?_) (fun h => ?_)
   ·have hls : lostS (k.set (44 + y) v) i (y : Nat) (j + 1) = q.set (j * 11 + 2) 1 := by rw [lostS_set c1 (by rw [hqe]; exact c2), hqe]
    refine region_e T_ok (by decide) fun K hK => ?_
    simp [go_sem, hj4, hjI, hj0, wV_52 hq, putW_lost1 hq hj4]
    repeat refine ⟨by omega, ?_⟩
    refine hK _ ?_; clear hK K
    refine hK2 _ ?_; try clear hK2 K2
    refine region_e T_ok (by decide) fun K hK => ?_
    simp [go_sem, hw]
    refine hK _ ?_; clear hK K
    refine ⟨(j + 1, n2), ?_, ?_, ?_⟩
    ·dsimp only; omega
    ·dsimp only; omega
    ·refine Weaker.fzk 1 0 (by first | omega | (dsimp only; omega)) ?_ ?_ ?_
     ·simp [go_sem]
     ·first | (simp; done) | (simp; omega)
     simp [go_sem, hls]
   ·simp at h
  ·have c1I : ¬ (j : Int) = (i : Nat) := by omega
   simp [go_sem, c1, c1I, c2, wV_52 hq, wV_held hq hj4, hwl, hwy]
   repeat refine ⟨by omega, ?_⟩
   try simp [c2]
   refine hK _ ?_; clear hK K
   refine cond_k rfl (fun h => ?_) (fun h => ?_)
   ·simp [c2] at h
   ·have hls : lostS (k.set (44 + y) v) i (y : Nat) (j + 1) = q := (lostS_same (.inr (by rw [hqe]; exact c2))).trans hqe
    refine tr_skip ?_
    refine hK2 _ ?_; try clear hK2 K2
    refine region_e T_ok (by decide) fun K hK => ?_
    simp [go_sem, hw]
    refine hK _ ?_; clear hK K
    refine ⟨(j + 1, n2), ?_, ?_, ?_⟩
    ·dsimp only; omega
    ·dsimp only; omega
    ·refine Weaker.fzk 1 0 (by first | omega | (dsimp only; omega)) ?_ ?_ ?_
     ·simp [go_sem]
     ·first | (simp; done) | (simp; omega)
     simp [go_sem, hls]
 ·simp at h
  obtain rfl : j = 4 := by omega
  clear h
  refine tr_exit ?_
  refine ⟨.inl rfl, ?_⟩
  simp [go_sem, putS]
open Go Go.Sl Go.Proofs.Try
theorem sargT_pf (k : List Int) (hk : k.length = 52) (i : Nat) (hi : i < 4) (r : Bool) (n : Int) (hn : r = true → 0 ≤ n ∧ n < 8) : Pf Try.prog 131 [.agg (List.take 11 (List.drop (i * 11) (wV k))), .agg [bV r, uV n]] (uV (sArg k i r n)) := by
 rw [← gS_arg]
 exact sarg_pf (thC k i) (thC_len hk hi) (thC_one k i) (thC_nl k i) (gS k i) (fun r hr => thC_reg hk hi hr) r n hn
def todoR (l : List (List Int)) : List V := l.map fun k => .agg (wV k)
theorem todoR_len (l : List (List Int)) : (todoR l).length = l.length := List.length_map ..
theorem todoR_add (l : List (List Int)) (k : List Int) : todoR (l ++ [k]) = todoR l ++ [.agg (wV k)] := by simp [todoR]
def seH (t : Tst) (s : Ws) (m : Nat) (js : List V) : Heap := [(2, .rows 4 [.agg [.rp t.cs 0, .sl m 0 s.1.length, .map 0, .map 1]]), (0, .map (seenW s.2.1)), (1, .map (seenM s.2.2)), (m, .rows 52 (todoR s.1 ++ js))]
theorem wSpec_eq : wSpec = [EK.int, EK.int, EK.bool, EK.int, EK.int, EK.int, EK.int, EK.int, EK.int, EK.int, EK.int, EK.int, EK.int, EK.bool, EK.int, EK.int, EK.int, EK.int, EK.int, EK.int, EK.int, EK.int, EK.int, EK.int, EK.bool, EK.int, EK.int, EK.int, EK.int, EK.int, EK.int, EK.int, EK.int, EK.int, EK.int, EK.bool, EK.int, EK.int, EK.int, EK.int, EK.int, EK.int, EK.int, EK.int, EK.int, EK.int, EK.int, EK.int, EK.int, EK.int, EK.int, EK.int] := by rfl
set_option maxHeartbeats 4000000 in
set_option maxRecDepth 100000 in
theorem plain_fn (k : List Int) (hk : k.length = 52) (i : Nat) (hi : i < 4) (p : Nat) (hp : gt k (i * 11) = (p : Nat)) (hp8 : p ≤ 8) (x : Ins) (len p0 : Nat) (hok : TOk len p0 x) (hskp : (p : Int) + x.skip ≤ 8) (r n : Nat) (hrn : r < n) : Sl.Fn Try.prog 134 [.ptr r 0 (i * 11), .agg x.cs] [(r, .rows 52 [.agg (wV k)])] n fun u H _ => u = .tup [] ∧ H = [(r, .rows 52 [.agg (wV (plainS x i k))])] := by
 refine Fn.view ?_
 have nn0 : ¬ r = n := by omega
 have mm0 : ¬ n = r := by omega
 obtain ⟨d, hd⟩ : ∃ d : Nat, x.rd = d := ⟨x.rd.toNat, by have := hok.rd0; omega⟩
 have hd8 : d < 8 := by have := hok.rd8; omega
 have hdI : (d : Int) < 8 := by omega
 have hib : i * 11 ≤ 33 := by omega
 have hs0 := hok.skip0
 have hsk : IntKind.i8.wrap x.skip = x.skip := wrap_i8 (by omega) (by omega)
 have hskw : IntKind.i8.wrap ((p : Int) + x.skip) = (p : Int) + x.skip := wrap_i8 (by omega) (by omega)
 refine fn_in T_ok func134 rfl rfl ntmps134 rfl (by simp) ?_
 refine region_k T_ok (by decide) fun K hK => ?_
 simp [go_sem, len_ins, fits_ins, insC]
 refine hK _ ?_; clear hK K
 refine tr_block ?_
 refine region_k T_ok (by decide) fun K hK => ?_
 simp [go_sem, insC, nn0, mm0]
 refine hK _ ?_; clear hK K
 refine cond_k rfl (fun h => ?_) (fun h => ?_)
 ·have h1 : x.op = 1 := by simpa using h
  refine draw_e T_ok (by kernel_rfl) 8 [[], [], [1], [], [3], [3, 4], [0], [0, 6], [0, 1, 2, 3, 4, 5, 6, 7], [0, 1, 2, 3, 4, 5, 6, 7, 8]] [] (by decide) (by decide) (by decide) fun K hK => ?_
  first | dsimp only [List.take, List.drop] | dsimp [List.take, List.drop]
  simp [go_sem, insC, nn0, mm0, hd, hd8, hdI, wV_52 hk, hib, putW_reg hk hi hd8]
  repeat refine ⟨by omega, ?_⟩
  have hls : plainS x i k = k.set (i * 11 + 3 + d) x.aN := by unfold plainS; rw [if_pos h1, hd]; rfl
  refine hK _ ?_; clear hK K
  refine ⟨.inl rfl, ?_⟩
  simp [go_sem, hls]
  exact ⟨_, _, View.del n _, rfl, by simp [Sl.del, nn0, mm0]⟩
 ·have h1 : ¬ x.op = 1 := by simpa using h
  refine region_k T_ok (by decide) fun K hK => ?_
  simp [go_sem, insC, nn0, mm0]
  refine hK _ ?_; clear hK K
  refine cond_k rfl (fun h => ?_) (fun h => ?_)
  ·have h2 : x.op < 9 := by simpa using h
   refine draw_e T_ok (by kernel_rfl) 20 [[], [], [1], [], [3], [], [5], [5, 6], [], [8], [5, 6, 7, 8, 9], [], [11], [11, 12], [], [14], [5, 6, 7, 8, 9, 10, 11, 12, 13, 14, 15], [3, 4, 5, 6, 7, 8, 9, 10, 11, 12, 13, 14, 15, 16], [0], [0, 18], [0, 1, 2, 3, 4, 5, 6, 7, 8, 9, 10, 11, 12, 13, 14, 15, 16, 17, 18, 19], [0, 1, 2, 3, 4, 5, 6, 7, 8, 9, 10, 11, 12, 13, 14, 15, 16, 17, 18, 19, 20]] [] (by decide) (by decide) (by decide) fun K hK => ?_
   first | dsimp only [List.take, List.drop] | dsimp [List.take, List.drop]
   simp [go_sem, insC, nn0, mm0, hd, hd8, hdI, wV_52 hk, hib]
   repeat refine ⟨by omega, ?_⟩
   refine callD_of (sargT_pf k hk i hi x.aR x.aN hok.a) ?_
   simp [go_sem, insC, nn0, mm0, hd, hd8, hdI, wV_52 hk, hib]
   repeat refine ⟨by omega, ?_⟩
   refine callD_of (sargT_pf k hk i hi x.bR x.bN hok.b) ?_
   simp [go_sem, insC, nn0, mm0, hd, hd8, hdI, wV_52 hk, hib]
   refine callD_of (reckon_pf x.op _ _) ?_
   simp [go_sem, putW_reg hk hi hd8, insC, nn0, mm0, hd, hd8, hdI, wV_52 hk, hib]
   repeat refine ⟨by omega, ?_⟩
   have hls : plainS x i k = k.set (i * 11 + 3 + d) (reck x.op (sArg k i x.aR x.aN) (sArg k i x.bR x.bN)) := by unfold plainS; rw [if_neg h1, if_pos h2, hd]; rfl
   refine hK _ ?_; clear hK K
   refine ⟨.inl rfl, ?_⟩
   simp [go_sem, hls]
   exact ⟨_, _, View.del n _, rfl, by simp [Sl.del, nn0, mm0]⟩
  ·have h2 : ¬ x.op < 9 := by simpa using h
   refine draw_k T_ok (by kernel_rfl) 20 [[], [0], [0, 1], [0, 1, 2], [0, 1, 2, 3], [0, 1, 2, 3, 4], [0, 1, 2, 3, 4, 5], [0, 1, 2, 3], [0, 1, 2, 3, 7], [0, 1, 2, 3, 4, 5, 6, 7, 8], [0, 1, 2, 3], [0, 1, 2, 3, 10], [0, 1, 2, 3, 10, 11], [0, 1, 2, 3], [0, 1, 2, 3, 13], [0, 1, 2, 3, 4, 5, 6, 7, 8, 9, 10, 11, 12, 13, 14], [0, 1, 2, 3, 4, 5, 6, 7, 8, 9, 10, 11, 12, 13, 14, 15], [0, 1, 2, 3], [0, 1, 2, 3, 17], [0, 1, 2, 3, 17, 18], [0, 1, 2, 3, 4, 5, 6, 7, 8, 9, 10, 11, 12, 13, 14, 15, 16, 17, 18, 19], [0, 1, 2, 3, 4, 5, 6, 7, 8, 9, 10, 11, 12, 13, 14, 15, 16, 17, 18, 19, 20], [0, 1, 2, 3, 4, 5, 6, 7, 8, 9, 10, 11, 12, 13, 14, 15, 16, 17, 18, 19, 20, 21]] [] (by decide) (by decide) (by decide) fun K hK => ?_
   first | dsimp only [List.take, List.drop] | dsimp [List.take, List.drop]
   rcases Nat.lt_or_ge 15 x.op.toNat with h3 | h3
   ·have h3I : 15 < x.op := by omega
    simp [go_sem, h3I, insC, nn0, mm0, hd, hd8, hdI, wV_52 hk, hib]
    repeat refine ⟨by omega, ?_⟩
    refine callD_of (sargT_pf k hk i hi x.aR x.aN hok.a) ?_
    simp [go_sem, h3I, insC, nn0, mm0, hd, hd8, hdI, wV_52 hk, hib]
    repeat refine ⟨by omega, ?_⟩
    refine callD_of (sargT_pf k hk i hi x.bR x.bN hok.b) ?_
    simp [go_sem, h3I, insC, nn0, mm0, hd, hd8, hdI, wV_52 hk, hib]
    refine hK _ ?_; clear hK K
    refine cond_k rfl (fun h => ?_) (fun h => ?_)
    ·have hb : brS k i x = true := by simpa [brS, h3I, int_beq, decide_eq_decide] using h
     refine draw_e T_ok (by kernel_rfl) 7 [[], [0], [0, 1], [0, 1, 2], [], [4], [4, 5], [0, 1, 2, 3, 4, 5, 6], [0, 1, 2, 3, 4, 5, 6, 7], [0, 1, 2, 3, 4, 5, 6, 7, 8], [0, 1, 2, 3, 4, 5, 6, 7, 8, 9]] [] (by decide) (by decide) (by decide) fun K hK => ?_
     first | dsimp only [List.take, List.drop] | dsimp [List.take, List.drop]
     simp [go_sem, insC, nn0, mm0, hd, hd8, hdI, wV_52 hk, hib, wV_pc hk hi, hp, hsk, hskw, putW_pc hk hi]
     repeat refine ⟨by omega, ?_⟩
     have hls : plainS x i k = k.set (i * 11) ((p : Int) + x.skip) := by unfold plainS; rw [if_neg h1, if_neg h2, if_pos hb, hp]
     refine hK _ ?_; clear hK K
     refine ⟨.inl rfl, ?_⟩
     simp [go_sem, hls]
     exact ⟨_, _, View.del n _, rfl, by simp [Sl.del, nn0, mm0]⟩
    ·have hb : brS k i x = false := by simpa [brS, h3I, int_beq, decide_eq_decide] using h
     have hls : plainS x i k = k := by unfold plainS; rw [if_neg h1, if_neg h2, if_neg (by rw [hb]; simp)]
     refine tr_skip ?_
     refine ⟨.inl rfl, ?_⟩
     simp [go_sem, hls]
     exact ⟨_, _, View.del n _, rfl, by simp [Sl.del, nn0, mm0]⟩
   ·have h3I : ¬ 15 < x.op := by omega
    simp [go_sem, h3I, insC, nn0, mm0, hd, hd8, hdI, wV_52 hk, hib]
    refine hK _ ?_; clear hK K
    refine cond_k rfl (fun h => ?_) (fun h => ?_)
    ·simp at h
    ·clear h
     have hb : brS k i x = false := by simp [brS, h3I]
     have hls : plainS x i k = k := by unfold plainS; rw [if_neg h1, if_neg h2, if_neg (by rw [hb]; simp)]
     refine tr_skip ?_
     refine ⟨.inl rfl, ?_⟩
     simp [go_sem, hls]
     exact ⟨_, _, View.del n _, rfl, by simp [Sl.del, nn0, mm0]⟩
set_option maxHeartbeats 4000000 in
set_option maxRecDepth 100000 in
theorem add_fn (t : Tst) (k : List Int) (hk : WK k) (s : Ws) (hs : ∀ q ∈ s.2.1, WK q) (hlo : s.1.length ≤ 1000) (m : Nat) (js : List V) (j : Nat) (hm2 : 2 < m) (hmj : m < j) : Sl.Fn Try.prog 94 [.ptr 2 0 0, .agg (wV k)] (seH t s m js) j fun u H k' => ∃ a : Nat × List V, (2 < a.1 ∧ a.1 < k' ∧ (a.1 = m ∨ j ≤ a.1)) ∧ u = .tup [] ∧ H = seH t (addS k s) a.1 a.2 := by
 refine Fn.view ?_
 have nn0 : ¬ m = 0 := by omega
 have mm0 : ¬ 0 = m := by omega
 have nn1 : ¬ m = 1 := by omega
 have mm1 : ¬ 1 = m := by omega
 have nn2 : ¬ m = 2 := by omega
 have mm2 : ¬ 2 = m := by omega
 have nn3 : ¬ j = 0 := by omega
 have mm3 : ¬ 0 = j := by omega
 have nn4 : ¬ j = 1 := by omega
 have mm4 : ¬ 1 = j := by omega
 have nn5 : ¬ j = 2 := by omega
 have mm5 : ¬ 2 = j := by omega
 have nn6 : ¬ m = j := by omega
 have mm6 : ¬ j = m := by omega
 have nn7 : ¬ m = j + 1 := by omega
 have mm7 : ¬ j + 1 = m := by omega
 have nn8 : ¬ m = j + 2 := by omega
 have mm8 : ¬ j + 2 = m := by omega
 have nn9 : ¬ m = j + 3 := by omega
 have mm9 : ¬ j + 3 = m := by omega
 have nn10 : ¬ m = j + 4 := by omega
 have mm10 : ¬ j + 4 = m := by omega
 have nn11 : ¬ m = j + 5 := by omega
 have mm11 : ¬ j + 5 = m := by omega
 have nn12 : ¬ m = j + 6 := by omega
 have mm12 : ¬ j + 6 = m := by omega
 have nn13 : ¬ m = j + 7 := by omega
 have mm13 : ¬ j + 7 = m := by omega
 have nn14 : ¬ m = j + 8 := by omega
 have mm14 : ¬ j + 8 = m := by omega
 have nn15 : ¬ m = j + 9 := by omega
 have mm15 : ¬ j + 9 = m := by omega
 have nn16 : ¬ m = j + 10 := by omega
 have mm16 : ¬ j + 10 = m := by omega
 have nn17 : ¬ m = j + 11 := by omega
 have mm17 : ¬ j + 11 = m := by omega
 have nn18 : ¬ m = j + 12 := by omega
 have mm18 : ¬ j + 12 = m := by omega
 have nn19 : ¬ m = j + 13 := by omega
 have mm19 : ¬ j + 13 = m := by omega
 have nn20 : ¬ m = j + 14 := by omega
 have mm20 : ¬ j + 14 = m := by omega
 have nn21 : ¬ m = j + 15 := by omega
 have mm21 : ¬ j + 15 = m := by omega
 have nn22 : ¬ m = j + 16 := by omega
 have mm22 : ¬ j + 16 = m := by omega
 have nn23 : ¬ m = j + 17 := by omega
 have mm23 : ¬ j + 17 = m := by omega
 have nn24 : ¬ m = j + 18 := by omega
 have mm24 : ¬ j + 18 = m := by omega
 have nn25 : ¬ m = j + 19 := by omega
 have mm25 : ¬ j + 19 = m := by omega
 have hkl : (wV k).length = 52 := wV_52 hk.len
 have hko := wV_one k
 have hkt : List.take 52 (wV k) = wV k := List.take_of_length_le (by omega)
 have hf := find_seenW hk hs
 have hi2 := ins_seenW hk hs
 have he2 := eq_wV hk hk
 rw [wSpec_eq] at hf hi2 he2
 unfold seH
 have htl : List.take s.1.length (todoR s.1 ++ js) = todoR s.1 := by rw [List.take_append_of_le_length (by rw [todoR_len]; omega), List.take_of_length_le (by rw [todoR_len]; omega)]
 refine fn_in T_ok func94 rfl rfl ntmps94 rfl (by simp) ?_
 refine region_k T_ok (by decide) fun K hK => ?_
 simp [go_sem, hkl, hko, hkt, nn0, mm0, nn1, mm1, nn2, mm2, nn3, mm3, nn4, mm4, nn5, mm5, nn6, mm6, nn7, mm7, nn8, mm8, nn9, mm9, nn10, mm10, nn11, mm11, nn12, mm12, nn13, mm13, nn14, mm14, nn15, mm15, nn16, mm16, nn17, mm17, nn18, mm18, nn19, mm19, nn20, mm20, nn21, mm21, nn22, mm22, nn23, mm23, nn24, mm24, nn25, mm25]
 refine ⟨hko, ?_⟩
 refine hK _ ?_; clear hK K
 refine draw_k T_ok (by kernel_rfl) 5 [[], [0], [0, 1], [0, 1, 2], [], [0, 1, 2, 3, 4], [0, 1, 2, 3, 4, 5]] [] (by decide) (by decide) (by decide) fun K hK => ?_
 first | dsimp only [List.take, List.drop] | dsimp [List.take, List.drop]
 simp [go_sem, hkl, hko, hkt, nn0, mm0, nn1, mm1, nn2, mm2, nn3, mm3, nn4, mm4, nn5, mm5, nn6, mm6, nn7, mm7, nn8, mm8, nn9, mm9, nn10, mm10, nn11, mm11, nn12, mm12, nn13, mm13, nn14, mm14, nn15, mm15, nn16, mm16, nn17, mm17, nn18, mm18, nn19, mm19, nn20, mm20, nn21, mm21, nn22, mm22, nn23, mm23, nn24, mm24, nn25, mm25, hf, he2]
 by_cases hk1 : k ∈ s.2.1
 ·simp [go_sem, hk1]
  refine hK _ ?_; clear hK K
  refine cond_k rfl (fun h => ?_) (fun h => ?_)
  ·simp at h
  ·clear h
   refine tr_skip ?_
   refine ⟨.inl rfl, ?_⟩
   simp [go_sem, addS, hk1]
   first | exact ⟨_, _, ((View.del j _).trans (View.del b2 _)).trans (by simp only [Sl.del, if_true, if_false, nn0, mm0, nn1, mm1, nn2, mm2, nn3, mm3, nn4, mm4, nn5, mm5, nn6, mm6, nn7, mm7, nn8, mm8, nn9, mm9, nn10, mm10, nn11, mm11, nn12, mm12, nn13, mm13, nn14, mm14, nn15, mm15, nn16, mm16, nn17, mm17, nn18, mm18, nn19, mm19, nn20, mm20, nn21, mm21, nn22, mm22, nn23, mm23, nn24, mm24, nn25, mm25, nn80, mm80, nn81, mm81, nn82, mm82, nn83, mm83, nn84, mm84, nn85, mm85, nn86, mm86, nn87, mm87, nn88, mm88, reduceIte]; exact View.perm (List.perm_append_comm (l₁ := [_]) (l₂ := [_, _, _])) _), m2, ⟨by omega, by omega, by omega⟩, rfl, [], by simp [todoR_add]⟩ | exact ⟨_, _, View.del j _, m, ⟨by omega, by omega, .inl rfl⟩, rfl, js, by simp [Sl.del, nn0, mm0, nn1, mm1, nn2, mm2, nn3, mm3, nn4, mm4, nn5, mm5, nn6, mm6, nn7, mm7, nn8, mm8, nn9, mm9, nn10, mm10, nn11, mm11, nn12, mm12, nn13, mm13, nn14, mm14, nn15, mm15, nn16, mm16, nn17, mm17, nn18, mm18, nn19, mm19, nn20, mm20, nn21, mm21, nn22, mm22, nn23, mm23, nn24, mm24, nn25, mm25]⟩
 ·simp [go_sem, hk1]
  refine hK _ ?_; clear hK K
  refine cond_k rfl (fun h => ?_) (fun h => ?_)
  ·clear h
   refine draw_k T_ok (by kernel_rfl) 5 [[], [0], [0, 1], [0, 1, 2], [], [0, 1, 2, 3, 4]] [] (by decide) (by decide) (by decide) fun K hK => ?_
   first | dsimp only [List.take, List.drop] | dsimp [List.take, List.drop]
   simp [go_sem, hkl, hko, hkt, nn0, mm0, nn1, mm1, nn2, mm2, nn3, mm3, nn4, mm4, nn5, mm5, nn6, mm6, nn7, mm7, nn8, mm8, nn9, mm9, nn10, mm10, nn11, mm11, nn12, mm12, nn13, mm13, nn14, mm14, nn15, mm15, nn16, mm16, nn17, mm17, nn18, mm18, nn19, mm19, nn20, mm20, nn21, mm21, nn22, mm22, nn23, mm23, nn24, mm24, nn25, mm25, hi2, he2, hk1]
   refine hK _ ?_; clear hK K
   refine draw_e T_ok (by kernel_rfl) 8 [[], [], [1], [1, 2], [1, 2, 3], [], [5], [1, 2, 3, 4, 5, 6], [0, 1, 2, 3, 4, 5, 6, 7], [0, 1, 2, 3, 4, 5, 6, 7, 8], [0, 1, 2, 3, 4, 5, 6, 7, 8, 9]] [(0, 6), (1, 6), (2, 6), (3, 6), (4, 6), (0, 7)] (by decide) (by decide) (by decide) fun K hK => ?_
   first | dsimp only [List.take, List.drop] | dsimp [List.take, List.drop]
   simp [go_sem, hkl, hko, hkt, nn0, mm0, nn1, mm1, nn2, mm2, nn3, mm3, nn4, mm4, nn5, mm5, nn6, mm6, nn7, mm7, nn8, mm8, nn9, mm9, nn10, mm10, nn11, mm11, nn12, mm12, nn13, mm13, nn14, mm14, nn15, mm15, nn16, mm16, nn17, mm17, nn18, mm18, nn19, mm19, nn20, mm20, nn21, mm21, nn22, mm22, nn23, mm23, nn24, mm24, nn25, mm25, todoR_len, htl]
   refine ⟨hko, by omega, ?_⟩
   generalize hm2e : j + 1 + 5 + 5 + 1 + 1 + 1 + 1 + 1 + 1 + 1 = m2
   generalize hb2e : j + 1 + 5 + 5 + 1 + 1 + 1 + 1 + 1 + 1 = b2
   have nn80 : ¬ m2 = 0 := by omega
   have mm80 : ¬ 0 = m2 := by omega
   have nn81 : ¬ m2 = 1 := by omega
   have mm81 : ¬ 1 = m2 := by omega
   have nn82 : ¬ m2 = 2 := by omega
   have mm82 : ¬ 2 = m2 := by omega
   have nn83 : ¬ b2 = 0 := by omega
   have mm83 : ¬ 0 = b2 := by omega
   have nn84 : ¬ b2 = 1 := by omega
   have mm84 : ¬ 1 = b2 := by omega
   have nn85 : ¬ b2 = 2 := by omega
   have mm85 : ¬ 2 = b2 := by omega
   have nn86 : ¬ m2 = b2 := by omega
   have mm86 : ¬ b2 = m2 := by omega
   have nn87 : ¬ m2 = j := by omega
   have mm87 : ¬ j = m2 := by omega
   have nn88 : ¬ b2 = j := by omega
   have mm88 : ¬ j = b2 := by omega
   refine hK _ ?_; clear hK K
   refine ⟨.inl rfl, ?_⟩
   simp [go_sem, addS, hk1]
   first | exact ⟨_, _, ((View.del j _).trans (View.del b2 _)).trans (by simp only [Sl.del, if_true, if_false, nn0, mm0, nn1, mm1, nn2, mm2, nn3, mm3, nn4, mm4, nn5, mm5, nn6, mm6, nn7, mm7, nn8, mm8, nn9, mm9, nn10, mm10, nn11, mm11, nn12, mm12, nn13, mm13, nn14, mm14, nn15, mm15, nn16, mm16, nn17, mm17, nn18, mm18, nn19, mm19, nn20, mm20, nn21, mm21, nn22, mm22, nn23, mm23, nn24, mm24, nn25, mm25, nn80, mm80, nn81, mm81, nn82, mm82, nn83, mm83, nn84, mm84, nn85, mm85, nn86, mm86, nn87, mm87, nn88, mm88, reduceIte]; exact View.perm (List.perm_append_comm (l₁ := [_]) (l₂ := [_, _, _])) _), m2, ⟨by omega, by omega, by omega⟩, rfl, [], by simp [todoR_add]⟩ | exact ⟨_, _, View.del j _, m, ⟨by omega, by omega, .inl rfl⟩, rfl, js, by simp [Sl.del, nn0, mm0, nn1, mm1, nn2, mm2, nn3, mm3, nn4, mm4, nn5, mm5, nn6, mm6, nn7, mm7, nn8, mm8, nn9, mm9, nn10, mm10, nn11, mm11, nn12, mm12, nn13, mm13, nn14, mm14, nn15, mm15, nn16, mm16, nn17, mm17, nn18, mm18, nn19, mm19, nn20, mm20, nn21, mm21, nn22, mm22, nn23, mm23, nn24, mm24, nn25, mm25]⟩
  ·simp at h
open Go Go.Sl Go.Proofs.Try
theorem addS_len (k : List Int) (s : Ws) : (addS k s).1.length ≤ s.1.length + 1 := by unfold addS; split <;> simp
theorem addS_wk {k : List Int} {s : Ws} (hk : WK k) (h : ∀ q ∈ s.2.1, WK q) : ∀ q ∈ (addS k s).2.1, WK q := by
 unfold addS; split
 ·exact h
 ·intro q hq
  rcases List.mem_append.1 hq with hq | hq
  ·exact h q hq
  ·simp at hq; subst hq; exact hk
theorem failS_wk {k : List Int} (h : WK k) {i : Nat} (hi : i < 4) {x : Ins} (h0 : 0 ≤ x.rd) (h8 : x.rd < 8) : WK (failS k i x) :=
 regS_wk ((h.set (by omega) fun e => by obtain ⟨j, h1, h2⟩ := wbk_iff.1 e; omega).set (by omega) fun _ => .inl rfl) hi h0 h8 1
theorem failS_held {k : List Int} {i : Nat} (hk : k.length = 52) (hi : i < 4) {x : Ins} (h0 : 0 ≤ x.rd) (h8 : x.rd < 8) (h : ∀ j, j < 4 → 0 ≤ gt k (j * 11 + 1) ∧ gt k (j * 11 + 1) ≤ 8) : ∀ j, j < 4 → 0 ≤ gt (failS k i x) (j * 11 + 1) ∧ gt (failS k i x) (j * 11 + 1) ≤ 8 := fun j hj => by
 unfold failS
 rw [regS_gt (by omega) h0 h8, gt_ne (by omega)]
 by_cases e : i = j
 ·subst e; rw [gt_same (by omega)]; omega
 ·rw [gt_ne (by omega)]; exact h j hj
def condS (k : List Int) (i : Nat) (x : Ins) : List (List Int) := if worksS k i x = true then [failS k i x, regS (putS (failS k i x) i x.loc (sArg k i x.aR x.aN)) i x 0] else [failS k i x]
theorem sargC_pf (k : List Int) (hk : k.length = 52) (i : Nat) (hi : i < 4) (r : Bool) (n : Int) (hn : r = true → 0 ≤ n ∧ n < 8) : Pf Try.prog 131 [.agg (thC k i), .agg [bV r, uV n]] (uV (sArg k i r n)) := by
 rw [← gS_arg]
 exact sarg_pf (thC k i) (thC_len hk hi) (thC_one k i) (thC_nl k i) (gS k i) (fun r hr => thC_reg hk hi hr) r n hn
set_option maxHeartbeats 4000000 in
set_option maxRecDepth 100000 in
theorem cond_fn (t : Tst) (k : List Int) (hwk : WK k) (hh : ∀ j, j < 4 → 0 ≤ gt k (j * 11 + 1) ∧ gt k (j * 11 + 1) ≤ 8) (i : Nat) (hi : i < 4) (x : Ins) (len p0 : Nat) (hok : TOk len p0 x) (hloc : 0 ≤ x.loc ∧ x.loc < 8) (s : Ws) (hs : ∀ q ∈ s.2.1, WK q) (hl9 : s.1.length ≤ 900) (m : Nat) (js : List V) (n : Nat) (hm2 : 2 < m) (hmn : m < n) : Sl.Fn Try.prog 133 [.ptr 2 0 0, .agg (wV k), iV (i : Nat), .agg x.cs] (seH t s m js) n fun u H k' => ∃ a : Nat × List V, (2 < a.1 ∧ a.1 < k' ∧ (a.1 = m ∨ n ≤ a.1)) ∧ u = .tup [] ∧ H = seH t (addsS (condS k i x) s) a.1 a.2 := by
 refine Fn.view ?_
 have nn0 : ¬ m = 0 := by omega
 have mm0 : ¬ 0 = m := by omega
 have nn1 : ¬ m = 1 := by omega
 have mm1 : ¬ 1 = m := by omega
 have nn2 : ¬ m = 2 := by omega
 have mm2 : ¬ 2 = m := by omega
 have nn3 : ¬ m = n := by omega
 have mm3 : ¬ n = m := by omega
 have nn4 : ¬ m = n + 1 := by omega
 have mm4 : ¬ n + 1 = m := by omega
 have nn5 : ¬ m = n + 2 := by omega
 have mm5 : ¬ n + 2 = m := by omega
 have nn6 : ¬ m = n + 3 := by omega
 have mm6 : ¬ n + 3 = m := by omega
 have nn7 : ¬ n = 0 := by omega
 have mm7 : ¬ 0 = n := by omega
 have nn8 : ¬ n = 1 := by omega
 have mm8 : ¬ 1 = n := by omega
 have nn9 : ¬ n = 2 := by omega
 have mm9 : ¬ 2 = n := by omega
 have nn10 : ¬ n + 1 = 0 := by omega
 have mm10 : ¬ 0 = n + 1 := by omega
 have nn11 : ¬ n + 1 = 1 := by omega
 have mm11 : ¬ 1 = n + 1 := by omega
 have nn12 : ¬ n + 1 = 2 := by omega
 have mm12 : ¬ 2 = n + 1 := by omega
 have nn13 : ¬ n + 2 = 0 := by omega
 have mm13 : ¬ 0 = n + 2 := by omega
 have nn14 : ¬ n + 2 = 1 := by omega
 have mm14 : ¬ 1 = n + 2 := by omega
 have nn15 : ¬ n + 2 = 2 := by omega
 have mm15 : ¬ 2 = n + 2 := by omega
 have nn16 : ¬ n = 1 := by omega
 have mm16 : ¬ 1 = n := by omega
 have nn17 : ¬ n = 0 := by omega
 have mm17 : ¬ 0 = n := by omega
 have hk := hwk.len
 have hkl : (wV k).length = 52 := wV_52 hk
 have hko := wV_one k
 have hkt : List.take 52 (wV k) = wV k := List.take_of_length_le (by omega)
 obtain ⟨d, hd⟩ : ∃ d : Nat, x.rd = d := ⟨x.rd.toNat, by have := hok.rd0; omega⟩
 have hd8 : d < 8 := by have := hok.rd8; omega
 have hdI : (d : Int) < 8 := by omega
 have hib : i * 11 ≤ 33 := by omega
 obtain ⟨y, hlo⟩ : ∃ y : Nat, x.loc = y := ⟨x.loc.toNat, by omega⟩
 have hlo8 : y < 8 := by omega
 have hloI : (y : Int) < 8 := by omega
 have hiI : (i : Int) < 4 := by omega
 have hi0 : (0 : Int) ≤ (i : Nat) := by omega
 have hwy : IntKind.i64.wrap ((y : Nat) + 1) = (y : Nat) + 1 := wrap_i64 (by omega) (by omega)
 have hwh : IntKind.i64.wrap (gt k (i * 11 + 1)) = gt k (i * 11 + 1) := wrap_i64 (by have := hh i hi; omega) (by have := hh i hi; omega)
 have hthl := thC_len hk hi
 have hth1 := thC_one k i
 have htht : List.take 11 (thC k i) = thC k i := List.take_of_length_le (by omega)
 have g1 : ∀ h : 1 < (thC k i).length, (thC k i)[1] = i8V (gt k (i * 11 + 1)) := fun h => by
  have := thC_held hk hi; rw [List.getElem?_eq_getElem h] at this; exact Option.some.inj this
 have g2 : ∀ h : 2 < (thC k i).length, (thC k i)[2] = bV (decide (gt k (i * 11 + 2) ≠ 0)) := fun h => by
  have := thC_lost hk hi; rw [List.getElem?_eq_getElem h] at this; exact Option.some.inj this
 have hk1 : (k.set (i * 11 + 1) 0).length = 52 := by rw [List.length_set, hk]
 have hk2 : ((k.set (i * 11 + 1) 0).set (i * 11 + 2) 0).length = 52 := by rw [List.length_set, hk1]
 have hFW : WK (failS k i x) := failS_wk hwk hi hok.rd0 hok.rd8
 have hFl : (wV (failS k i x)).length = 52 := wV_52 hFW.len
 have hFt : List.take 52 (wV (failS k i x)) = wV (failS k i x) := List.take_of_length_le (by omega)
 have hFh := failS_held hk hi hok.rd0 hok.rd8 hh
 unfold seH
 refine fn_in T_ok func133 rfl rfl ntmps133 rfl (by simp) ?_
 refine region_k T_ok (by decide) fun K hK => ?_
 simp [go_sem, len_ins, fits_ins, insC, hkl, hkt, nn0, mm0, nn1, mm1, nn2, mm2, nn3, mm3, nn4, mm4, nn5, mm5, nn6, mm6, nn7, mm7, nn8, mm8, nn9, mm9, nn10, mm10, nn11, mm11, nn12, mm12, nn13, mm13, nn14, mm14, nn15, mm15, nn16, mm16, nn17, mm17]
 refine ⟨hko, ?_⟩
 refine hK _ ?_; clear hK K
 refine region_k T_ok (by decide) fun K hK => ?_
 simp [go_sem, hkl, hi, hiI, hi0, hib, nn0, mm0, nn1, mm1, nn2, mm2, nn3, mm3, nn4, mm4, nn5, mm5, nn6, mm6, nn7, mm7, nn8, mm8, nn9, mm9, nn10, mm10, nn11, mm11, nn12, mm12, nn13, mm13, nn14, mm14, nn15, mm15, nn16, mm16, nn17, mm17]
 repeat refine ⟨by omega, ?_⟩
 have h11 : min 11 (52 - i * 11) = 11 := by omega
 rw [h11]
 refine ⟨⟨rfl, thC_one k i⟩, ?_⟩
 have htc : (List.take 11 (List.drop (i * 11) (wV k)) : List V) = thC k i := rfl
 rw [htc]
 simp only [List.drop, List.append_nil]
 refine hK _ ?_; clear hK K
 refine region_k T_ok (by decide) fun K hK => ?_
 by_cases c1 : gt k (i * 11 + 1) = x.loc + 1
 by_cases c2 : gt k (i * 11 + 2) = 0
 ·have c1y : gt k (i * 11 + 1) = (y : Nat) + 1 := by omega
  simp [go_sem, hwh, hwy, c1y, c2, insC, nn0, mm0, nn1, mm1, nn2, mm2, nn3, mm3, nn4, mm4, nn5, mm5, nn6, mm6, nn7, mm7, nn8, mm8, nn9, mm9, nn10, mm10, nn11, mm11, nn12, mm12, nn13, mm13, nn14, mm14, nn15, mm15, nn16, mm16, nn17, mm17, thC_len hk hi, g1, g2, hlo]
  refine hK _ ?_; clear hK K
  refine region_k T_ok (by decide) fun K hK => ?_
  simp [go_sem, insC, nn0, mm0, nn1, mm1, nn2, mm2, nn3, mm3, nn4, mm4, nn5, mm5, nn6, mm6, nn7, mm7, nn8, mm8, nn9, mm9, nn10, mm10, nn11, mm11, nn12, mm12, nn13, mm13, nn14, mm14, nn15, mm15, nn16, mm16, nn17, mm17, hd, hd8, hdI, wV_52 hk, hib, hlo, hlo8, hloI, hi, hiI, hi0, putW_held hk hi, wV_52 hk1, putW_lost0 hk1 hi]
  repeat refine ⟨by omega, ?_⟩
  refine hK _ ?_; clear hK K
  refine draw_k T_ok (by kernel_rfl) 6 [[], [], [1], [], [0, 3], [0, 3, 4], [0, 1, 2, 3, 4, 5], [0, 1, 2, 3, 4, 5, 6]] [] (by decide) (by decide) (by decide) fun K hK => ?_
  first | dsimp only [List.take, List.drop] | dsimp [List.take, List.drop]
  simp [go_sem, insC, nn0, mm0, nn1, mm1, nn2, mm2, nn3, mm3, nn4, mm4, nn5, mm5, nn6, mm6, nn7, mm7, nn8, mm8, nn9, mm9, nn10, mm10, nn11, mm11, nn12, mm12, nn13, mm13, nn14, mm14, nn15, mm15, nn16, mm16, nn17, mm17, hd, hd8, hdI, wV_52 hk, hib, hlo, hlo8, hloI, hi, hiI, hi0, wV_52 hk2, putW_reg hk2 hi hd8]
  repeat refine ⟨by omega, ?_⟩
  have hF : ((k.set (i * 11 + 1) 0).set (i * 11 + 2) 0).set (i * 11 + 3 + d) 1 = failS k i x := by unfold failS regS; rw [hd]; rfl
  rw [hF]
  refine hK _ ?_; clear hK K
  refine region_k T_ok (by decide) fun K hK => ?_
  simp [go_sem, insC, nn0, mm0, nn1, mm1, nn2, mm2, nn3, mm3, nn4, mm4, nn5, mm5, nn6, mm6, nn7, mm7, nn8, mm8, nn9, mm9, nn10, mm10, nn11, mm11, nn12, mm12, nn13, mm13, nn14, mm14, nn15, mm15, nn16, mm16, nn17, mm17, hFl, hFt]
  refine call_ex (add_fn t (failS k i x) hFW s hs (by omega) m js _ hm2 (by omega)) (by simp [seH, nn0, mm0, nn1, mm1, nn2, mm2, nn3, mm3, nn4, mm4, nn5, mm5, nn6, mm6, nn7, mm7, nn8, mm8, nn9, mm9, nn10, mm10, nn11, mm11, nn12, mm12, nn13, mm13, nn14, mm14, nn15, mm15, nn16, mm16, nn17, mm17]) (by simp [seH, go_sem, nn0, mm0, nn1, mm1, nn2, mm2, nn3, mm3, nn4, mm4, nn5, mm5, nn6, mm6, nn7, mm7, nn8, mm8, nn9, mm9, nn10, mm10, nn11, mm11, nn12, mm12, nn13, mm13, nn14, mm14, nn15, mm15, nn16, mm16, nn17, mm17]) fun k1 a1 hk1 ha1 => ?_
  obtain ⟨m1, js1⟩ := a1
  obtain ⟨ha2, ha3, ha4⟩ := ha1
  dsimp only at ha2 ha3 ha4
  have nn200 : ¬ m1 = 0 := by omega
  have mm200 : ¬ 0 = m1 := by omega
  have nn201 : ¬ m1 = 1 := by omega
  have mm201 : ¬ 1 = m1 := by omega
  have nn202 : ¬ m1 = 2 := by omega
  have mm202 : ¬ 2 = m1 := by omega
  have nn203 : ¬ m1 = n := by omega
  have mm203 : ¬ n = m1 := by omega
  have nn204 : ¬ m1 = n + 1 := by omega
  have mm204 : ¬ n + 1 = m1 := by omega
  have nn205 : ¬ m1 = n + 1 + 1 := by omega
  have mm205 : ¬ n + 1 + 1 = m1 := by omega
  simp [go_sem, seH, nn0, mm0, nn1, mm1, nn2, mm2, nn3, mm3, nn4, mm4, nn5, mm5, nn6, mm6, nn7, mm7, nn8, mm8, nn9, mm9, nn10, mm10, nn11, mm11, nn12, mm12, nn13, mm13, nn14, mm14, nn15, mm15, nn16, mm16, nn17, mm17, nn200, mm200, nn201, mm201, nn202, mm202, nn203, mm203, nn204, mm204, nn205, mm205]
  refine hK _ ?_; clear hK K
  refine region_k T_ok (by decide) fun K hK => ?_
  simp [go_sem, nn200, mm200, nn201, mm201, nn202, mm202, nn203, mm203, nn204, mm204, nn205, mm205]
  refine hK _ ?_; clear hK K
  refine cond_k rfl (fun h => ?_) (fun h => ?_)
  ·clear h
   have hcs : condS k i x = [failS k i x, regS (putS (failS k i x) i x.loc (sArg k i x.aR x.aN)) i x 0] := by unfold condS worksS; simp [c1, c2]
   refine draw_k T_ok (by kernel_rfl) 7 [[], [], [1], [], [], [4], [3, 4, 5], [0, 1, 2, 3, 4, 5, 6]] [] (by decide) (by decide) (by decide) fun K hK => ?_
   first | dsimp only [List.take, List.drop] | dsimp [List.take, List.drop]
   simp [go_sem, insC, nn0, mm0, nn1, mm1, nn2, mm2, nn3, mm3, nn4, mm4, nn5, mm5, nn6, mm6, nn7, mm7, nn8, mm8, nn9, mm9, nn10, mm10, nn11, mm11, nn12, mm12, nn13, mm13, nn14, mm14, nn15, mm15, nn16, mm16, nn17, mm17, hd, hd8, hdI, wV_52 hk, hib, hlo, hlo8, hloI, hi, hiI, hi0, nn200, mm200, nn201, mm201, nn202, mm202, nn203, mm203, nn204, mm204, nn205, mm205, thC_len hk hi, g1, g2, htht]
   refine callD_of (sargC_pf k hk i hi x.aR x.aN hok.a) ?_
   simp [go_sem, insC, nn0, mm0, nn1, mm1, nn2, mm2, nn3, mm3, nn4, mm4, nn5, mm5, nn6, mm6, nn7, mm7, nn8, mm8, nn9, mm9, nn10, mm10, nn11, mm11, nn12, mm12, nn13, mm13, nn14, mm14, nn15, mm15, nn16, mm16, nn17, mm17, hd, hd8, hdI, wV_52 hk, hib, hlo, hlo8, hloI, hi, hiI, hi0, nn200, mm200, nn201, mm201, nn202, mm202, nn203, mm203, nn204, mm204, nn205, mm205]
   refine call_own (put_fn (failS k i x) hFW.len i hi y hlo8 (sArg k i x.aR x.aN) hFh n _) rfl (by simp) (by simp [go_sem, nn0, mm0, nn1, mm1, nn2, mm2, nn3, mm3, nn4, mm4, nn5, mm5, nn6, mm6, nn7, mm7, nn8, mm8, nn9, mm9, nn10, mm10, nn11, mm11, nn12, mm12, nn13, mm13, nn14, mm14, nn15, mm15, nn16, mm16, nn17, mm17, nn200, mm200, nn201, mm201, nn202, mm202, nn203, mm203, nn204, mm204, nn205, mm205]) fun k2 hk2 => ?_
   simp [go_sem, upds, nn0, mm0, nn1, mm1, nn2, mm2, nn3, mm3, nn4, mm4, nn5, mm5, nn6, mm6, nn7, mm7, nn8, mm8, nn9, mm9, nn10, mm10, nn11, mm11, nn12, mm12, nn13, mm13, nn14, mm14, nn15, mm15, nn16, mm16, nn17, mm17, nn200, mm200, nn201, mm201, nn202, mm202, nn203, mm203, nn204, mm204, nn205, mm205]
   have hPW : WK (putS (failS k i x) i (y : Nat) (sArg k i x.aR x.aN)) := putS_wk hFW i (by omega) (by omega)
   have hPl := hPW.len
   refine hK _ ?_; clear hK K
   refine draw_k T_ok (by kernel_rfl) 6 [[], [], [1], [], [0, 3], [0, 3, 4], [0, 1, 2, 3, 4, 5], [0, 1, 2, 3, 4, 5, 6]] [] (by decide) (by decide) (by decide) fun K hK => ?_
   first | dsimp only [List.take, List.drop] | dsimp [List.take, List.drop]
   simp [go_sem, insC, nn0, mm0, nn1, mm1, nn2, mm2, nn3, mm3, nn4, mm4, nn5, mm5, nn6, mm6, nn7, mm7, nn8, mm8, nn9, mm9, nn10, mm10, nn11, mm11, nn12, mm12, nn13, mm13, nn14, mm14, nn15, mm15, nn16, mm16, nn17, mm17, hd, hd8, hdI, wV_52 hk, hib, hlo, hlo8, hloI, hi, hiI, hi0, nn200, mm200, nn201, mm201, nn202, mm202, nn203, mm203, nn204, mm204, nn205, mm205, wV_52 hPl, putW_reg hPl hi hd8]
   repeat refine ⟨by omega, ?_⟩
   have hZ : (putS (failS k i x) i (y : Nat) (sArg k i x.aR x.aN)).set (i * 11 + 3 + d) 0 = regS (putS (failS k i x) i x.loc (sArg k i x.aR x.aN)) i x 0 := by unfold regS; rw [hd, hlo]; rfl
   rw [hZ]
   have hZW : WK (regS (putS (failS k i x) i x.loc (sArg k i x.aR x.aN)) i x 0) := by rw [hlo]; exact regS_wk hPW hi hok.rd0 hok.rd8 0
   generalize regS (putS (failS k i x) i x.loc (sArg k i x.aR x.aN)) i x 0 = Z at hZW hcs ⊢
   have hZl : (wV Z).length = 52 := wV_52 hZW.len
   have hZt : List.take 52 (wV Z) = wV Z := List.take_of_length_le (by omega)
   refine hK _ ?_; clear hK K
   refine region_e T_ok (by decide) fun K hK => ?_
   simp [go_sem, insC, nn0, mm0, nn1, mm1, nn2, mm2, nn3, mm3, nn4, mm4, nn5, mm5, nn6, mm6, nn7, mm7, nn8, mm8, nn9, mm9, nn10, mm10, nn11, mm11, nn12, mm12, nn13, mm13, nn14, mm14, nn15, mm15, nn16, mm16, nn17, mm17, nn200, mm200, nn201, mm201, nn202, mm202, nn203, mm203, nn204, mm204, nn205, mm205, hZl, hZt]
   refine call_ex (add_fn t Z hZW (addS (failS k i x) s) (addS_wk hFW hs) (by have := addS_len (failS k i x) s; omega) m1 js1 _ ha2 (by omega)) (by simp [seH, nn0, mm0, nn1, mm1, nn2, mm2, nn3, mm3, nn4, mm4, nn5, mm5, nn6, mm6, nn7, mm7, nn8, mm8, nn9, mm9, nn10, mm10, nn11, mm11, nn12, mm12, nn13, mm13, nn14, mm14, nn15, mm15, nn16, mm16, nn17, mm17, nn200, mm200, nn201, mm201, nn202, mm202, nn203, mm203, nn204, mm204, nn205, mm205]) (by simp [seH, go_sem, nn0, mm0, nn1, mm1, nn2, mm2, nn3, mm3, nn4, mm4, nn5, mm5, nn6, mm6, nn7, mm7, nn8, mm8, nn9, mm9, nn10, mm10, nn11, mm11, nn12, mm12, nn13, mm13, nn14, mm14, nn15, mm15, nn16, mm16, nn17, mm17, nn200, mm200, nn201, mm201, nn202, mm202, nn203, mm203, nn204, mm204, nn205, mm205]) fun k3 a2 hk3 hb1 => ?_
   obtain ⟨m2, js2⟩ := a2
   obtain ⟨hb2, hb3, hb4⟩ := hb1
   dsimp only at hb2 hb3 hb4
   have nn300 : ¬ m2 = 0 := by omega
   have mm300 : ¬ 0 = m2 := by omega
   have nn301 : ¬ m2 = 1 := by omega
   have mm301 : ¬ 1 = m2 := by omega
   have nn302 : ¬ m2 = 2 := by omega
   have mm302 : ¬ 2 = m2 := by omega
   have nn303 : ¬ m2 = n := by omega
   have mm303 : ¬ n = m2 := by omega
   have nn304 : ¬ m2 = n + 1 := by omega
   have mm304 : ¬ n + 1 = m2 := by omega
   have nn305 : ¬ m2 = n + 1 + 1 := by omega
   have mm305 : ¬ n + 1 + 1 = m2 := by omega
   simp [go_sem, seH, nn0, mm0, nn1, mm1, nn2, mm2, nn3, mm3, nn4, mm4, nn5, mm5, nn6, mm6, nn7, mm7, nn8, mm8, nn9, mm9, nn10, mm10, nn11, mm11, nn12, mm12, nn13, mm13, nn14, mm14, nn15, mm15, nn16, mm16, nn17, mm17, nn200, mm200, nn201, mm201, nn202, mm202, nn203, mm203, nn204, mm204, nn205, mm205, nn300, mm300, nn301, mm301, nn302, mm302, nn303, mm303, nn304, mm304, nn305, mm305]
   refine hK _ ?_; clear hK K
   refine ⟨.inl rfl, ?_⟩
   simp [go_sem, hcs, addsS]
   first | exact ⟨_, _, ((View.del (n + 1 + 1) _).trans (View.del (n + 1) _)).trans (View.del n _), m2, ⟨by omega, by omega, by omega⟩, rfl, js2, by simp [Sl.del, nn0, mm0, nn1, mm1, nn2, mm2, nn3, mm3, nn4, mm4, nn5, mm5, nn6, mm6, nn7, mm7, nn8, mm8, nn9, mm9, nn10, mm10, nn11, mm11, nn12, mm12, nn13, mm13, nn14, mm14, nn15, mm15, nn16, mm16, nn17, mm17, nn300, mm300, nn301, mm301, nn302, mm302, nn303, mm303, nn304, mm304, nn305, mm305]⟩ | exact ⟨_, _, ((View.del (n + 1 + 1) _).trans (View.del (n + 1) _)).trans (View.del n _), m1, ⟨by omega, by omega, by omega⟩, rfl, js1, by simp [Sl.del, nn0, mm0, nn1, mm1, nn2, mm2, nn3, mm3, nn4, mm4, nn5, mm5, nn6, mm6, nn7, mm7, nn8, mm8, nn9, mm9, nn10, mm10, nn11, mm11, nn12, mm12, nn13, mm13, nn14, mm14, nn15, mm15, nn16, mm16, nn17, mm17, nn200, mm200, nn201, mm201, nn202, mm202, nn203, mm203, nn204, mm204, nn205, mm205]⟩
  ·simp at h
 ·have c1y : gt k (i * 11 + 1) = (y : Nat) + 1 := by omega
  simp [go_sem, hwh, hwy, c1y, c2, insC, nn0, mm0, nn1, mm1, nn2, mm2, nn3, mm3, nn4, mm4, nn5, mm5, nn6, mm6, nn7, mm7, nn8, mm8, nn9, mm9, nn10, mm10, nn11, mm11, nn12, mm12, nn13, mm13, nn14, mm14, nn15, mm15, nn16, mm16, nn17, mm17, thC_len hk hi, g1, g2, hlo]
  refine hK _ ?_; clear hK K
  refine region_k T_ok (by decide) fun K hK => ?_
  simp [go_sem, insC, nn0, mm0, nn1, mm1, nn2, mm2, nn3, mm3, nn4, mm4, nn5, mm5, nn6, mm6, nn7, mm7, nn8, mm8, nn9, mm9, nn10, mm10, nn11, mm11, nn12, mm12, nn13, mm13, nn14, mm14, nn15, mm15, nn16, mm16, nn17, mm17, hd, hd8, hdI, wV_52 hk, hib, hlo, hlo8, hloI, hi, hiI, hi0, putW_held hk hi, wV_52 hk1, putW_lost0 hk1 hi]
  repeat refine ⟨by omega, ?_⟩
  refine hK _ ?_; clear hK K
  refine draw_k T_ok (by kernel_rfl) 6 [[], [], [1], [], [0, 3], [0, 3, 4], [0, 1, 2, 3, 4, 5], [0, 1, 2, 3, 4, 5, 6]] [] (by decide) (by decide) (by decide) fun K hK => ?_
  first | dsimp only [List.take, List.drop] | dsimp [List.take, List.drop]
  simp [go_sem, insC, nn0, mm0, nn1, mm1, nn2, mm2, nn3, mm3, nn4, mm4, nn5, mm5, nn6, mm6, nn7, mm7, nn8, mm8, nn9, mm9, nn10, mm10, nn11, mm11, nn12, mm12, nn13, mm13, nn14, mm14, nn15, mm15, nn16, mm16, nn17, mm17, hd, hd8, hdI, wV_52 hk, hib, hlo, hlo8, hloI, hi, hiI, hi0, wV_52 hk2, putW_reg hk2 hi hd8]
  repeat refine ⟨by omega, ?_⟩
  have hF : ((k.set (i * 11 + 1) 0).set (i * 11 + 2) 0).set (i * 11 + 3 + d) 1 = failS k i x := by unfold failS regS; rw [hd]; rfl
  rw [hF]
  refine hK _ ?_; clear hK K
  refine region_k T_ok (by decide) fun K hK => ?_
  simp [go_sem, insC, nn0, mm0, nn1, mm1, nn2, mm2, nn3, mm3, nn4, mm4, nn5, mm5, nn6, mm6, nn7, mm7, nn8, mm8, nn9, mm9, nn10, mm10, nn11, mm11, nn12, mm12, nn13, mm13, nn14, mm14, nn15, mm15, nn16, mm16, nn17, mm17, hFl, hFt]
  refine call_ex (add_fn t (failS k i x) hFW s hs (by omega) m js _ hm2 (by omega)) (by simp [seH, nn0, mm0, nn1, mm1, nn2, mm2, nn3, mm3, nn4, mm4, nn5, mm5, nn6, mm6, nn7, mm7, nn8, mm8, nn9, mm9, nn10, mm10, nn11, mm11, nn12, mm12, nn13, mm13, nn14, mm14, nn15, mm15, nn16, mm16, nn17, mm17]) (by simp [seH, go_sem, nn0, mm0, nn1, mm1, nn2, mm2, nn3, mm3, nn4, mm4, nn5, mm5, nn6, mm6, nn7, mm7, nn8, mm8, nn9, mm9, nn10, mm10, nn11, mm11, nn12, mm12, nn13, mm13, nn14, mm14, nn15, mm15, nn16, mm16, nn17, mm17]) fun k1 a1 hk1 ha1 => ?_
  obtain ⟨m1, js1⟩ := a1
  obtain ⟨ha2, ha3, ha4⟩ := ha1
  dsimp only at ha2 ha3 ha4
  have nn200 : ¬ m1 = 0 := by omega
  have mm200 : ¬ 0 = m1 := by omega
  have nn201 : ¬ m1 = 1 := by omega
  have mm201 : ¬ 1 = m1 := by omega
  have nn202 : ¬ m1 = 2 := by omega
  have mm202 : ¬ 2 = m1 := by omega
  have nn203 : ¬ m1 = n := by omega
  have mm203 : ¬ n = m1 := by omega
  have nn204 : ¬ m1 = n + 1 := by omega
  have mm204 : ¬ n + 1 = m1 := by omega
  have nn205 : ¬ m1 = n + 1 + 1 := by omega
  have mm205 : ¬ n + 1 + 1 = m1 := by omega
  simp [go_sem, seH, nn0, mm0, nn1, mm1, nn2, mm2, nn3, mm3, nn4, mm4, nn5, mm5, nn6, mm6, nn7, mm7, nn8, mm8, nn9, mm9, nn10, mm10, nn11, mm11, nn12, mm12, nn13, mm13, nn14, mm14, nn15, mm15, nn16, mm16, nn17, mm17, nn200, mm200, nn201, mm201, nn202, mm202, nn203, mm203, nn204, mm204, nn205, mm205]
  refine hK _ ?_; clear hK K
  refine region_k T_ok (by decide) fun K hK => ?_
  simp [go_sem, nn200, mm200, nn201, mm201, nn202, mm202, nn203, mm203, nn204, mm204, nn205, mm205]
  refine hK _ ?_; clear hK K
  refine cond_k rfl (fun h => ?_) (fun h => ?_)
  ·simp at h
  ·clear h
   have hcs : condS k i x = [failS k i x] := by unfold condS worksS; simp [c2]
   refine tr_skip ?_
   refine ⟨.inl rfl, ?_⟩
   simp [go_sem, hcs, addsS]
   first | exact ⟨_, _, ((View.del (n + 1 + 1) _).trans (View.del (n + 1) _)).trans (View.del n _), m2, ⟨by omega, by omega, by omega⟩, rfl, js2, by simp [Sl.del, nn0, mm0, nn1, mm1, nn2, mm2, nn3, mm3, nn4, mm4, nn5, mm5, nn6, mm6, nn7, mm7, nn8, mm8, nn9, mm9, nn10, mm10, nn11, mm11, nn12, mm12, nn13, mm13, nn14, mm14, nn15, mm15, nn16, mm16, nn17, mm17, nn300, mm300, nn301, mm301, nn302, mm302, nn303, mm303, nn304, mm304, nn305, mm305]⟩ | exact ⟨_, _, ((View.del (n + 1 + 1) _).trans (View.del (n + 1) _)).trans (View.del n _), m1, ⟨by omega, by omega, by omega⟩, rfl, js1, by simp [Sl.del, nn0, mm0, nn1, mm1, nn2, mm2, nn3, mm3, nn4, mm4, nn5, mm5, nn6, mm6, nn7, mm7, nn8, mm8, nn9, mm9, nn10, mm10, nn11, mm11, nn12, mm12, nn13, mm13, nn14, mm14, nn15, mm15, nn16, mm16, nn17, mm17, nn200, mm200, nn201, mm201, nn202, mm202, nn203, mm203, nn204, mm204, nn205, mm205]⟩
 ·have c1y : ¬ gt k (i * 11 + 1) = (y : Nat) + 1 := by omega
  simp [go_sem, hwh, hwy, c1y, insC, nn0, mm0, nn1, mm1, nn2, mm2, nn3, mm3, nn4, mm4, nn5, mm5, nn6, mm6, nn7, mm7, nn8, mm8, nn9, mm9, nn10, mm10, nn11, mm11, nn12, mm12, nn13, mm13, nn14, mm14, nn15, mm15, nn16, mm16, nn17, mm17, thC_len hk hi, g1, g2, hlo]
  refine hK _ ?_; clear hK K
  refine region_k T_ok (by decide) fun K hK => ?_
  simp [go_sem, insC, nn0, mm0, nn1, mm1, nn2, mm2, nn3, mm3, nn4, mm4, nn5, mm5, nn6, mm6, nn7, mm7, nn8, mm8, nn9, mm9, nn10, mm10, nn11, mm11, nn12, mm12, nn13, mm13, nn14, mm14, nn15, mm15, nn16, mm16, nn17, mm17, hd, hd8, hdI, wV_52 hk, hib, hlo, hlo8, hloI, hi, hiI, hi0, putW_held hk hi, wV_52 hk1, putW_lost0 hk1 hi]
  repeat refine ⟨by omega, ?_⟩
  refine hK _ ?_; clear hK K
  refine draw_k T_ok (by kernel_rfl) 6 [[], [], [1], [], [0, 3], [0, 3, 4], [0, 1, 2, 3, 4, 5], [0, 1, 2, 3, 4, 5, 6]] [] (by decide) (by decide) (by decide) fun K hK => ?_
  first | dsimp only [List.take, List.drop] | dsimp [List.take, List.drop]
  simp [go_sem, insC, nn0, mm0, nn1, mm1, nn2, mm2, nn3, mm3, nn4, mm4, nn5, mm5, nn6, mm6, nn7, mm7, nn8, mm8, nn9, mm9, nn10, mm10, nn11, mm11, nn12, mm12, nn13, mm13, nn14, mm14, nn15, mm15, nn16, mm16, nn17, mm17, hd, hd8, hdI, wV_52 hk, hib, hlo, hlo8, hloI, hi, hiI, hi0, wV_52 hk2, putW_reg hk2 hi hd8]
  repeat refine ⟨by omega, ?_⟩
  have hF : ((k.set (i * 11 + 1) 0).set (i * 11 + 2) 0).set (i * 11 + 3 + d) 1 = failS k i x := by unfold failS regS; rw [hd]; rfl
  rw [hF]
  refine hK _ ?_; clear hK K
  refine region_k T_ok (by decide) fun K hK => ?_
  simp [go_sem, insC, nn0, mm0, nn1, mm1, nn2, mm2, nn3, mm3, nn4, mm4, nn5, mm5, nn6, mm6, nn7, mm7, nn8, mm8, nn9, mm9, nn10, mm10, nn11, mm11, nn12, mm12, nn13, mm13, nn14, mm14, nn15, mm15, nn16, mm16, nn17, mm17, hFl, hFt]
  refine call_ex (add_fn t (failS k i x) hFW s hs (by omega) m js _ hm2 (by omega)) (by simp [seH, nn0, mm0, nn1, mm1, nn2, mm2, nn3, mm3, nn4, mm4, nn5, mm5, nn6, mm6, nn7, mm7, nn8, mm8, nn9, mm9, nn10, mm10, nn11, mm11, nn12, mm12, nn13, mm13, nn14, mm14, nn15, mm15, nn16, mm16, nn17, mm17]) (by simp [seH, go_sem, nn0, mm0, nn1, mm1, nn2, mm2, nn3, mm3, nn4, mm4, nn5, mm5, nn6, mm6, nn7, mm7, nn8, mm8, nn9, mm9, nn10, mm10, nn11, mm11, nn12, mm12, nn13, mm13, nn14, mm14, nn15, mm15, nn16, mm16, nn17, mm17]) fun k1 a1 hk1 ha1 => ?_
  obtain ⟨m1, js1⟩ := a1
  obtain ⟨ha2, ha3, ha4⟩ := ha1
  dsimp only at ha2 ha3 ha4
  have nn200 : ¬ m1 = 0 := by omega
  have mm200 : ¬ 0 = m1 := by omega
  have nn201 : ¬ m1 = 1 := by omega
  have mm201 : ¬ 1 = m1 := by omega
  have nn202 : ¬ m1 = 2 := by omega
  have mm202 : ¬ 2 = m1 := by omega
  have nn203 : ¬ m1 = n := by omega
  have mm203 : ¬ n = m1 := by omega
  have nn204 : ¬ m1 = n + 1 := by omega
  have mm204 : ¬ n + 1 = m1 := by omega
  have nn205 : ¬ m1 = n + 1 + 1 := by omega
  have mm205 : ¬ n + 1 + 1 = m1 := by omega
  simp [go_sem, seH, nn0, mm0, nn1, mm1, nn2, mm2, nn3, mm3, nn4, mm4, nn5, mm5, nn6, mm6, nn7, mm7, nn8, mm8, nn9, mm9, nn10, mm10, nn11, mm11, nn12, mm12, nn13, mm13, nn14, mm14, nn15, mm15, nn16, mm16, nn17, mm17, nn200, mm200, nn201, mm201, nn202, mm202, nn203, mm203, nn204, mm204, nn205, mm205]
  refine hK _ ?_; clear hK K
  refine region_k T_ok (by decide) fun K hK => ?_
  simp [go_sem, nn200, mm200, nn201, mm201, nn202, mm202, nn203, mm203, nn204, mm204, nn205, mm205]
  refine hK _ ?_; clear hK K
  refine cond_k rfl (fun h => ?_) (fun h => ?_)
  ·simp at h
  ·clear h
   have hcs : condS k i x = [failS k i x] := by unfold condS worksS; simp [c1]
   refine tr_skip ?_
   refine ⟨.inl rfl, ?_⟩
   simp [go_sem, hcs, addsS]
   first | exact ⟨_, _, ((View.del (n + 1 + 1) _).trans (View.del (n + 1) _)).trans (View.del n _), m2, ⟨by omega, by omega, by omega⟩, rfl, js2, by simp [Sl.del, nn0, mm0, nn1, mm1, nn2, mm2, nn3, mm3, nn4, mm4, nn5, mm5, nn6, mm6, nn7, mm7, nn8, mm8, nn9, mm9, nn10, mm10, nn11, mm11, nn12, mm12, nn13, mm13, nn14, mm14, nn15, mm15, nn16, mm16, nn17, mm17, nn300, mm300, nn301, mm301, nn302, mm302, nn303, mm303, nn304, mm304, nn305, mm305]⟩ | exact ⟨_, _, ((View.del (n + 1 + 1) _).trans (View.del (n + 1) _)).trans (View.del n _), m1, ⟨by omega, by omega, by omega⟩, rfl, js1, by simp [Sl.del, nn0, mm0, nn1, mm1, nn2, mm2, nn3, mm3, nn4, mm4, nn5, mm5, nn6, mm6, nn7, mm7, nn8, mm8, nn9, mm9, nn10, mm10, nn11, mm11, nn12, mm12, nn13, mm13, nn14, mm14, nn15, mm15, nn16, mm16, nn17, mm17, nn200, mm200, nn201, mm201, nn202, mm202, nn203, mm203, nn204, mm204, nn205, mm205]⟩
open Go Go.Sl Go.Proofs.Try
theorem addsS_one (k : List Int) (s : Ws) : addsS [k] s = addS k s := rfl
set_option maxHeartbeats 8000000 in
set_option maxRecDepth 100000 in
theorem sstep_fn (t : Tst) (k : List Int) (hwk : WK k) (hh : ∀ j, j < 4 → 0 ≤ gt k (j * 11 + 1) ∧ gt k (j * 11 + 1) ≤ 8) (i : Nat) (hi : i < 4) (l : List Ins) (hx : t.ths[i]? = some l) (hl8 : l.length ≤ 8) (p : Nat) (hp : gt k (i * 11) = (p : Nat)) (x : Ins) (hg : l[p]? = some x) (hok : TOk l.length p x) (hloc : 0 ≤ x.loc ∧ x.loc < 8) (s : Ws) (hs : ∀ q ∈ s.2.1, WK q) (hl9 : s.1.length ≤ 800) (m : Nat) (js : List V) (n : Nat) (hm2 : 2 < m) (hmn : m < n) : Sl.Fn Try.prog 113 [.ptr 2 0 0, .agg (wV k), iV (i : Nat)] (seH t s m js) n fun u H k' => ∃ a : Nat × List V, (2 < a.1 ∧ a.1 < k' ∧ (a.1 = m ∨ n ≤ a.1)) ∧ u = .tup [] ∧ H = seH t (addsS (doS x i (incS k i)) s) a.1 a.2 := by
 refine Fn.view ?_
 have nn0 : ¬ m = 0 := by omega
 have mm0 : ¬ 0 = m := by omega
 have nn1 : ¬ m = 1 := by omega
 have mm1 : ¬ 1 = m := by omega
 have nn2 : ¬ m = 2 := by omega
 have mm2 : ¬ 2 = m := by omega
 have nn3 : ¬ m = n := by omega
 have mm3 : ¬ n = m := by omega
 have nn4 : ¬ n = 0 := by omega
 have mm4 : ¬ 0 = n := by omega
 have nn5 : ¬ n = 1 := by omega
 have mm5 : ¬ 1 = n := by omega
 have nn6 : ¬ n = 2 := by omega
 have mm6 : ¬ 2 = n := by omega
 have hk := hwk.len
 have hkl : (wV k).length = 52 := wV_52 hk
 have hko := wV_one k
 have hkt : List.take 52 (wV k) = wV k := List.take_of_length_le (by omega)
 obtain ⟨d, hd⟩ : ∃ d : Nat, x.rd = d := ⟨x.rd.toNat, by have := hok.rd0; omega⟩
 have hd8 : d < 8 := by have := hok.rd8; omega
 have hdI : (d : Int) < 8 := by omega
 have hib : i * 11 ≤ 33 := by omega
 obtain ⟨y, hlo⟩ : ∃ y : Nat, x.loc = y := ⟨x.loc.toNat, by omega⟩
 have hlo8 : y < 8 := by omega
 have hloI : (y : Int) < 8 := by omega
 have hiI : (i : Int) < 4 := by omega
 have hi0 : (0 : Int) ≤ (i : Nat) := by omega
 have hil : i < t.ths.length := (List.getElem?_eq_some_iff.1 hx).1
 have hilI : (i : Int) < (t.ths.length : Nat) := by omega
 have hx' : t.ths[i] = l := (List.getElem?_eq_some_iff.1 hx).2
 have hpn := (List.getElem?_eq_some_iff.1 hg).1
 have hpI : (p : Int) < (l.length : Nat) := by omega
 have hp0 : (0 : Int) ≤ (p : Nat) := by omega
 have hg' : l[p] = x := (List.getElem?_eq_some_iff.1 hg).2
 have hpw : IntKind.i8.wrap ((p : Int) + 1) = (p : Int) + 1 := wrap_i8 (by omega) (by omega)
 have hinc : k.set (i * 11) ((p : Int) + 1) = incS k i := by unfold incS; rw [hp]
 have hKW : WK (incS k i) := hwk.set (by omega) fun e => by obtain ⟨j, h1, h2⟩ := wbk_iff.1 e; omega
 have hk1 := hKW.len
 have hKp : gt (incS k i) (i * 11) = ((p + 1 : Nat) : Int) := by unfold incS; rw [gt_same (by omega), hp]; rfl
 have hKh : ∀ j, j < 4 → 0 ≤ gt (incS k i) (j * 11 + 1) ∧ gt (incS k i) (j * 11 + 1) ≤ 8 := fun j hj => by unfold incS; rw [gt_ne (by omega)]; exact hh j hj
 have hKl : (wV (incS k i)).length = 52 := wV_52 hk1
 have hKt : List.take 52 (wV (incS k i)) = wV (incS k i) := List.take_of_length_le (by omega)
 have hcore := doS_core hi hok hloc hKW hKh
 have hs0 := hok.skip0
 have hs1 := hok.skip
 have hwy : IntKind.i64.wrap ((y : Nat) + 1) = (y : Nat) + 1 := wrap_i64 (by omega) (by omega)
 have hwy8 : IntKind.i8.wrap ((y : Nat) + 1) = (y : Nat) + 1 := wrap_i8 (by omega) (by omega)
 unfold seH
 refine fn_in T_ok func113 rfl rfl ntmps113 rfl (by simp) ?_
 refine region_k T_ok (by decide) fun K hK => ?_
 simp [go_sem, hkl, hkt, nn0, mm0, nn1, mm1, nn2, mm2, nn3, mm3, nn4, mm4, nn5, mm5, nn6, mm6]
 refine ⟨hko, ?_⟩
 refine hK _ ?_; clear hK K
 refine region_k T_ok (by decide) fun K hK => ?_
 simp [go_sem, hkl, hi, hiI, hi0, hib, nn0, mm0, nn1, mm1, nn2, mm2, nn3, mm3, nn4, mm4, nn5, mm5, nn6, mm6]
 refine hK _ ?_; clear hK K
 refine draw_k T_ok (by kernel_rfl) 17 [[], [0], [0, 1], [0, 1, 2], [0, 1, 2, 3], [0, 1, 2, 3, 4], [0, 1, 2, 3, 4, 5], [], [0, 1, 2, 3, 4, 5, 6, 7], [0, 1, 2, 3, 4, 5, 6, 7, 8], [], [10], [10, 11], [10, 11, 12], [0, 1, 2, 3, 4, 5, 6, 7, 8, 9, 10, 11, 12, 13], [0, 1, 2, 3, 4, 5, 6, 7, 8, 9, 10, 11, 12, 13, 14], [], [0, 1, 2, 3, 4, 5, 6, 7, 8, 9, 10, 11, 12, 13, 14, 15, 16]] [(0, 16), (1, 16), (2, 16), (3, 16), (4, 16), (5, 16), (6, 16), (7, 16), (8, 16), (9, 16), (10, 16), (11, 16), (12, 16), (13, 16), (14, 16), (15, 16)] (by decide) (by decide) (by decide) fun K hK => ?_
 first | dsimp only [List.take, List.drop] | dsimp [List.take, List.drop]
 simp [go_sem, hil, hilI, hi0, hx, hx', Tst.cs, hkl, wV_pc hk hi, hp, hpI, hp0, hpn, hg, hg', insC, len_ins, fits_ins, hib, nn0, mm0, nn1, mm1, nn2, mm2, nn3, mm3, nn4, mm4, nn5, mm5, nn6, mm6]
 repeat refine ⟨by omega, ?_⟩
 have htc : [V.ro 2 (inis t.locs), V.ro 1 (thrs t.ths), V.ro 3 (atms t.asks)] = t.cs := rfl
 rw [htc]
 generalize hqe : n + 1 + 1 + 1 + 1 + 1 + 1 + 1 + 1 + 1 + 1 + 1 + 1 + 1 + 1 + 1 + 1 + 1 = q
 have hqn : q = n + 17 := by omega
 have nn100 : ¬ q = 0 := by omega
 have mm100 : ¬ 0 = q := by omega
 have nn101 : ¬ q = 1 := by omega
 have mm101 : ¬ 1 = q := by omega
 have nn102 : ¬ q = 2 := by omega
 have mm102 : ¬ 2 = q := by omega
 have nn103 : ¬ q = n := by omega
 have mm103 : ¬ n = q := by omega
 have nn104 : ¬ q = m := by omega
 have mm104 : ¬ m = q := by omega
 refine hK _ ?_; clear hK K
 refine region_k T_ok (by decide) fun K hK => ?_
 simp [go_sem, insC, nn0, mm0, nn1, mm1, nn2, mm2, nn3, mm3, nn4, mm4, nn5, mm5, nn6, mm6, nn100, mm100, nn101, mm101, nn102, mm102, nn103, mm103, nn104, mm104, hkl, wV_pc hk hi, hp, hpw, hib, putW_pc hk hi, hinc]
 repeat refine ⟨by omega, ?_⟩
 refine hK _ ?_; clear hK K
 refine draw_k T_ok (by kernel_rfl) 11 [[], [0], [], [0, 1, 2], [0, 1, 2, 3], [], [5], [5, 6], [], [8], [5, 6, 7, 8, 9], [0, 1, 2, 3, 4, 5, 6, 7, 8, 9, 10], [0, 1, 2, 3, 4, 5, 6, 7, 8, 9, 10, 11]] [] (by decide) (by decide) (by decide) fun K hK => ?_
 first | dsimp only [List.take, List.drop] | dsimp [List.take, List.drop]
 simp [go_sem, insC, nn0, mm0, nn1, mm1, nn2, mm2, nn3, mm3, nn4, mm4, nn5, mm5, nn6, mm6, nn100, mm100, nn101, mm101, nn102, mm102, nn103, mm103, nn104, mm104, hd, hd8, hdI, hk1, wV_52 hk1, hib, hlo, hlo8, hloI, hi, hiI, hi0, wV_mem hk1 hlo8]
 repeat refine ⟨by omega, ?_⟩
 refine callD_of (sargT_pf (incS k i) hk1 i hi x.aR x.aN hok.a) ?_
 simp [go_sem, insC, nn0, mm0, nn1, mm1, nn2, mm2, nn3, mm3, nn4, mm4, nn5, mm5, nn6, mm6, nn100, mm100, nn101, mm101, nn102, mm102, nn103, mm103, nn104, mm104, hd, hd8, hdI, hk1, wV_52 hk1, hib, hlo, hlo8, hloI, hi, hiI, hi0, wV_mem hk1 hlo8]
 refine hK _ ?_; clear hK K
 refine seq_ex (fun Q : List Int × Nat => ⟨127, [(0, .ptr 2 0 0), (4, .ptr n 0 0)], [(n, .rows 52 [.agg (wV Q.1)]), (2, .rows 4 [.agg [.rp t.cs 0, .sl m 0 s.1.length, .map 0, .map 1]]), (0, .map (seenW s.2.1)), (1, .map (seenM s.2.2)), (m, .rows 52 (todoR s.1 ++ js))], Q.2⟩) (fun Q : List Int × Nat => doS x i (incS k i) = [Q.1] ∧ q < Q.2) ?_ ?_
 ·skip
  refine region_k T_ok (by decide) fun K hK => ?_
  simp [go_sem, insC, nn0, mm0, nn1, mm1, nn2, mm2, nn3, mm3, nn4, mm4, nn5, mm5, nn6, mm6, nn100, mm100, nn101, mm101, nn102, mm102, nn103, mm103, nn104, mm104]
  refine hK _ ?_; clear hK K
  refine tr_block ?_
  refine region_k T_ok (by decide) fun K hK => ?_
  simp [go_sem, insC, nn0, mm0, nn1, mm1, nn2, mm2, nn3, mm3, nn4, mm4, nn5, mm5, nn6, mm6, nn100, mm100, nn101, mm101, nn102, mm102, nn103, mm103, nn104, mm104]
  refine hK _ ?_; clear hK K
  refine cond_k rfl (fun h => ?_) (fun h => ?_)
  ·have h1 : x.op = 9 := by simpa using h
   refine draw_e T_ok (by kernel_rfl) 6 [[], [], [1], [], [0], [0, 4], [0, 1, 2, 3, 4, 5], [0, 1, 2, 3, 4, 5, 6]] [] (by decide) (by decide) (by decide) fun K hK => ?_
   first | dsimp only [List.take, List.drop] | dsimp [List.take, List.drop]
   simp [go_sem, insC, nn0, mm0, nn1, mm1, nn2, mm2, nn3, mm3, nn4, mm4, nn5, mm5, nn6, mm6, nn100, mm100, nn101, mm101, nn102, mm102, nn103, mm103, nn104, mm104, hd, hd8, hdI, hk1, wV_52 hk1, hib, hlo, hlo8, hloI, hi, hiI, hi0, wV_mem hk1 hlo8, putW_reg hk1 hi hd8]
   obtain ⟨ku, hku⟩ : ∃ ku, ku = q + 300 := ⟨_, rfl⟩
   repeat refine ⟨by omega, ?_⟩
   have hdo : doS x i (incS k i) = [(incS k i).set (i * 11 + 3 + d) (gt (incS k i) (44 + y))] := by unfold doS; rw [if_pos h1]; unfold regS; rw [hd, hlo]; rfl
   refine hK _ ?_; clear hK K
   refine ⟨(_, ku), ⟨hdo, by dsimp only; omega⟩, ?_⟩
   refine Weaker.fzk 1 0 (by omega) ?_ ?_ ?_
   ·simp [go_sem, nn0, mm0, nn1, mm1, nn2, mm2, nn3, mm3, nn4, mm4, nn5, mm5, nn6, mm6, nn100, mm100, nn101, mm101, nn102, mm102, nn103, mm103, nn104, mm104]
   ·first | (simp; done) | (simp; omega)
   ·simp [go_sem, nn0, mm0, nn1, mm1, nn2, mm2, nn3, mm3, nn4, mm4, nn5, mm5, nn6, mm6, nn100, mm100, nn101, mm101, nn102, mm102, nn103, mm103, nn104, mm104]
  ·have h1 : ¬ x.op = 9 := by simpa using h
   refine region_k T_ok (by decide) fun K hK => ?_
   simp [go_sem, insC, nn0, mm0, nn1, mm1, nn2, mm2, nn3, mm3, nn4, mm4, nn5, mm5, nn6, mm6, nn100, mm100, nn101, mm101, nn102, mm102, nn103, mm103, nn104, mm104]
   refine hK _ ?_; clear hK K
   refine cond_k rfl (fun h => ?_) (fun h => ?_)
   ·have h2 : x.op = 13 := by simpa using h
    refine draw_k T_ok (by kernel_rfl) 6 [[], [], [1], [], [0], [0, 4], [0, 1, 2, 3, 4, 5], [0, 1, 2, 3, 4, 5, 6]] [] (by decide) (by decide) (by decide) fun K hK => ?_
    first | dsimp only [List.take, List.drop] | dsimp [List.take, List.drop]
    simp [go_sem, insC, nn0, mm0, nn1, mm1, nn2, mm2, nn3, mm3, nn4, mm4, nn5, mm5, nn6, mm6, nn100, mm100, nn101, mm101, nn102, mm102, nn103, mm103, nn104, mm104, hd, hd8, hdI, hk1, wV_52 hk1, hib, hlo, hlo8, hloI, hi, hiI, hi0, wV_mem hk1 hlo8, putW_reg hk1 hi hd8]
    repeat refine ⟨by omega, ?_⟩
    have hr1 : ((incS k i).set (i * 11 + 3 + d) (gt (incS k i) (44 + y))).length = 52 := by rw [List.length_set, hk1]
    have hr2 : (((incS k i).set (i * 11 + 3 + d) (gt (incS k i) (44 + y))).set (i * 11 + 1) ((y : Int) + 1)).length = 52 := by rw [List.length_set, hr1]
    refine hK _ ?_; clear hK K
    obtain ⟨ku, hku⟩ : ∃ ku, ku = q + 300 := ⟨_, rfl⟩
    refine region_e T_ok (by decide) fun K hK => ?_
    simp [go_sem, insC, nn0, mm0, nn1, mm1, nn2, mm2, nn3, mm3, nn4, mm4, nn5, mm5, nn6, mm6, nn100, mm100, nn101, mm101, nn102, mm102, nn103, mm103, nn104, mm104, hd, hd8, hdI, hk1, wV_52 hk1, hib, hlo, hlo8, hloI, hi, hiI, hi0, wV_mem hk1 hlo8, hwy, hwy8, wV_52 hr1, putW_held hr1 hi, wV_52 hr2, putW_lost0 hr2 hi]
    repeat refine ⟨by omega, ?_⟩
    have hdo : doS x i (incS k i) = [(((incS k i).set (i * 11 + 3 + d) (gt (incS k i) (44 + y))).set (i * 11 + 1) ((y : Int) + 1)).set (i * 11 + 2) 0] := by unfold doS; rw [if_neg h1, if_pos h2]; unfold regS; rw [hd, hlo]; rfl
    refine hK _ ?_; clear hK K
    refine ⟨(_, ku), ⟨hdo, by dsimp only; omega⟩, ?_⟩
    refine Weaker.fzk 1 0 (by omega) ?_ ?_ ?_
    ·simp [go_sem, nn0, mm0, nn1, mm1, nn2, mm2, nn3, mm3, nn4, mm4, nn5, mm5, nn6, mm6, nn100, mm100, nn101, mm101, nn102, mm102, nn103, mm103, nn104, mm104]
    ·first | (simp; done) | (simp; omega)
    ·simp [go_sem, nn0, mm0, nn1, mm1, nn2, mm2, nn3, mm3, nn4, mm4, nn5, mm5, nn6, mm6, nn100, mm100, nn101, mm101, nn102, mm102, nn103, mm103, nn104, mm104]
   ·have h2 : ¬ x.op = 13 := by simpa using h
    refine region_k T_ok (by decide) fun K hK => ?_
    simp [go_sem, insC, nn0, mm0, nn1, mm1, nn2, mm2, nn3, mm3, nn4, mm4, nn5, mm5, nn6, mm6, nn100, mm100, nn101, mm101, nn102, mm102, nn103, mm103, nn104, mm104]
    refine hK _ ?_; clear hK K
    refine cond_k rfl (fun h => ?_) (fun h => ?_)
    ·have h3 : x.op = 10 := by simpa using h
     refine region_e T_ok (by decide) fun K hK => ?_
     simp [go_sem, insC, nn0, mm0, nn1, mm1, nn2, mm2, nn3, mm3, nn4, mm4, nn5, mm5, nn6, mm6, nn100, mm100, nn101, mm101, nn102, mm102, nn103, mm103, nn104, mm104, hd, hd8, hdI, hk1, wV_52 hk1, hib, hlo, hlo8, hloI, hi, hiI, hi0, wV_mem hk1 hlo8]
     refine call_own (put_fn (incS k i) hk1 i hi y hlo8 (sArg (incS k i) i x.aR x.aN) hKh n _) rfl (by simp) (by simp [go_sem, nn0, mm0, nn1, mm1, nn2, mm2, nn3, mm3, nn4, mm4, nn5, mm5, nn6, mm6, nn100, mm100, nn101, mm101, nn102, mm102, nn103, mm103, nn104, mm104]) fun k2 hk2 => ?_
     simp [go_sem, upds, nn0, mm0, nn1, mm1, nn2, mm2, nn3, mm3, nn4, mm4, nn5, mm5, nn6, mm6, nn100, mm100, nn101, mm101, nn102, mm102, nn103, mm103, nn104, mm104]
     obtain ⟨ku, hku⟩ : ∃ ku, ku = k2 + q + 300 := ⟨_, rfl⟩
     have hPl : (putS (incS k i) i (y : Nat) (sArg (incS k i) i x.aR x.aN)).length = 52 := by rw [putS_len, hk1]
     generalize hPe : putS (incS k i) i (y : Nat) (sArg (incS k i) i x.aR x.aN) = P at hPl ⊢
     have hdo : doS x i (incS k i) = [P] := by unfold doS; rw [if_neg h1, if_neg h2, if_pos h3, hlo, hPe]
     refine hK _ ?_; clear hK K
     refine ⟨(_, ku), ⟨hdo, by dsimp only; omega⟩, ?_⟩
     refine Weaker.fzk 1 0 (by omega) ?_ ?_ ?_
     ·simp [go_sem, nn0, mm0, nn1, mm1, nn2, mm2, nn3, mm3, nn4, mm4, nn5, mm5, nn6, mm6, nn100, mm100, nn101, mm101, nn102, mm102, nn103, mm103, nn104, mm104]
     ·first | (simp; done) | (simp; omega)
     ·simp [go_sem, nn0, mm0, nn1, mm1, nn2, mm2, nn3, mm3, nn4, mm4, nn5, mm5, nn6, mm6, nn100, mm100, nn101, mm101, nn102, mm102, nn103, mm103, nn104, mm104]
    ·have h3 : ¬ x.op = 10 := by simpa using h
     refine region_k T_ok (by decide) fun K hK => ?_
     simp [go_sem, insC, nn0, mm0, nn1, mm1, nn2, mm2, nn3, mm3, nn4, mm4, nn5, mm5, nn6, mm6, nn100, mm100, nn101, mm101, nn102, mm102, nn103, mm103, nn104, mm104]
     refine hK _ ?_; clear hK K
     refine cond_k rfl (fun h => ?_) (fun h => ?_)
     ·have h4 : x.op = 11 := by simpa using h
      refine region_k T_ok (by decide) fun K hK => ?_
      simp [go_sem, insC, nn0, mm0, nn1, mm1, nn2, mm2, nn3, mm3, nn4, mm4, nn5, mm5, nn6, mm6, nn100, mm100, nn101, mm101, nn102, mm102, nn103, mm103, nn104, mm104, hd, hd8, hdI, hk1, wV_52 hk1, hib, hlo, hlo8, hloI, hi, hiI, hi0, wV_mem hk1 hlo8]
      refine call_own (put_fn (incS k i) hk1 i hi y hlo8 (sArg (incS k i) i x.aR x.aN) hKh n _) rfl (by simp) (by simp [go_sem, nn0, mm0, nn1, mm1, nn2, mm2, nn3, mm3, nn4, mm4, nn5, mm5, nn6, mm6, nn100, mm100, nn101, mm101, nn102, mm102, nn103, mm103, nn104, mm104]) fun k2 hk2 => ?_
      simp [go_sem, upds, nn0, mm0, nn1, mm1, nn2, mm2, nn3, mm3, nn4, mm4, nn5, mm5, nn6, mm6, nn100, mm100, nn101, mm101, nn102, mm102, nn103, mm103, nn104, mm104]
      obtain ⟨ku, hku⟩ : ∃ ku, ku = k2 + q + 300 := ⟨_, rfl⟩
      have hPl : (putS (incS k i) i (y : Nat) (sArg (incS k i) i x.aR x.aN)).length = 52 := by rw [putS_len, hk1]
      generalize hPe : putS (incS k i) i (y : Nat) (sArg (incS k i) i x.aR x.aN) = P at hPl ⊢
      refine hK _ ?_; clear hK K
      refine draw_e T_ok (by kernel_rfl) 6 [[], [], [1], [], [0], [0, 4], [0, 1, 2, 3, 4, 5], [0, 1, 2, 3, 4, 5, 6]] [] (by decide) (by decide) (by decide) fun K hK => ?_
      first | dsimp only [List.take, List.drop] | dsimp [List.take, List.drop]
      simp [go_sem, insC, nn0, mm0, nn1, mm1, nn2, mm2, nn3, mm3, nn4, mm4, nn5, mm5, nn6, mm6, nn100, mm100, nn101, mm101, nn102, mm102, nn103, mm103, nn104, mm104, hd, hd8, hdI, hk1, wV_52 hk1, hib, hlo, hlo8, hloI, hi, hiI, hi0, wV_mem hk1 hlo8, wV_52 hPl, putW_reg hPl hi hd8]
      repeat refine ⟨by omega, ?_⟩
      have hdo : doS x i (incS k i) = [P.set (i * 11 + 3 + d) (gt (incS k i) (44 + y))] := by unfold doS; rw [if_neg h1, if_neg h2, if_neg h3, if_pos h4, hlo, hPe]; unfold regS; rw [hd]; rfl
      refine hK _ ?_; clear hK K
      refine ⟨(_, ku), ⟨hdo, by dsimp only; omega⟩, ?_⟩
      refine Weaker.fzk 1 0 (by omega) ?_ ?_ ?_
      ·simp [go_sem, nn0, mm0, nn1, mm1, nn2, mm2, nn3, mm3, nn4, mm4, nn5, mm5, nn6, mm6, nn100, mm100, nn101, mm101, nn102, mm102, nn103, mm103, nn104, mm104]
      ·first | (simp; done) | (simp; omega)
      ·simp [go_sem, nn0, mm0, nn1, mm1, nn2, mm2, nn3, mm3, nn4, mm4, nn5, mm5, nn6, mm6, nn100, mm100, nn101, mm101, nn102, mm102, nn103, mm103, nn104, mm104]
     ·have h4 : ¬ x.op = 11 := by simpa using h
      refine region_k T_ok (by decide) fun K hK => ?_
      simp [go_sem, insC, nn0, mm0, nn1, mm1, nn2, mm2, nn3, mm3, nn4, mm4, nn5, mm5, nn6, mm6, nn100, mm100, nn101, mm101, nn102, mm102, nn103, mm103, nn104, mm104]
      refine hK _ ?_; clear hK K
      refine cond_k rfl (fun h => ?_) (fun h => ?_)
      ·have h5 : x.op = 12 := by simpa using h
       refine region_k T_ok (by decide) fun K hK => ?_
       simp [go_sem, insC, nn0, mm0, nn1, mm1, nn2, mm2, nn3, mm3, nn4, mm4, nn5, mm5, nn6, mm6, nn100, mm100, nn101, mm101, nn102, mm102, nn103, mm103, nn104, mm104, hd, hd8, hdI, hk1, wV_52 hk1, hib, hlo, hlo8, hloI, hi, hiI, hi0, wV_mem hk1 hlo8]
       refine call_own (put_fn (incS k i) hk1 i hi y hlo8 (IntKind.u64.wrap ((sArg (incS k i) i x.aR x.aN) + (gt (incS k i) (44 + y)))) hKh n _) rfl (by simp) (by simp [go_sem, nn0, mm0, nn1, mm1, nn2, mm2, nn3, mm3, nn4, mm4, nn5, mm5, nn6, mm6, nn100, mm100, nn101, mm101, nn102, mm102, nn103, mm103, nn104, mm104]) fun k2 hk2 => ?_
       simp [go_sem, upds, nn0, mm0, nn1, mm1, nn2, mm2, nn3, mm3, nn4, mm4, nn5, mm5, nn6, mm6, nn100, mm100, nn101, mm101, nn102, mm102, nn103, mm103, nn104, mm104]
       obtain ⟨ku, hku⟩ : ∃ ku, ku = k2 + q + 300 := ⟨_, rfl⟩
       have hPl : (putS (incS k i) i (y : Nat) (IntKind.u64.wrap ((sArg (incS k i) i x.aR x.aN) + (gt (incS k i) (44 + y))))).length = 52 := by rw [putS_len, hk1]
       generalize hPe : putS (incS k i) i (y : Nat) (IntKind.u64.wrap ((sArg (incS k i) i x.aR x.aN) + (gt (incS k i) (44 + y)))) = P at hPl ⊢
       refine hK _ ?_; clear hK K
       refine draw_e T_ok (by kernel_rfl) 6 [[], [], [1], [], [0], [0, 4], [0, 1, 2, 3, 4, 5], [0, 1, 2, 3, 4, 5, 6]] [] (by decide) (by decide) (by decide) fun K hK => ?_
       first | dsimp only [List.take, List.drop] | dsimp [List.take, List.drop]
       simp [go_sem, insC, nn0, mm0, nn1, mm1, nn2, mm2, nn3, mm3, nn4, mm4, nn5, mm5, nn6, mm6, nn100, mm100, nn101, mm101, nn102, mm102, nn103, mm103, nn104, mm104, hd, hd8, hdI, hk1, wV_52 hk1, hib, hlo, hlo8, hloI, hi, hiI, hi0, wV_mem hk1 hlo8, wV_52 hPl, putW_reg hPl hi hd8]
       repeat refine ⟨by omega, ?_⟩
       have hdo : doS x i (incS k i) = [P.set (i * 11 + 3 + d) (gt (incS k i) (44 + y))] := by unfold doS; rw [if_neg h1, if_neg h2, if_neg h3, if_neg h4, if_pos h5, hlo, Int.toNat_natCast, hPe]; unfold regS; rw [hd]; rfl
       refine hK _ ?_; clear hK K
       refine ⟨(_, ku), ⟨hdo, by dsimp only; omega⟩, ?_⟩
       refine Weaker.fzk 1 0 (by omega) ?_ ?_ ?_
       ·simp [go_sem, nn0, mm0, nn1, mm1, nn2, mm2, nn3, mm3, nn4, mm4, nn5, mm5, nn6, mm6, nn100, mm100, nn101, mm101, nn102, mm102, nn103, mm103, nn104, mm104]
       ·first | (simp; done) | (simp; omega)
       ·simp [go_sem, nn0, mm0, nn1, mm1, nn2, mm2, nn3, mm3, nn4, mm4, nn5, mm5, nn6, mm6, nn100, mm100, nn101, mm101, nn102, mm102, nn103, mm103, nn104, mm104]
      ·have h5 : ¬ x.op = 12 := by simpa using h
       refine region_k T_ok (by decide) fun K hK => ?_
       simp [go_sem, insC, nn0, mm0, nn1, mm1, nn2, mm2, nn3, mm3, nn4, mm4, nn5, mm5, nn6, mm6, nn100, mm100, nn101, mm101, nn102, mm102, nn103, mm103, nn104, mm104]
       refine hK _ ?_; clear hK K
       refine cond_k rfl (fun h => ?_) (fun h => ?_)
       ·have h6 : x.op = 14 := by simpa using h
        refine region_k T_ok (by decide) fun K hK => ?_
        simp [go_sem, insC, nn0, mm0, nn1, mm1, nn2, mm2, nn3, mm3, nn4, mm4, nn5, mm5, nn6, mm6, nn100, mm100, nn101, mm101, nn102, mm102, nn103, mm103, nn104, mm104, hKl, hKt, len_ins, fits_ins]
        refine call_ex (cond_fn t (incS k i) hKW hKh i hi x l.length p hok hloc s hs (by omega) m js _ hm2 (by omega)) (by simp [seH, nn0, mm0, nn1, mm1, nn2, mm2, nn3, mm3, nn4, mm4, nn5, mm5, nn6, mm6, nn100, mm100, nn101, mm101, nn102, mm102, nn103, mm103, nn104, mm104]) (by simp [seH, go_sem, nn0, mm0, nn1, mm1, nn2, mm2, nn3, mm3, nn4, mm4, nn5, mm5, nn6, mm6, nn100, mm100, nn101, mm101, nn102, mm102, nn103, mm103, nn104, mm104]) fun k1 a1 hk1 ha1 => ?_
        obtain ⟨m1, js1⟩ := a1
        obtain ⟨ha2, ha3, ha4⟩ := ha1
        dsimp only at ha2 ha3 ha4
        have nn300 : ¬ m1 = 0 := by omega
        have mm300 : ¬ 0 = m1 := by omega
        have nn301 : ¬ m1 = 1 := by omega
        have mm301 : ¬ 1 = m1 := by omega
        have nn302 : ¬ m1 = 2 := by omega
        have mm302 : ¬ 2 = m1 := by omega
        have nn303 : ¬ m1 = n := by omega
        have mm303 : ¬ n = m1 := by omega
        have nn304 : ¬ m1 = q := by omega
        have mm304 : ¬ q = m1 := by omega
        simp [go_sem, seH, nn0, mm0, nn1, mm1, nn2, mm2, nn3, mm3, nn4, mm4, nn5, mm5, nn6, mm6, nn100, mm100, nn101, mm101, nn102, mm102, nn103, mm103, nn104, mm104, nn300, mm300, nn301, mm301, nn302, mm302, nn303, mm303, nn304, mm304]
        have hdo : doS x i (incS k i) = condS (incS k i) i x := by unfold doS condS; rw [if_neg h1, if_neg h2, if_neg h3, if_neg h4, if_neg h5, if_pos h6]
        refine hK _ ?_; clear hK K
        refine tr_ret ⟨.inr rfl, ?_⟩
        simp [go_sem, hdo]
        exact ⟨_, _, (View.del q _).trans (View.del n _), m1, ⟨by omega, by omega, by omega⟩, rfl, js1, by simp [Sl.del, nn0, mm0, nn1, mm1, nn2, mm2, nn3, mm3, nn4, mm4, nn5, mm5, nn6, mm6, nn100, mm100, nn101, mm101, nn102, mm102, nn103, mm103, nn104, mm104, nn300, mm300, nn301, mm301, nn302, mm302, nn303, mm303, nn304, mm304]⟩
       ·have h6 : ¬ x.op = 14 := by simpa using h
        refine region_e T_ok (by decide) fun K hK => ?_
        simp [go_sem, insC, nn0, mm0, nn1, mm1, nn2, mm2, nn3, mm3, nn4, mm4, nn5, mm5, nn6, mm6, nn100, mm100, nn101, mm101, nn102, mm102, nn103, mm103, nn104, mm104, len_ins, fits_ins]
        refine call_own (plain_fn (incS k i) hk1 i hi (p + 1) hKp (by omega) x l.length p hok (by omega) n _ (by omega)) rfl (by simp) (by simp [go_sem, nn0, mm0, nn1, mm1, nn2, mm2, nn3, mm3, nn4, mm4, nn5, mm5, nn6, mm6, nn100, mm100, nn101, mm101, nn102, mm102, nn103, mm103, nn104, mm104]) fun k2 hk2 => ?_
        simp [go_sem, upds, nn0, mm0, nn1, mm1, nn2, mm2, nn3, mm3, nn4, mm4, nn5, mm5, nn6, mm6, nn100, mm100, nn101, mm101, nn102, mm102, nn103, mm103, nn104, mm104]
        obtain ⟨ku, hku⟩ : ∃ ku, ku = k2 + q + 300 := ⟨_, rfl⟩
        have hdo : doS x i (incS k i) = [plainS x i (incS k i)] := by unfold doS; rw [if_neg h1, if_neg h2, if_neg h3, if_neg h4, if_neg h5, if_neg h6]
        generalize plainS x i (incS k i) = P at hdo ⊢
        refine hK _ ?_; clear hK K
        refine ⟨(_, ku), ⟨hdo, by dsimp only; omega⟩, ?_⟩
        refine Weaker.fzk 1 0 (by omega) ?_ ?_ ?_
        ·simp [go_sem, nn0, mm0, nn1, mm1, nn2, mm2, nn3, mm3, nn4, mm4, nn5, mm5, nn6, mm6, nn100, mm100, nn101, mm101, nn102, mm102, nn103, mm103, nn104, mm104]
        ·first | (simp; done) | (simp; omega)
        ·simp [go_sem, nn0, mm0, nn1, mm1, nn2, mm2, nn3, mm3, nn4, mm4, nn5, mm5, nn6, mm6, nn100, mm100, nn101, mm101, nn102, mm102, nn103, mm103, nn104, mm104]
 ·rintro ⟨Q, kq⟩ ⟨hdo, hqk⟩
  dsimp only at hdo hqk ⊢
  have hQW : WK Q := (hcore Q (by rw [hdo]; exact List.mem_singleton.2 rfl)).1
  have hQl : (wV Q).length = 52 := wV_52 hQW.len
  have hQt : List.take 52 (wV Q) = wV Q := List.take_of_length_le (by omega)
  refine region_e T_ok (by decide) fun K hK => ?_
  simp [go_sem, nn0, mm0, nn1, mm1, nn2, mm2, nn3, mm3, nn4, mm4, nn5, mm5, nn6, mm6, hQl, hQt]
  refine call_ex (add_fn t Q hQW s hs (by omega) m js _ hm2 (by omega)) (by simp [seH, nn0, mm0, nn1, mm1, nn2, mm2, nn3, mm3, nn4, mm4, nn5, mm5, nn6, mm6]) (by simp [seH, go_sem, nn0, mm0, nn1, mm1, nn2, mm2, nn3, mm3, nn4, mm4, nn5, mm5, nn6, mm6]) fun k1 a1 hk1 ha1 => ?_
  obtain ⟨m1, js1⟩ := a1
  obtain ⟨ha2, ha3, ha4⟩ := ha1
  dsimp only at ha2 ha3 ha4
  have nn200 : ¬ m1 = 0 := by omega
  have mm200 : ¬ 0 = m1 := by omega
  have nn201 : ¬ m1 = 1 := by omega
  have mm201 : ¬ 1 = m1 := by omega
  have nn202 : ¬ m1 = 2 := by omega
  have mm202 : ¬ 2 = m1 := by omega
  have nn203 : ¬ m1 = n := by omega
  have mm203 : ¬ n = m1 := by omega
  simp [go_sem, seH, nn0, mm0, nn1, mm1, nn2, mm2, nn3, mm3, nn4, mm4, nn5, mm5, nn6, mm6, nn200, mm200, nn201, mm201, nn202, mm202, nn203, mm203]
  refine hK _ ?_; clear hK K
  refine ⟨.inl rfl, ?_⟩
  simp [go_sem, hdo, addsS_one]
  exact ⟨_, _, View.del n _, m1, ⟨by omega, by omega, by omega⟩, rfl, js1, by simp [Sl.del, nn0, mm0, nn1, mm1, nn2, mm2, nn3, mm3, nn4, mm4, nn5, mm5, nn6, mm6, nn200, mm200, nn201, mm201, nn202, mm202, nn203, mm203]⟩
open Go Go.Sl Go.Proofs.Try
set_option maxHeartbeats 4000000 in
set_option maxRecDepth 100000 in
theorem drain_fn (k : List Int) (hk : k.length = 112) (i : Nat) (hi : i < 4) (w : Nat) (hw : gt k (i * 26 + 1) = (w : Nat) + 1) (hw8 : w < 8) (hlo : 0 ≤ gt k (i * 26 + 10) ∧ gt k (i * 26 + 10) < 8) (r n : Nat) : Sl.Fn Try.prog 120 [.ptr r 0 0, iV (i : Nat)] [(r, .rows 112 [.agg (mV k)])] n fun v H _ => v = .tup [] ∧ H = [(r, .rows 112 [.agg (mV (drainT k i w))])] := by
 have hiI : (i : Int) < 4 := by omega
 have hi0 : (0 : Int) ≤ (i : Nat) := by omega
 obtain ⟨x, hx⟩ : ∃ x : Nat, gt k (i * 26 + 10) = x := ⟨(gt k (i * 26 + 10)).toNat, by omega⟩
 rw [hx] at hlo
 have hx8 : x < 8 := by omega
 have hxI : (x : Int) < 8 := by omega
 have h1 : k.set (104 + x) (gt k (i * 26 + 10 + 1)) = drain1 k i := by unfold drain1; rw [hx]; rfl
 have hl1 : (drain1 k i).length = 112 := by unfold drain1; rw [List.length_set, hk]
 have hl2 : (shiftB (drain1 k i) i).length = 112 := shiftB_len hl1 hi
 have hw2 : gt (shiftB (drain1 k i) i) (i * 26 + 1) = (w : Nat) + 1 := by
  rw [gt_shift hl1 hi, if_neg (by omega)]
  unfold drain1
  rw [gt_ne (by omega), hw]
 have h3 : (shiftB (drain1 k i) i).set (i * 26 + 1) (w : Nat) = drain3 k i w := rfl
 have hl3 : (drain3 k i w).length = 112 := by unfold drain3; rw [List.length_set, hl2]
 have hw3 : gt (drain3 k i w) (i * 26 + 1) = (w : Nat) := by unfold drain3; rw [gt_same (by omega)]
 have hww : IntKind.i8.wrap (w : Nat) = (w : Nat) := wrap_i8 (by omega) (by omega)
 have hwI : (w : Int) < 8 := by omega
 have hb : i * 26 ≤ 86 := by omega
 have hsh : putPart (.agg (mV (drain1 k i))) (i * 26 + 10) (.agg (((mV (drain1 k i)).drop (i * 26 + 10 + 2)).take 14)) = .agg (mV (shiftB (drain1 k i) i)) := putT_shift hl1 hi
 have h4 : ((drain3 k i w).set (i * 26 + 10 + w * 2) 0).set (i * 26 + 10 + w * 2 + 1) 0 = drainT k i w := rfl
 refine fn_in T_ok func120 rfl rfl ntmps120 rfl (by simp) ?_
 refine region_k T_ok (by decide) fun K hK => ?_
 simp [go_sem, hi, hiI, hi0]
 refine hK _ ?_; clear hK K
 refine draw_k T_ok (by kernel_rfl) 15 [[], [], [1], [1, 2], [1, 2, 3], [1, 2, 3, 4], [1, 2, 3, 4, 5], [], [7], [7, 8], [7, 8, 9], [7, 8, 9, 10], [7, 8, 9, 10, 11], [0], [0, 13], [0, 1, 2, 3, 4, 5, 6, 7, 8, 9, 10, 11, 12, 13, 14], [0, 1, 2, 3, 4, 5, 6, 7, 8, 9, 10, 11, 12, 13, 14, 15]] [] (by decide) (by decide) (by decide) fun K hK => ?_
 first | dsimp only [List.take, List.drop] | dsimp [List.take, List.drop]
 simp [go_sem, mV_112 hk, mV_loc0 hk hi, mV_val0 hk hi, hx, hx8, hxI, putT_mem hk hx8, h1]
 repeat refine ⟨by omega, ?_⟩
 refine hK _ ?_; clear hK K
 refine draw_k T_ok (by kernel_rfl) 8 [[], [0], [0, 1], [0, 1, 2], [], [4], [4, 5], [4, 5, 6], [0, 1, 2, 3, 4, 5, 6, 7]] [] (by decide) (by decide) (by decide) fun K hK => ?_
 first | dsimp only [List.take, List.drop] | dsimp [List.take, List.drop]
 simp [go_sem, mV_112 hl1, hb, hsh, List.take_take]
 repeat refine ⟨by omega, ?_⟩
 refine hK _ ?_; clear hK K
 refine region_k T_ok (by decide) fun K hK => ?_
 simp [go_sem, mV_112 hl2, mV_wait hl2 hi, hw2, hww, putT_wait hl2 hi, h3]
 repeat refine ⟨by omega, ?_⟩
 refine hK _ ?_; clear hK K
 refine draw_e T_ok (by kernel_rfl) 8 [[], [], [1], [1, 2], [1, 2, 3], [], [0], [0, 6], [0, 1, 2, 3, 4, 5, 6, 7], [0, 1, 2, 3, 4, 5, 6, 7, 8]] [] (by decide) (by decide) (by decide) fun K hK => ?_
 first | dsimp only [List.take, List.drop] | dsimp [List.take, List.drop]
 simp [go_sem, mV_112 hl3, mV_wait hl3 hi, hw3, hwI, putT_ent hl3 hi hw8, h4]
 repeat refine ⟨by omega, ?_⟩
 refine hK _ ?_; clear hK K
 refine ⟨.inl rfl, ?_⟩
 simp [go_sem]
open Go Go.Sl Go.Proofs.Try
theorem memdr (x : Ins) : memB x.op = true ∨ (memB x.op = false ∧ drB x = false) ∨ (memB x.op = false ∧ drB x = true) := by cases memB x.op <;> cases drB x <;> simp
set_option maxHeartbeats 8000000 in
set_option maxRecDepth 100000 in
theorem local_fn (t : Tst) (i : Nat) (hi : i < 4) (l : List Ins) (hx : t.ths[i]? = some l) (hl : ThrOk l) (k : List Int) (hk : k.length = 112) (p0 : Nat) (hp0 : gt k (i * 26) = (p0 : Nat)) (hpl : p0 ≤ l.length) (r n : Nat) (hr : r ≠ 2) (hrn : r < n) (h2n : 2 < n) : Sl.Fn Try.prog 100 [.ptr 2 0 0, .ptr r 0 (i * 26), iV (i : Nat)] [(2, .rows 3 [.agg [.rp t.cs 0, .map 0, .map 1]]), (r, .rows 112 [.agg (mV k)])] n fun v H _ => v = .tup [] ∧ H = [(2, .rows 3 [.agg [.rp t.cs 0, .map 0, .map 1]]), (r, .rows 112 [.agg (mV (locT l i (l.length + 1) k))])] := by
 have nn50 : ¬ r = 2 := by omega
 have mm50 : ¬ 2 = r := by omega
 have hil : i < t.ths.length := (List.getElem?_eq_some_iff.1 hx).1
 have hiI : (i : Int) < (t.ths.length : Nat) := by omega
 have hi0 : (0 : Int) ≤ (i : Nat) := by omega
 have hx' : t.ths[i] = l := (List.getElem?_eq_some_iff.1 hx).2
 have hl8 := hl.1
 refine fn_in T_ok func100 rfl rfl ntmps100 rfl (by simp) ?_
 refine region_k T_ok (by decide) fun K hK => ?_
 simp [go_sem, hiI, hi0, hil, hx, hx', Tst.cs, nn50, mm50]
 refine hK _ ?_; clear hK K
 refine tr_block ?_
 refine loop_p (α := List Int × Nat × Nat × Nat) (fun a => ⟨117, [(0, .ptr 2 0 0), (1, .ptr r 0 (i * 26)), (2, iV (i : Nat)), (6, .ro 13 (inss l))], [(2, .rows 3 [.agg [.rp t.cs 0, .map 0, .map 1]]), (r, .rows 112 [.agg (mV a.1)])], a.2.2.2⟩) (fun a => a.1.length = 112 ∧ gt a.1 (i * 26) = (a.2.1 : Nat) ∧ a.2.1 ≤ l.length ∧ l.length < a.2.1 + a.2.2.1 ∧ locT l i a.2.2.1 a.1 = locT l i (l.length + 1) k ∧ r < a.2.2.2 ∧ 2 < a.2.2.2) (fun a => a.2.2.1) (k, p0, l.length + 1, n) ?_ ?_ ?_
 ·exact ⟨hk, hp0, hpl, by dsimp only; omega, rfl, hrn, h2n⟩
 ·refine Weaker.fzk 1 0 (by first | omega | (dsimp only; omega)) ?_ ?_ ?_
  ·simp [go_sem, nn50, mm50]
  ·first | (simp; done) | (simp; omega)
  ·simp [go_sem, Tst.cs, nn50, mm50]
 rintro ⟨q, p, e, j⟩ ⟨hq, hp, hpl, hpe, hlt, hrj, h2j⟩
 dsimp only at hq hp hpl hpe hlt hrj h2j ⊢
 have nn0 : ¬ r = j := by omega
 have mm0 : ¬ j = r := by omega
 have nn1 : ¬ 2 = j := by omega
 have mm1 : ¬ j = 2 := by omega
 have hw64 : IntKind.i64.wrap (p : Nat) = (p : Nat) := wrap_i64 (by omega) (by omega)
 refine seq_k fun K1 hK1 => ?_
 refine region_k T_ok (by decide) fun K hK => ?_
 simp [go_sem, mV_112 hq, mV_pc hq hi, mV_wait hq hi, hp, nn50, mm50, nn0, mm0, nn1, mm1, hw64]
 repeat refine ⟨by omega, ?_⟩
 refine hK _ ?_; clear hK K
 refine cond_k rfl (fun h => ?_) (fun h => ?_)
 ·simp at h
  have hpI : (p : Int) < (l.length : Nat) := by omega
  have hpn : p < l.length := by omega
  clear h
  obtain ⟨x, hg, hg'⟩ := getAt hpn
  have hok := hl.2 p x hg
  obtain ⟨d, hd⟩ : ∃ d : Nat, x.rd = d := ⟨x.rd.toNat, by have := hok.rd0; omega⟩
  have hd8 : d < 8 := by have := hok.rd8; omega
  have hdI : (d : Int) < 8 := by omega
  have hp00 : (0 : Int) ≤ (p : Nat) := by omega
  obtain ⟨e, rfl⟩ : ∃ e2, e = e2 + 1 := ⟨e - 1, by omega⟩
  refine tr_skip ?_
  refine hK1 _ ?_; try clear hK1 K1
  refine tr_block ?_
  refine region_k T_ok (by decide) fun K hK => ?_
  simp [go_sem, insC, nn50, mm50, nn0, mm0, nn1, mm1, mV_112 hq, mV_pc hq hi, mV_wait hq hi, hp, nn50, mm50, nn0, mm0, nn1, mm1, hd, hd8, hdI, hpI, hp00, hpn, hg, hg']
  repeat refine ⟨by omega, ?_⟩
  refine hK _ ?_; clear hK K
  refine seq_ex (fun u : Unit => ⟨117, [(0, .ptr 2 0 0), (1, .ptr r 0 (i * 26)), (2, iV (i : Nat)), (6, .ro 13 (inss l))], [(2, .rows 3 [.agg [.rp t.cs 0, .map 0, .map 1]]), (r, .rows 112 [.agg (mV (lstT x i q))])], j + 60⟩) (fun u : Unit => stopT x i q = false) ?_ ?_
  ·skip
   refine tr_block ?_
   refine region_k T_ok (by decide) fun K hK => ?_
   simp [go_sem, insC, nn50, mm50, nn0, mm0, nn1, mm1]
   refine call_pf (ismem_pf x) ?_
   rcases memdr x with hm | ⟨hm, hd2⟩ | ⟨hm, hd2⟩
   ·simp [go_sem, hm, insC, nn50, mm50, nn0, mm0, nn1, mm1]
    refine hK _ ?_; clear hK K
    refine cond_k rfl (fun h => ?_) (fun h => ?_)
    ·clear h
     have hs : stopT x i q = true := by simp [stopT, hm]
     refine Tr.weaken (Weaker.del j) ?_
     refine tr_ret ⟨.inr rfl, ?_⟩
     have hq9 : locT l i (e + 1) q = q := by rw [locT, hp, Int.toNat_natCast, hg]; simp only [hs, if_true]
     rw [← hlt, hq9]
     simp [go_sem, Sl.del, nn50, mm50, nn0, mm0, nn1, mm1]
    ·simp at h
   ·simp [go_sem, hm, insC, nn50, mm50, nn0, mm0, nn1, mm1]
    refine call_pf (drains_pf x hok.fence) ?_
    simp [go_sem, hm, hd2, insC, nn50, mm50, nn0, mm0, nn1, mm1]
    refine hK _ ?_; clear hK K
    refine cond_k rfl (fun h => ?_) (fun h => ?_)
    ·simp at h
    ·clear h
     have hns : stopT x i q = false := by simp [stopT, hm, hd2]
     refine region_k T_ok (by decide) fun K hK => ?_
     simp [go_sem, insC, nn50, mm50, nn0, mm0, nn1, mm1]
     refine hK _ ?_; clear hK K
     refine cond_k rfl (fun h => ?_) (fun h => ?_)
     ·have h1 : x.op = 1 := by simpa using h
      refine draw_e T_ok (by kernel_rfl) 8 [[], [], [1], [], [3], [3, 4], [0], [0, 6], [0, 1, 2, 3, 4, 5, 6, 7], [0, 1, 2, 3, 4, 5, 6, 7, 8]] [] (by decide) (by decide) (by decide) fun K hK => ?_
      first | dsimp only [List.take, List.drop] | dsimp [List.take, List.drop]
      simp [go_sem, insC, nn50, mm50, nn0, mm0, nn1, mm1, mV_112 hq, mV_pc hq hi, mV_wait hq hi, hp, nn50, mm50, nn0, mm0, nn1, mm1, hd, hd8, hdI, putT_reg hq hi hd8]
      repeat refine ⟨by omega, ?_⟩
      have hls : lstT x i q = q.set (i * 26 + 2 + d) x.aN := by unfold lstT; rw [if_pos h1, hd]; rfl
      refine hK _ ?_; clear hK K
      refine ⟨(), hns, ?_⟩
      refine Weaker.fzk 1 0 (by omega) ?_ ?_ ?_
      ·simp [go_sem, hls, nn50, mm50, nn0, mm0, nn1, mm1]
      ·first | (simp; done) | (simp; omega)
      ·simp [go_sem, hls, nn50, mm50, nn0, mm0, nn1, mm1]
     ·have h1 : ¬ x.op = 1 := by simpa using h
      refine region_k T_ok (by decide) fun K hK => ?_
      simp [go_sem, insC, nn50, mm50, nn0, mm0, nn1, mm1]
      refine hK _ ?_; clear hK K
      refine cond_k rfl (fun h => ?_) (fun h => ?_)
      ·have h2 : x.op < 9 := by simpa using h
       refine draw_e T_ok (by kernel_rfl) 16 [[], [], [1], [], [3], [], [], [6], [5, 6, 7], [], [], [10], [5, 6, 7, 8, 9, 10, 11], [3, 4, 5, 6, 7, 8, 9, 10, 11, 12], [0], [0, 14], [0, 1, 2, 3, 4, 5, 6, 7, 8, 9, 10, 11, 12, 13, 14, 15], [0, 1, 2, 3, 4, 5, 6, 7, 8, 9, 10, 11, 12, 13, 14, 15, 16]] [] (by decide) (by decide) (by decide) fun K hK => ?_
       first | dsimp only [List.take, List.drop] | dsimp [List.take, List.drop]
       simp [go_sem, insC, nn50, mm50, nn0, mm0, nn1, mm1, mV_112 hq, mV_pc hq hi, mV_wait hq hi, hp, nn50, mm50, nn0, mm0, nn1, mm1, hd, hd8, hdI]
       refine callD_lend (targ_pf q hq i hi x.aR x.aN hok.a) 1 (by simp [go_sem, mV_frz, nn50, mm50, nn0, mm0, nn1, mm1]) ?_
       simp [go_sem, insC, nn50, mm50, nn0, mm0, nn1, mm1, mV_112 hq, mV_pc hq hi, mV_wait hq hi, hp, nn50, mm50, nn0, mm0, nn1, mm1, hd, hd8, hdI]
       refine callD_lend (targ_pf q hq i hi x.bR x.bN hok.b) 1 (by simp [go_sem, mV_frz, nn50, mm50, nn0, mm0, nn1, mm1]) ?_
       simp [go_sem, insC, nn50, mm50, nn0, mm0, nn1, mm1, mV_112 hq, mV_pc hq hi, mV_wait hq hi, hp, nn50, mm50, nn0, mm0, nn1, mm1, hd, hd8, hdI]
       refine callD_of (reckon_pf x.op _ _) ?_
       simp [go_sem, putT_reg hq hi hd8, insC, nn50, mm50, nn0, mm0, nn1, mm1, mV_112 hq, mV_pc hq hi, mV_wait hq hi, hp, nn50, mm50, nn0, mm0, nn1, mm1, hd, hd8, hdI]
       repeat refine ⟨by omega, ?_⟩
       have hls : lstT x i q = q.set (i * 26 + 2 + d) (reck x.op (aArg q i x.aR x.aN) (aArg q i x.bR x.bN)) := by unfold lstT; rw [if_neg h1, if_pos h2, hd]; rfl
       refine hK _ ?_; clear hK K
       refine ⟨(), hns, ?_⟩
       refine Weaker.fzk 1 0 (by omega) ?_ ?_ ?_
       ·simp [go_sem, hls, nn50, mm50, nn0, mm0, nn1, mm1]
       ·first | (simp; done) | (simp; omega)
       ·simp [go_sem, hls, nn50, mm50, nn0, mm0, nn1, mm1]
      ·have h2 : ¬ x.op < 9 := by simpa using h
       refine draw_k T_ok (by kernel_rfl) 16 [[], [0], [0, 1], [0, 1, 2], [0, 1, 2, 3], [0, 1, 2, 3], [0, 1, 2, 3, 5], [0, 1, 2, 3, 4, 5, 6], [0, 1, 2, 3], [0, 1, 2, 3], [0, 1, 2, 3, 9], [0, 1, 2, 3, 4, 5, 6, 7, 8, 9, 10], [0, 1, 2, 3, 4, 5, 6, 7, 8, 9, 10, 11], [0, 1, 2, 3], [0, 1, 2, 3, 13], [0, 1, 2, 3, 13, 14], [0, 1, 2, 3, 4, 5, 6, 7, 8, 9, 10, 11, 12, 13, 14, 15], [0, 1, 2, 3, 4, 5, 6, 7, 8, 9, 10, 11, 12, 13, 14, 15, 16], [0, 1, 2, 3, 4, 5, 6, 7, 8, 9, 10, 11, 12, 13, 14, 15, 16, 17]] [] (by decide) (by decide) (by decide) fun K hK => ?_
       first | dsimp only [List.take, List.drop] | dsimp [List.take, List.drop]
       rcases Nat.lt_or_ge 15 x.op.toNat with h3 | h3
       ·have h3I : 15 < x.op := by omega
        simp [go_sem, h3I, insC, nn50, mm50, nn0, mm0, nn1, mm1, mV_112 hq, mV_pc hq hi, mV_wait hq hi, hp, nn50, mm50, nn0, mm0, nn1, mm1, hd, hd8, hdI]
        refine callD_lend (targ_pf q hq i hi x.aR x.aN hok.a) 1 (by simp [go_sem, mV_frz, nn50, mm50, nn0, mm0, nn1, mm1]) ?_
        simp [go_sem, h3I, insC, nn50, mm50, nn0, mm0, nn1, mm1, mV_112 hq, mV_pc hq hi, mV_wait hq hi, hp, nn50, mm50, nn0, mm0, nn1, mm1, hd, hd8, hdI]
        refine callD_lend (targ_pf q hq i hi x.bR x.bN hok.b) 1 (by simp [go_sem, mV_frz, nn50, mm50, nn0, mm0, nn1, mm1]) ?_
        simp [go_sem, h3I, insC, nn50, mm50, nn0, mm0, nn1, mm1, mV_112 hq, mV_pc hq hi, mV_wait hq hi, hp, nn50, mm50, nn0, mm0, nn1, mm1, hd, hd8, hdI]
        refine hK _ ?_; clear hK K
        refine cond_k rfl (fun h => ?_) (fun h => ?_)
        ·have hb : brT q i x = true := by simpa [brT, h3I, int_beq, decide_eq_decide] using h
         have hs1 := hok.skip
         have hs0 := hok.skip0
         have hsk : IntKind.i8.wrap x.skip = x.skip := wrap_i8 (by omega) (by omega)
         have hskp : IntKind.i8.wrap ((p : Int) + x.skip) = (p : Int) + x.skip := wrap_i8 (by omega) (by omega)
         refine draw_e T_ok (by kernel_rfl) 7 [[], [0], [0, 1], [0, 1, 2], [], [4], [4, 5], [0, 1, 2, 3, 4, 5, 6], [0, 1, 2, 3, 4, 5, 6, 7], [0, 1, 2, 3, 4, 5, 6, 7, 8], [0, 1, 2, 3, 4, 5, 6, 7, 8, 9]] [] (by decide) (by decide) (by decide) fun K hK => ?_
         first | dsimp only [List.take, List.drop] | dsimp [List.take, List.drop]
         simp [go_sem, insC, nn50, mm50, nn0, mm0, nn1, mm1, mV_112 hq, mV_pc hq hi, mV_wait hq hi, hp, nn50, mm50, nn0, mm0, nn1, mm1, hd, hd8, hdI, hsk, hskp, putT_pc hq hi]
         repeat refine ⟨by omega, ?_⟩
         have hls : lstT x i q = q.set (i * 26) ((p : Int) + x.skip) := by unfold lstT; rw [if_neg h1, if_neg h2, if_pos hb, hp]
         refine hK _ ?_; clear hK K
         refine ⟨(), hns, ?_⟩
         refine Weaker.fzk 1 0 (by omega) ?_ ?_ ?_
         ·simp [go_sem, hls, nn50, mm50, nn0, mm0, nn1, mm1]
         ·first | (simp; done) | (simp; omega)
         ·simp [go_sem, hls, nn50, mm50, nn0, mm0, nn1, mm1]
        ·have hb : brT q i x = false := by simpa [brT, h3I, int_beq, decide_eq_decide] using h
         have hls : lstT x i q = q := by unfold lstT; rw [if_neg h1, if_neg h2, hb]; rfl
         refine tr_skip ?_
         refine ⟨(), hns, ?_⟩
         refine Weaker.fzk 1 0 (by omega) ?_ ?_ ?_
         ·simp [go_sem, hls, nn50, mm50, nn0, mm0, nn1, mm1]
         ·first | (simp; done) | (simp; omega)
         ·simp [go_sem, hls, nn50, mm50, nn0, mm0, nn1, mm1]
       ·have h3I : ¬ 15 < x.op := by omega
        simp [go_sem, h3I, insC, nn50, mm50, nn0, mm0, nn1, mm1, mV_112 hq, mV_pc hq hi, mV_wait hq hi, hp, nn50, mm50, nn0, mm0, nn1, mm1, hd, hd8, hdI]
        refine hK _ ?_; clear hK K
        refine cond_k rfl (fun h => ?_) (fun h => ?_)
        ·simp at h
        ·clear h
         have hb : brT q i x = false := by simp [brT, h3I]
         have hls : lstT x i q = q := by unfold lstT; rw [if_neg h1, if_neg h2, hb]; rfl
         refine tr_skip ?_
         refine ⟨(), hns, ?_⟩
         refine Weaker.fzk 1 0 (by omega) ?_ ?_ ?_
         ·simp [go_sem, hls, nn50, mm50, nn0, mm0, nn1, mm1]
         ·first | (simp; done) | (simp; omega)
         ·simp [go_sem, hls, nn50, mm50, nn0, mm0, nn1, mm1]
   ·simp [go_sem, hm, insC, nn50, mm50, nn0, mm0, nn1, mm1]
    refine call_pf (drains_pf x hok.fence) ?_
    simp [go_sem, hm, hd2, insC, nn50, mm50, nn0, mm0, nn1, mm1, mV_112 hq, mV_pc hq hi, mV_wait hq hi, hp, nn50, mm50, nn0, mm0, nn1, mm1]
    repeat refine ⟨by omega, ?_⟩
    refine hK _ ?_; clear hK K
    refine cond_k rfl (fun h => ?_) (fun h => ?_)
    ·have hs : stopT x i q = true := by simpa [stopT, hm, hd2] using h
     refine Tr.weaken (Weaker.del j) ?_
     refine tr_ret ⟨.inr rfl, ?_⟩
     have hq9 : locT l i (e + 1) q = q := by rw [locT, hp, Int.toNat_natCast, hg]; simp only [hs, if_true]
     rw [← hlt, hq9]
     simp [go_sem, Sl.del, nn50, mm50, nn0, mm0, nn1, mm1]
    ·have hns : stopT x i q = false := by simpa [stopT, hm, hd2] using h
     refine region_k T_ok (by decide) fun K hK => ?_
     simp [go_sem, insC, nn50, mm50, nn0, mm0, nn1, mm1]
     refine hK _ ?_; clear hK K
     refine cond_k rfl (fun h => ?_) (fun h => ?_)
     ·have h1 : x.op = 1 := by simpa using h
      refine draw_e T_ok (by kernel_rfl) 8 [[], [], [1], [], [3], [3, 4], [0], [0, 6], [0, 1, 2, 3, 4, 5, 6, 7], [0, 1, 2, 3, 4, 5, 6, 7, 8]] [] (by decide) (by decide) (by decide) fun K hK => ?_
      first | dsimp only [List.take, List.drop] | dsimp [List.take, List.drop]
      simp [go_sem, insC, nn50, mm50, nn0, mm0, nn1, mm1, mV_112 hq, mV_pc hq hi, mV_wait hq hi, hp, nn50, mm50, nn0, mm0, nn1, mm1, hd, hd8, hdI, putT_reg hq hi hd8]
      repeat refine ⟨by omega, ?_⟩
      have hls : lstT x i q = q.set (i * 26 + 2 + d) x.aN := by unfold lstT; rw [if_pos h1, hd]; rfl
      refine hK _ ?_; clear hK K
      refine ⟨(), hns, ?_⟩
      refine Weaker.fzk 1 0 (by omega) ?_ ?_ ?_
      ·simp [go_sem, hls, nn50, mm50, nn0, mm0, nn1, mm1]
      ·first | (simp; done) | (simp; omega)
      ·simp [go_sem, hls, nn50, mm50, nn0, mm0, nn1, mm1]
     ·have h1 : ¬ x.op = 1 := by simpa using h
      refine region_k T_ok (by decide) fun K hK => ?_
      simp [go_sem, insC, nn50, mm50, nn0, mm0, nn1, mm1]
      refine hK _ ?_; clear hK K
      refine cond_k rfl (fun h => ?_) (fun h => ?_)
      ·have h2 : x.op < 9 := by simpa using h
       refine draw_e T_ok (by kernel_rfl) 16 [[], [], [1], [], [3], [], [], [6], [5, 6, 7], [], [], [10], [5, 6, 7, 8, 9, 10, 11], [3, 4, 5, 6, 7, 8, 9, 10, 11, 12], [0], [0, 14], [0, 1, 2, 3, 4, 5, 6, 7, 8, 9, 10, 11, 12, 13, 14, 15], [0, 1, 2, 3, 4, 5, 6, 7, 8, 9, 10, 11, 12, 13, 14, 15, 16]] [] (by decide) (by decide) (by decide) fun K hK => ?_
       first | dsimp only [List.take, List.drop] | dsimp [List.take, List.drop]
       simp [go_sem, insC, nn50, mm50, nn0, mm0, nn1, mm1, mV_112 hq, mV_pc hq hi, mV_wait hq hi, hp, nn50, mm50, nn0, mm0, nn1, mm1, hd, hd8, hdI]
       refine callD_lend (targ_pf q hq i hi x.aR x.aN hok.a) 1 (by simp [go_sem, mV_frz, nn50, mm50, nn0, mm0, nn1, mm1]) ?_
       simp [go_sem, insC, nn50, mm50, nn0, mm0, nn1, mm1, mV_112 hq, mV_pc hq hi, mV_wait hq hi, hp, nn50, mm50, nn0, mm0, nn1, mm1, hd, hd8, hdI]
       refine callD_lend (targ_pf q hq i hi x.bR x.bN hok.b) 1 (by simp [go_sem, mV_frz, nn50, mm50, nn0, mm0, nn1, mm1]) ?_
       simp [go_sem, insC, nn50, mm50, nn0, mm0, nn1, mm1, mV_112 hq, mV_pc hq hi, mV_wait hq hi, hp, nn50, mm50, nn0, mm0, nn1, mm1, hd, hd8, hdI]
       refine callD_of (reckon_pf x.op _ _) ?_
       simp [go_sem, putT_reg hq hi hd8, insC, nn50, mm50, nn0, mm0, nn1, mm1, mV_112 hq, mV_pc hq hi, mV_wait hq hi, hp, nn50, mm50, nn0, mm0, nn1, mm1, hd, hd8, hdI]
       repeat refine ⟨by omega, ?_⟩
       have hls : lstT x i q = q.set (i * 26 + 2 + d) (reck x.op (aArg q i x.aR x.aN) (aArg q i x.bR x.bN)) := by unfold lstT; rw [if_neg h1, if_pos h2, hd]; rfl
       refine hK _ ?_; clear hK K
       refine ⟨(), hns, ?_⟩
       refine Weaker.fzk 1 0 (by omega) ?_ ?_ ?_
       ·simp [go_sem, hls, nn50, mm50, nn0, mm0, nn1, mm1]
       ·first | (simp; done) | (simp; omega)
       ·simp [go_sem, hls, nn50, mm50, nn0, mm0, nn1, mm1]
      ·have h2 : ¬ x.op < 9 := by simpa using h
       refine draw_k T_ok (by kernel_rfl) 16 [[], [0], [0, 1], [0, 1, 2], [0, 1, 2, 3], [0, 1, 2, 3], [0, 1, 2, 3, 5], [0, 1, 2, 3, 4, 5, 6], [0, 1, 2, 3], [0, 1, 2, 3], [0, 1, 2, 3, 9], [0, 1, 2, 3, 4, 5, 6, 7, 8, 9, 10], [0, 1, 2, 3, 4, 5, 6, 7, 8, 9, 10, 11], [0, 1, 2, 3], [0, 1, 2, 3, 13], [0, 1, 2, 3, 13, 14], [0, 1, 2, 3, 4, 5, 6, 7, 8, 9, 10, 11, 12, 13, 14, 15], [0, 1, 2, 3, 4, 5, 6, 7, 8, 9, 10, 11, 12, 13, 14, 15, 16], [0, 1, 2, 3, 4, 5, 6, 7, 8, 9, 10, 11, 12, 13, 14, 15, 16, 17]] [] (by decide) (by decide) (by decide) fun K hK => ?_
       first | dsimp only [List.take, List.drop] | dsimp [List.take, List.drop]
       rcases Nat.lt_or_ge 15 x.op.toNat with h3 | h3
       ·have h3I : 15 < x.op := by omega
        simp [go_sem, h3I, insC, nn50, mm50, nn0, mm0, nn1, mm1, mV_112 hq, mV_pc hq hi, mV_wait hq hi, hp, nn50, mm50, nn0, mm0, nn1, mm1, hd, hd8, hdI]
        refine callD_lend (targ_pf q hq i hi x.aR x.aN hok.a) 1 (by simp [go_sem, mV_frz, nn50, mm50, nn0, mm0, nn1, mm1]) ?_
        simp [go_sem, h3I, insC, nn50, mm50, nn0, mm0, nn1, mm1, mV_112 hq, mV_pc hq hi, mV_wait hq hi, hp, nn50, mm50, nn0, mm0, nn1, mm1, hd, hd8, hdI]
        refine callD_lend (targ_pf q hq i hi x.bR x.bN hok.b) 1 (by simp [go_sem, mV_frz, nn50, mm50, nn0, mm0, nn1, mm1]) ?_
        simp [go_sem, h3I, insC, nn50, mm50, nn0, mm0, nn1, mm1, mV_112 hq, mV_pc hq hi, mV_wait hq hi, hp, nn50, mm50, nn0, mm0, nn1, mm1, hd, hd8, hdI]
        refine hK _ ?_; clear hK K
        refine cond_k rfl (fun h => ?_) (fun h => ?_)
        ·have hb : brT q i x = true := by simpa [brT, h3I, int_beq, decide_eq_decide] using h
         have hs1 := hok.skip
         have hs0 := hok.skip0
         have hsk : IntKind.i8.wrap x.skip = x.skip := wrap_i8 (by omega) (by omega)
         have hskp : IntKind.i8.wrap ((p : Int) + x.skip) = (p : Int) + x.skip := wrap_i8 (by omega) (by omega)
         refine draw_e T_ok (by kernel_rfl) 7 [[], [0], [0, 1], [0, 1, 2], [], [4], [4, 5], [0, 1, 2, 3, 4, 5, 6], [0, 1, 2, 3, 4, 5, 6, 7], [0, 1, 2, 3, 4, 5, 6, 7, 8], [0, 1, 2, 3, 4, 5, 6, 7, 8, 9]] [] (by decide) (by decide) (by decide) fun K hK => ?_
         first | dsimp only [List.take, List.drop] | dsimp [List.take, List.drop]
         simp [go_sem, insC, nn50, mm50, nn0, mm0, nn1, mm1, mV_112 hq, mV_pc hq hi, mV_wait hq hi, hp, nn50, mm50, nn0, mm0, nn1, mm1, hd, hd8, hdI, hsk, hskp, putT_pc hq hi]
         repeat refine ⟨by omega, ?_⟩
         have hls : lstT x i q = q.set (i * 26) ((p : Int) + x.skip) := by unfold lstT; rw [if_neg h1, if_neg h2, if_pos hb, hp]
         refine hK _ ?_; clear hK K
         refine ⟨(), hns, ?_⟩
         refine Weaker.fzk 1 0 (by omega) ?_ ?_ ?_
         ·simp [go_sem, hls, nn50, mm50, nn0, mm0, nn1, mm1]
         ·first | (simp; done) | (simp; omega)
         ·simp [go_sem, hls, nn50, mm50, nn0, mm0, nn1, mm1]
        ·have hb : brT q i x = false := by simpa [brT, h3I, int_beq, decide_eq_decide] using h
         have hls : lstT x i q = q := by unfold lstT; rw [if_neg h1, if_neg h2, hb]; rfl
         refine tr_skip ?_
         refine ⟨(), hns, ?_⟩
         refine Weaker.fzk 1 0 (by omega) ?_ ?_ ?_
         ·simp [go_sem, hls, nn50, mm50, nn0, mm0, nn1, mm1]
         ·first | (simp; done) | (simp; omega)
         ·simp [go_sem, hls, nn50, mm50, nn0, mm0, nn1, mm1]
       ·have h3I : ¬ 15 < x.op := by omega
        simp [go_sem, h3I, insC, nn50, mm50, nn0, mm0, nn1, mm1, mV_112 hq, mV_pc hq hi, mV_wait hq hi, hp, nn50, mm50, nn0, mm0, nn1, mm1, hd, hd8, hdI]
        refine hK _ ?_; clear hK K
        refine cond_k rfl (fun h => ?_) (fun h => ?_)
        ·simp at h
        ·clear h
         have hb : brT q i x = false := by simp [brT, h3I]
         have hls : lstT x i q = q := by unfold lstT; rw [if_neg h1, if_neg h2, hb]; rfl
         refine tr_skip ?_
         refine ⟨(), hns, ?_⟩
         refine Weaker.fzk 1 0 (by omega) ?_ ?_ ?_
         ·simp [go_sem, hls, nn50, mm50, nn0, mm0, nn1, mm1]
         ·first | (simp; done) | (simp; omega)
         ·simp [go_sem, hls, nn50, mm50, nn0, mm0, nn1, mm1]
  ·rintro u hns
   obtain ⟨p', hp2, hpp, hpl2, hq3⟩ := step_pc hq hi hp hok
   have hq2 : (lstT x i q).length = 112 := (lstT_len x i q).trans hq
   have hwp : IntKind.i8.wrap ((p' : Int) + 1) = (p' : Int) + 1 := wrap_i8 (by omega) (by omega)
   have hinc : (lstT x i q).set (i * 26) ((p' : Int) + 1) = incT (lstT x i q) i := by unfold incT; rw [hp2]
   refine region_e T_ok (by decide) fun K hK => ?_
   simp [go_sem, mV_112 hq2, mV_pc hq2 hi, hp2, hwp, putT_pc hq2 hi, hinc, nn50, mm50, nn0, mm0, nn1, mm1]
   repeat refine ⟨by omega, ?_⟩
   refine hK _ ?_; clear hK K
   refine ⟨(incT (lstT x i q) i, p' + 1, e, j + 200), ?_, ?_, ?_⟩
   ·dsimp only; exact ⟨by rw [incT_len, lstT_len, hq], hq3, by omega, by omega, by rw [← hlt, locT, hp, Int.toNat_natCast, hg]; simp only [hns, Bool.false_eq_true, if_false], by omega, by omega⟩
   ·dsimp only; omega
   ·refine Weaker.fzk 1 0 (by first | omega | (dsimp only; omega)) ?_ ?_ ?_
    ·simp [go_sem, nn50, mm50, nn0, mm0, nn1, mm1]
    ·first | (simp; done) | (simp; omega)
    simp [go_sem, nn50, mm50, nn0, mm0, nn1, mm1]
 ·simp at h
  have hpn : p = l.length := by omega
  clear h
  obtain ⟨e, rfl⟩ : ∃ e2, e = e2 + 1 := ⟨e - 1, by omega⟩
  refine tr_exit ?_
  refine ⟨.inl rfl, ?_⟩
  have hq9 : locT l i (e + 1) q = q := by rw [locT, hp, Int.toNat_natCast, List.getElem?_eq_none (by omega)]
  rw [← hlt, hq9]
  simp [go_sem, nn50, mm50, nn0, mm0, nn1, mm1]
open Go Go.Sl Go.Proofs.Try
theorem lookB_U (k : List Int) (i : Nat) (loc : Int) : ∀ n, lookB k i loc n = lookU k i loc n
 | 0 => rfl
 | n + 1 => by rw [lookB, lookU, lookB_U k i loc n]
set_option maxHeartbeats 8000000 in
set_option maxRecDepth 100000 in
theorem step_fn (t : Tst) (i : Nat) (hi : i < 4) (l : List Ins) (hx : t.ths[i]? = some l) (hl : ThrOk l) (q : List Int) (hq : q.length = 112) (p : Nat) (hp : gt q (i * 26) = (p : Nat)) (hpl : p ≤ l.length) (w : Nat) (hw : gt q (i * 26 + 1) = (w : Nat)) (hwp : w ≤ p) (hlo : ∀ s, s < 8 → 0 ≤ gt q (i * 26 + 10 + s * 2) ∧ gt q (i * 26 + 10 + s * 2) < 8) (r n : Nat) (hr : r ≠ 2) (hrn : r < n) (h2n : 2 < n) : Sl.Fn Try.prog 119 [.ptr 2 0 0, .ptr r 0 0, iV (i : Nat)] [(2, .rows 3 [.agg [.rp t.cs 0, .map 0, .map 1]]), (r, .rows 112 [.agg (mV q)])] n fun v H _ => v = bV (mstepT l i q).isSome ∧ H = [(2, .rows 3 [.agg [.rp t.cs 0, .map 0, .map 1]]), (r, .rows 112 [.agg (mV ((mstepT l i q).getD q))])] := by
 have nn50 : ¬ r = 2 := by omega
 have mm50 : ¬ 2 = r := by omega
 have hil : i < t.ths.length := (List.getElem?_eq_some_iff.1 hx).1
 have hiI : (i : Int) < (t.ths.length : Nat) := by omega
 have hi0 : (0 : Int) ≤ (i : Nat) := by omega
 have hiI4 : (i : Int) < 4 := by omega
 have hx' : t.ths[i] = l := (List.getElem?_eq_some_iff.1 hx).2
 have hl8 := hl.1
 have hw64 : IntKind.i64.wrap (p : Nat) = (p : Nat) := wrap_i64 (by omega) (by omega)
 have hlos := hlo
 clear hlo
 have hwI : (w : Int) < 9 := by omega
 refine fn_in T_ok func119 rfl rfl ntmps119 rfl (by simp) ?_
 refine region_k T_ok (by decide) fun K hK => ?_
 simp [go_sem]
 refine hK _ ?_; clear hK K
 refine region_k T_ok (by decide) fun K hK => ?_
 simp [go_sem, hiI4, hi, hi0, nn50, mm50]
 refine hK _ ?_; clear hK K
 refine seq_k fun K1 hK1 => ?_
 refine draw_k T_ok (by kernel_rfl) 16 [[], [0], [0, 1], [0, 1, 2], [0, 1, 2, 3], [], [5], [5, 6], [5, 6, 7], [5, 6, 7, 8], [5, 6, 7, 8, 9], [5, 6, 7, 8, 9, 10], [], [5, 6, 7, 8, 9, 10, 11, 12], [5, 6, 7, 8, 9, 10, 11, 12, 13], [5, 6, 7, 8, 9, 10, 11, 12, 13, 14], [0, 1, 2, 3, 4, 5, 6, 7, 8, 9, 10, 11, 12, 13, 14, 15]] [] (by decide) (by decide) (by decide) fun K hK => ?_
 first | dsimp only [List.take, List.drop] | dsimp [List.take, List.drop]
 simp [go_sem, hiI, hil, hx, hx', Tst.cs, mV_112 hq, mV_pc hq hi, hp, hw64, hiI4, hi, hi0, nn50, mm50]
 repeat refine ⟨by omega, ?_⟩
 refine hK _ ?_; clear hK K
 refine cond_k rfl (fun h => ?_) (fun h => ?_)
 ·simp at h
  have hpn : p = l.length := by omega
  clear h
  have hst : mstepT l i q = none := by unfold mstepT; rw [hp, Int.toNat_natCast, List.getElem?_eq_none (by omega)]
  refine region_k T_ok (by decide) fun K hK => ?_
  simp [go_sem]
  refine hK _ ?_; clear hK K
  refine tr_ret ⟨.inr rfl, ?_⟩
  simp [go_sem, hst, Tst.cs, nn50, mm50]
 ·simp at h
  have hpI : (p : Int) < (l.length : Nat) := by omega
  have hpn : p < l.length := by omega
  clear h
  obtain ⟨x, hg, hg'⟩ := getAt hpn
  have hok := hl.2 p x hg
  obtain ⟨d, hd⟩ : ∃ d : Nat, x.rd = d := ⟨x.rd.toNat, by have := hok.rd0; omega⟩
  have hd8 : d < 8 := by have := hok.rd8; omega
  have hdI : (d : Int) < 8 := by omega
  have hp00 : (0 : Int) ≤ (p : Nat) := by omega
  refine tr_skip ?_
  refine hK1 _ ?_; try clear hK1 K1
  have nn20 : ¬ r = n + 32 := by omega
  have mm20 : ¬ n + 32 = r := by omega
  have nn21 : ¬ 2 = n + 32 := by omega
  have mm21 : ¬ n + 32 = 2 := by omega
  refine draw_to T_ok (by kernel_rfl) 17 [[], [0], [0, 1], [0, 1, 2], [0, 1, 2, 3], [0, 1, 2, 3, 4], [0, 1, 2, 3, 4, 5], [], [0, 1, 2, 3, 4, 5, 6, 7], [0, 1, 2, 3, 4, 5, 6, 7, 8], [], [10], [10, 11], [10, 11, 12], [0, 1, 2, 3, 4, 5, 6, 7, 8, 9, 10, 11, 12, 13], [0, 1, 2, 3, 4, 5, 6, 7, 8, 9, 10, 11, 12, 13, 14], [], [0, 1, 2, 3, 4, 5, 6, 7, 8, 9, 10, 11, 12, 13, 14, 15, 16]] [(0, 16), (1, 16), (2, 16), (3, 16), (4, 16), (5, 16), (6, 16), (7, 16), (8, 16), (9, 16), (10, 16), (11, 16), (12, 16), (13, 16), (14, 16), (15, 16)] (by decide) (by decide) (by decide) ⟨139, [(0, .ptr 2 0 0), (1, .ptr r 0 0), (2, iV (i : Nat)), (7, .ptr r 0 (i * 26)), (8, .ptr (n + 32) 0 0)], [(n + 32, .rows 13 [insC x]), (2, .rows 3 [.agg [.rp t.cs 0, .map 0, .map 1]]), (r, .rows 112 [.agg (mV q)])], n + 32 + 1⟩ ?_ ?_
  ·first | dsimp only [List.take, List.drop] | dsimp [List.take, List.drop]
   simp [go_sem, hiI, hil, hx, hx', Tst.cs, hpI, hp00, hpn, hg, hg', mV_112 hq, mV_pc hq hi, hp, hi0, insC, len_ins, fits_ins, nn50, mm50, nn20, mm20, nn21, mm21]
   repeat refine ⟨by omega, ?_⟩
   refine Weaker.fz 1 0 ?_ ?_ ?_
   ·simp [go_sem, insC, Tst.cs, nn50, mm50, nn20, mm20, nn21, mm21]
   ·first | (simp; done) | (simp; omega)
   ·simp [go_sem, insC, Tst.cs, nn50, mm50, nn20, mm20, nn21, mm21]
  ·generalize hj : n + 32 = j
   have hjr : r < j := by omega
   have hj2 : 2 < j := by omega
   have nn0 : ¬ r = j := by omega
   have mm0 : ¬ j = r := by omega
   have nn1 : ¬ 2 = j := by omega
   have mm1 : ¬ j = 2 := by omega
   refine seq_ex (fun k1 : List Int => ⟨139, [(0, .ptr 2 0 0), (1, .ptr r 0 0), (2, iV (i : Nat)), (7, .ptr r 0 (i * 26))], [(2, .rows 3 [.agg [.rp t.cs 0, .map 0, .map 1]]), (r, .rows 112 [.agg (mV k1)])], j + 200⟩) (fun k1 : List Int => mopT x i q = some k1) ?_ ?_
   ·skip
    refine region_k T_ok (by decide) fun K hK => ?_
    simp [go_sem, insC, nn50, mm50, nn0, mm0, nn1, mm1]
    refine hK _ ?_; clear hK K
    refine tr_block ?_
    refine region_k T_ok (by decide) fun K hK => ?_
    simp [go_sem, insC, nn50, mm50, nn0, mm0, nn1, mm1]
    refine hK _ ?_; clear hK K
    refine cond_k rfl (fun h => ?_) (fun h => ?_)
    ·have h1 : x.op = 9 := by simpa using h
     have hlc := hok.loc (by simp [memB, rdB, wrB, h1])
     obtain ⟨y, hlo⟩ : ∃ y : Nat, x.loc = y := ⟨x.loc.toNat, by omega⟩
     have hlo8 : y < 8 := by omega
     have hloI : (y : Int) < 8 := by omega
     refine draw_e T_ok (by kernel_rfl) 10 [[], [], [1], [], [], [], [5], [3, 4, 5, 6], [0], [0, 8], [0, 1, 2, 3, 4, 5, 6, 7, 8, 9], [0, 1, 2, 3, 4, 5, 6, 7, 8, 9, 10]] [] (by decide) (by decide) (by decide) fun K hK => ?_
     first | dsimp only [List.take, List.drop] | dsimp [List.take, List.drop]
     simp [go_sem, insC, nn50, mm50, nn0, mm0, nn1, mm1, mV_112 hq, mV_pc hq hi, mV_wait hq hi, hp, hd, hd8, hdI, hw, hwI, hiI4, hi, hi0, hw64, nn50, mm50, nn0, mm0, nn1, mm1, hlo, hlo8, hloI, mV_mem hq hlo8]
     refine callD_lend (look_pf q hq i hi w hw (by omega) hlos y hlo8) 1 (by simp [go_sem, mV_frz, nn50, mm50, nn0, mm0, nn1, mm1]) ?_
     simp [go_sem, putT_reg hq hi hd8, insC, nn50, mm50, nn0, mm0, nn1, mm1, mV_112 hq, mV_pc hq hi, mV_wait hq hi, hp, hd, hd8, hdI, hw, hwI, hiI4, hi, hi0, hw64, nn50, mm50, nn0, mm0, nn1, mm1]
     repeat refine ⟨by omega, ?_⟩
     have hop : mopT x i q = some (q.set (i * 26 + 2 + d) (lookB q i (y : Nat) w)) := by unfold mopT; rw [if_pos h1, hd, hw, hlo, lookB_U]; rfl
     refine hK _ ?_; clear hK K
     refine ⟨_, hop, ?_⟩
     refine Weaker.fzk 1 0 (by omega) ?_ ?_ ?_
     ·simp [go_sem, nn50, mm50, nn0, mm0, nn1, mm1]
     ·first | (simp; done) | (simp; omega)
     ·simp [go_sem, nn50, mm50, nn0, mm0, nn1, mm1]
    ·have h1 : ¬ x.op = 9 := by simpa using h
     refine region_k T_ok (by decide) fun K hK => ?_
     simp [go_sem, insC, nn50, mm50, nn0, mm0, nn1, mm1]
     refine hK _ ?_; clear hK K
     refine cond_k rfl (fun h => ?_) (fun h => ?_)
     ·have h2 : x.op = 10 := by simpa using h
      have hlc := hok.loc (by simp [memB, rdB, wrB, h2])
      obtain ⟨y, hlo⟩ : ∃ y : Nat, x.loc = y := ⟨x.loc.toNat, by omega⟩
      have hlo8 : y < 8 := by omega
      have hloI : (y : Int) < 8 := by omega
      have hws : w < 8 := by omega
      have hw8 : (w : Int) < 8 := by omega
      have hlw : IntKind.i8.wrap (y : Nat) = (y : Nat) := wrap_i8 (by omega) (by omega)
      refine draw_k T_ok (by kernel_rfl) 15 [[], [], [1], [1, 2], [1, 2, 3], [], [5], [5, 6], [], [], [9], [8, 9, 10], [5, 6, 7, 8, 9, 10, 11], [0], [0, 13], [0, 1, 2, 3, 4, 5, 6, 7, 8, 9, 10, 11, 12, 13, 14], [0, 1, 2, 3, 4, 5, 6, 7, 8, 9, 10, 11, 12, 13, 14, 15]] [] (by decide) (by decide) (by decide) fun K hK => ?_
      first | dsimp only [List.take, List.drop] | dsimp [List.take, List.drop]
      simp [go_sem, insC, nn50, mm50, nn0, mm0, nn1, mm1, mV_112 hq, mV_pc hq hi, mV_wait hq hi, hp, hd, hd8, hdI, hw, hwI, hiI4, hi, hi0, hw64, nn50, mm50, nn0, mm0, nn1, mm1, hlo, hlo8, hloI, mV_mem hq hlo8, hw8]
      repeat refine ⟨by omega, ?_⟩
      refine callD_lend (targ_pf q hq i hi x.aR x.aN hok.a) 1 (by simp [go_sem, mV_frz, nn50, mm50, nn0, mm0, nn1, mm1]) ?_
      simp [go_sem, hw8, hloI, hlo8, hlo, hlw, putT_ent hq hi hws, putT_wait, insC, nn50, mm50, nn0, mm0, nn1, mm1, mV_112 hq, mV_pc hq hi, mV_wait hq hi, hp, hd, hd8, hdI, hw, hwI, hiI4, hi, hi0, hw64, nn50, mm50, nn0, mm0, nn1, mm1]
      repeat refine ⟨by omega, ?_⟩
      generalize hq1e : (q.set (i * 26 + 10 + w * 2) (y : Nat)).set (i * 26 + 10 + w * 2 + 1) (aArg q i x.aR x.aN) = q1
      have hq1 : q1.length = 112 := by rw [← hq1e]; simp [hq]
      have hw1 : gt q1 (i * 26 + 1) = (w : Nat) := by rw [← hq1e, gt_ne (by omega), gt_ne (by omega), hw]
      have hwi : IntKind.i8.wrap ((w : Int) + 1) = (w : Int) + 1 := wrap_i8 (by omega) (by omega)
      refine hK _ ?_; clear hK K
      refine region_e T_ok (by decide) fun K hK => ?_
      simp [go_sem, mV_112 hq1, mV_wait hq1 hi, hw1, hwi, putT_wait hq1 hi, nn50, mm50, nn0, mm0, nn1, mm1]
      repeat refine ⟨by omega, ?_⟩
      have hop : mopT x i q = some (q1.set (i * 26 + 1) ((w : Int) + 1)) := by
       unfold mopT
       rw [if_neg h1, if_pos h2, hw, Int.toNat_natCast, hlo, hq1e]
      refine hK _ ?_; clear hK K
      refine ⟨_, hop, ?_⟩
      refine Weaker.fzk 1 0 (by omega) ?_ ?_ ?_
      ·simp [go_sem, nn50, mm50, nn0, mm0, nn1, mm1]
      ·first | (simp; done) | (simp; omega)
      ·simp [go_sem, nn50, mm50, nn0, mm0, nn1, mm1]
     ·have h2 : ¬ x.op = 10 := by simpa using h
      refine seq_k fun K2 hK2 => ?_
      refine region_k T_ok (by decide) fun K hK => ?_
      simp [go_sem, insC, nn50, mm50, nn0, mm0, nn1, mm1]
      refine hK _ ?_; clear hK K
      refine cond_k rfl (fun h => ?_) (fun h => ?_)
      ·have h3 : x.op = 11 := by simpa using h
       refine tr_skip ?_
       refine hK2 _ ?_; try clear hK2 K2
       refine cond_k rfl (fun h => ?_) (fun h => ?_)
       ·clear h
        have hlc := hok.loc (by simp [memB, rdB, wrB, h3])
        obtain ⟨y, hlo⟩ : ∃ y : Nat, x.loc = y := ⟨x.loc.toNat, by omega⟩
        have hlo8 : y < 8 := by omega
        have hloI : (y : Int) < 8 := by omega
        refine seq_k fun K3 hK3 => ?_
        refine region_k T_ok (by decide) fun K hK => ?_
        simp [go_sem, insC, nn50, mm50, nn0, mm0, nn1, mm1, mV_112 hq, mV_pc hq hi, mV_wait hq hi, hp, hd, hd8, hdI, hw, hwI, hiI4, hi, hi0, hw64, nn50, mm50, nn0, mm0, nn1, mm1]
        repeat refine ⟨by omega, ?_⟩
        refine hK _ ?_; clear hK K
        refine cond_k rfl (fun h => ?_) (fun h => ?_)
        ·have hw0 : 0 < w := by simpa using h
         refine region_k T_ok (by decide) fun K hK => ?_
         simp [go_sem]
         refine hK _ ?_; clear hK K
         refine Tr.weaken (Weaker.del j) ?_
         have hst : mstepT l i q = none := by unfold mstepT; rw [hp, Int.toNat_natCast, hg]; simp [mopT, h3, hw, hw0]
         refine tr_ret ⟨.inr rfl, ?_⟩
         simp [go_sem, hst, Sl.del, nn50, mm50, nn0, mm0, nn1, mm1]
        ·have hw0 : w = 0 := by simpa using h
         refine tr_skip ?_
         refine hK3 _ ?_; try clear hK3 K3
         refine draw_k T_ok (by kernel_rfl) 11 [[], [], [1], [0], [0, 3], [0, 1, 2, 3, 4], [0, 1, 2, 3, 4, 5], [], [], [8], [7, 8, 9], [0, 1, 2, 3, 4, 5, 6, 7, 8, 9, 10], [0, 1, 2, 3, 4, 5, 6, 7, 8, 9, 10, 11]] [] (by decide) (by decide) (by decide) fun K hK => ?_
         first | dsimp only [List.take, List.drop] | dsimp [List.take, List.drop]
         simp [go_sem, insC, nn50, mm50, nn0, mm0, nn1, mm1, mV_112 hq, mV_pc hq hi, mV_wait hq hi, hp, hd, hd8, hdI, hw, hwI, hiI4, hi, hi0, hw64, nn50, mm50, nn0, mm0, nn1, mm1, hlo, hlo8, hloI, mV_mem hq hlo8]
         repeat refine ⟨by omega, ?_⟩
         refine callD_lend (targ_pf q hq i hi x.aR x.aN hok.a) 1 (by simp [go_sem, mV_frz, nn50, mm50, nn0, mm0, nn1, mm1]) ?_
         simp [go_sem, insC, nn50, mm50, nn0, mm0, nn1, mm1, mV_112 hq, mV_pc hq hi, mV_wait hq hi, hp, hd, hd8, hdI, hw, hwI, hiI4, hi, hi0, hw64, nn50, mm50, nn0, mm0, nn1, mm1, hlo, hlo8, hloI, mV_mem hq hlo8]
         repeat refine ⟨by omega, ?_⟩
         refine hK _ ?_; clear hK K
         refine seq_k fun K4 hK4 => ?_
         refine region_k T_ok (by decide) fun K hK => ?_
         simp [go_sem, insC, nn50, mm50, nn0, mm0, nn1, mm1]
         refine hK _ ?_; clear hK K
         refine cond_k rfl (fun h => ?_) (fun h => ?_)
         ·simp [h3] at h
         ·clear h
          refine tr_skip ?_
          refine hK4 _ ?_; try clear hK4 K4
          refine draw_k T_ok (by kernel_rfl) 6 [[], [], [1], [], [0], [0, 4], [0, 1, 2, 3, 4, 5], [0, 1, 2, 3, 4, 5, 6]] [] (by decide) (by decide) (by decide) fun K hK => ?_
          first | dsimp only [List.take, List.drop] | dsimp [List.take, List.drop]
          simp [go_sem, insC, nn50, mm50, nn0, mm0, nn1, mm1, mV_112 hq, mV_pc hq hi, mV_wait hq hi, hp, hd, hd8, hdI, hw, hwI, hiI4, hi, hi0, hw64, nn50, mm50, nn0, mm0, nn1, mm1, hlo, hlo8, hloI, mV_mem hq hlo8, putT_mem hq hlo8]
          repeat refine ⟨by omega, ?_⟩
          generalize hq4e : q.set (104 + y) (aArg q i x.aR x.aN) = q4
          have hq4 : q4.length = 112 := by rw [← hq4e, List.length_set, hq]
          refine hK _ ?_; clear hK K
          refine draw_e T_ok (by kernel_rfl) 6 [[], [], [1], [], [0], [0, 4], [0, 1, 2, 3, 4, 5], [0, 1, 2, 3, 4, 5, 6]] [] (by decide) (by decide) (by decide) fun K hK => ?_
          first | dsimp only [List.take, List.drop] | dsimp [List.take, List.drop]
          simp [go_sem, insC, nn50, mm50, nn0, mm0, nn1, mm1, hd, hd8, hdI, mV_112 hq4, putT_reg hq4 hi hd8]
          repeat refine ⟨by omega, ?_⟩
          have hop : mopT x i q = some (q4.set (i * 26 + 2 + d) (gt q (104 + y))) := by
           unfold mopT
           rw [if_neg h1, if_neg h2, if_pos (by omega), if_neg (by omega), if_neg (by omega), hd, hlo, Int.toNat_natCast, Int.toNat_natCast, hq4e]
          refine hK _ ?_; clear hK K
          refine ⟨_, hop, ?_⟩
          refine Weaker.fzk 1 0 (by omega) ?_ ?_ ?_
          ·simp [go_sem, nn50, mm50, nn0, mm0, nn1, mm1]
          ·first | (simp; done) | (simp; omega)
          ·simp [go_sem, nn50, mm50, nn0, mm0, nn1, mm1]
       ·simp [h3] at h
      ·have h3 : ¬ x.op = 11 := by simpa using h
       refine region_e T_ok (by decide) fun K hK => ?_
       simp [go_sem, insC, nn50, mm50, nn0, mm0, nn1, mm1]
       refine hK _ ?_; clear hK K
       refine hK2 _ ?_; try clear hK2 K2
       refine cond_k rfl (fun h => ?_) (fun h => ?_)
       ·have h4 : x.op = 12 := by simpa using h
        have hlc := hok.loc (by simp [memB, rdB, wrB, h4])
        obtain ⟨y, hlo⟩ : ∃ y : Nat, x.loc = y := ⟨x.loc.toNat, by omega⟩
        have hlo8 : y < 8 := by omega
        have hloI : (y : Int) < 8 := by omega
        refine seq_k fun K5 hK5 => ?_
        refine region_k T_ok (by decide) fun K hK => ?_
        simp [go_sem, insC, nn50, mm50, nn0, mm0, nn1, mm1, mV_112 hq, mV_pc hq hi, mV_wait hq hi, hp, hd, hd8, hdI, hw, hwI, hiI4, hi, hi0, hw64, nn50, mm50, nn0, mm0, nn1, mm1]
        repeat refine ⟨by omega, ?_⟩
        refine hK _ ?_; clear hK K
        refine cond_k rfl (fun h => ?_) (fun h => ?_)
        ·have hw0 : 0 < w := by simpa using h
         refine region_k T_ok (by decide) fun K hK => ?_
         simp [go_sem]
         refine hK _ ?_; clear hK K
         refine Tr.weaken (Weaker.del j) ?_
         have hst : mstepT l i q = none := by unfold mstepT; rw [hp, Int.toNat_natCast, hg]; simp [mopT, h4, hw, hw0]
         refine tr_ret ⟨.inr rfl, ?_⟩
         simp [go_sem, hst, Sl.del, nn50, mm50, nn0, mm0, nn1, mm1]
        ·have hw0 : w = 0 := by simpa using h
         refine tr_skip ?_
         refine hK5 _ ?_; try clear hK5 K5
         refine draw_k T_ok (by kernel_rfl) 11 [[], [], [1], [0], [0, 3], [0, 1, 2, 3, 4], [0, 1, 2, 3, 4, 5], [], [], [8], [7, 8, 9], [0, 1, 2, 3, 4, 5, 6, 7, 8, 9, 10], [0, 1, 2, 3, 4, 5, 6, 7, 8, 9, 10, 11]] [] (by decide) (by decide) (by decide) fun K hK => ?_
         first | dsimp only [List.take, List.drop] | dsimp [List.take, List.drop]
         simp [go_sem, insC, nn50, mm50, nn0, mm0, nn1, mm1, mV_112 hq, mV_pc hq hi, mV_wait hq hi, hp, hd, hd8, hdI, hw, hwI, hiI4, hi, hi0, hw64, nn50, mm50, nn0, mm0, nn1, mm1, hlo, hlo8, hloI, mV_mem hq hlo8]
         repeat refine ⟨by omega, ?_⟩
         refine callD_lend (targ_pf q hq i hi x.aR x.aN hok.a) 1 (by simp [go_sem, mV_frz, nn50, mm50, nn0, mm0, nn1, mm1]) ?_
         simp [go_sem, insC, nn50, mm50, nn0, mm0, nn1, mm1, mV_112 hq, mV_pc hq hi, mV_wait hq hi, hp, hd, hd8, hdI, hw, hwI, hiI4, hi, hi0, hw64, nn50, mm50, nn0, mm0, nn1, mm1, hlo, hlo8, hloI, mV_mem hq hlo8]
         repeat refine ⟨by omega, ?_⟩
         refine hK _ ?_; clear hK K
         refine seq_k fun K6 hK6 => ?_
         refine region_k T_ok (by decide) fun K hK => ?_
         simp [go_sem, insC, nn50, mm50, nn0, mm0, nn1, mm1]
         refine hK _ ?_; clear hK K
         refine cond_k rfl (fun h => ?_) (fun h => ?_)
         ·clear h
          refine region_e T_ok (by decide) fun K hK => ?_
          simp [go_sem]
          refine hK _ ?_; clear hK K
          refine hK6 _ ?_; try clear hK6 K6
          refine draw_k T_ok (by kernel_rfl) 6 [[], [], [1], [], [0], [0, 4], [0, 1, 2, 3, 4, 5], [0, 1, 2, 3, 4, 5, 6]] [] (by decide) (by decide) (by decide) fun K hK => ?_
          first | dsimp only [List.take, List.drop] | dsimp [List.take, List.drop]
          simp [go_sem, insC, nn50, mm50, nn0, mm0, nn1, mm1, mV_112 hq, mV_pc hq hi, mV_wait hq hi, hp, hd, hd8, hdI, hw, hwI, hiI4, hi, hi0, hw64, nn50, mm50, nn0, mm0, nn1, mm1, hlo, hlo8, hloI, mV_mem hq hlo8, putT_mem hq hlo8]
          repeat refine ⟨by omega, ?_⟩
          generalize hq4e : q.set (104 + y) (IntKind.u64.wrap (aArg q i x.aR x.aN + gt q (104 + y))) = q4
          have hq4 : q4.length = 112 := by rw [← hq4e, List.length_set, hq]
          refine hK _ ?_; clear hK K
          refine draw_e T_ok (by kernel_rfl) 6 [[], [], [1], [], [0], [0, 4], [0, 1, 2, 3, 4, 5], [0, 1, 2, 3, 4, 5, 6]] [] (by decide) (by decide) (by decide) fun K hK => ?_
          first | dsimp only [List.take, List.drop] | dsimp [List.take, List.drop]
          simp [go_sem, insC, nn50, mm50, nn0, mm0, nn1, mm1, hd, hd8, hdI, mV_112 hq4, putT_reg hq4 hi hd8]
          repeat refine ⟨by omega, ?_⟩
          have hop : mopT x i q = some (q4.set (i * 26 + 2 + d) (gt q (104 + y))) := by
           unfold mopT
           rw [if_neg h1, if_neg h2, if_pos (by omega), if_neg (by omega), if_pos h4, hd, hlo, Int.toNat_natCast, Int.toNat_natCast, hq4e]
          refine hK _ ?_; clear hK K
          refine ⟨_, hop, ?_⟩
          refine Weaker.fzk 1 0 (by omega) ?_ ?_ ?_
          ·simp [go_sem, nn50, mm50, nn0, mm0, nn1, mm1]
          ·first | (simp; done) | (simp; omega)
          ·simp [go_sem, nn50, mm50, nn0, mm0, nn1, mm1]
         ·simp [h4] at h
       ·have h4 : ¬ x.op = 12 := by simpa using h
        have hst : mstepT l i q = none := by unfold mstepT; rw [hp, Int.toNat_natCast, hg]; simp [mopT, h1, h2, h3, h4]
        refine region_k T_ok (by decide) fun K hK => ?_
        simp [go_sem]
        refine hK _ ?_; clear hK K
        refine Tr.weaken (Weaker.del j) ?_
        refine tr_ret ⟨.inr rfl, ?_⟩
        simp [go_sem, hst, Sl.del, nn50, mm50, nn0, mm0, nn1, mm1]
   ·rintro k1 hop
    have hk1 : k1.length = 112 := (mopT_len hop).trans hq
    have hp1 : gt k1 (i * 26) = (p : Nat) := (mopT_pc hi hok.rd0 (fun h => (hok.loc h).2) hop).trans hp
    have hwp1 : IntKind.i8.wrap ((p : Int) + 1) = (p : Int) + 1 := wrap_i8 (by omega) (by omega)
    have hinc : k1.set (i * 26) ((p : Int) + 1) = incT k1 i := by unfold incT; rw [hp1]
    have hk2 : (incT k1 i).length = 112 := (incT_len k1 i).trans hk1
    have hp2 : gt (incT k1 i) (i * 26) = ((p + 1 : Nat) : Int) := by unfold incT; rw [gt_same (by omega), hp1]; rfl
    have hst : mstepT l i q = some (locT l i (l.length + 1) (incT k1 i)) := by unfold mstepT; rw [hp, Int.toNat_natCast, hg]; simp only [hop, Option.map_some]
    refine region_k T_ok (by decide) fun K hK => ?_
    simp [go_sem, mV_112 hk1, mV_pc hk1 hi, hp1, hwp1, putT_pc hk1 hi, hinc, nn50, mm50]
    repeat refine ⟨by omega, ?_⟩
    refine hK _ ?_; clear hK K
    refine region_k T_ok (by decide) fun K hK => ?_
    simp [go_sem]
    refine call_own (local_fn t i hi l hx hl (incT k1 i) hk2 (p + 1) hp2 (by omega) r (j + 200) hr (by omega) (by omega)) rfl (by simp [nn50, mm50]) (by simp [go_sem, nn50, mm50]) fun k9 hk9 => ?_
    simp [go_sem, upds, nn50, mm50]
    refine hK _ ?_; clear hK K
    refine region_k T_ok (by decide) fun K hK => ?_
    simp [go_sem]
    refine hK _ ?_; clear hK K
    refine tr_ret ⟨.inr rfl, ?_⟩
    simp [go_sem, hst, nn50, mm50]
open Go Go.Sl Go.Proofs.Try
theorem hasPairs_pf (t : Tst) (ht : t.ths.length ≤ 1000) (hl : ∀ x ∈ t.ths, x.length ≤ 1000) : Pf Try.prog 65 [.rp t.cs 0] (bV (hasPairs t.ths)) := by
 refine Pf.of_fn (.cons (nl_rp t) .nil) (.val _) ?_
 refine fn_in T_ok func65 rfl rfl ntmps65 rfl (by simp) ?_
 refine region_k T_ok (by decide) fun K hK => ?_
 simp [go_sem]
 refine hK _ ?_; clear hK K
 refine seq_k fun K1 hK1 => ?_
 refine region_k T_ok (by decide) fun K hK => ?_
 simp [go_sem, Tst.cs]
 refine hK _ ?_; clear hK K
 refine tr_block ?_
 refine loop_p (α := Nat × Nat) (fun a => ⟨32, [(10, .ro 1 (thrs t.ths)), (11, iV (t.ths.length : Nat)), (12, iV (a.1 : Nat))], [], a.2⟩) (fun a => a.1 ≤ t.ths.length ∧ (t.ths.take a.1).any (fun x => x.any isPair) = false) (fun a => t.ths.length - a.1) (0, 0) ?_ ?_ ?_
 ·exact ⟨by dsimp only; omega, rfl⟩
 ·refine Weaker.fz 1 0 ?_ ?_ ?_
  ·simp [go_sem]
  ·first | (simp; done) | (simp; omega)
  ·simp [go_sem]
 rintro ⟨i, j⟩ ⟨hi, hf⟩
 dsimp only at hi hf ⊢
 refine region_k T_ok (by decide) fun K hK => ?_
 simp [go_sem]
 refine hK _ ?_; clear hK K
 refine seq_k fun K2 hK2 => ?_
 refine cond_k rfl (fun h => ?_) (fun h => ?_)
 ·simp at h
  have hI := h
  clear h
  have h' : i < (t.ths).length := by omega
  obtain ⟨l, hx, hx'⟩ := getAt h'
  have hi0 : (0 : Int) ≤ (i : Nat) := by omega
  have hw : IntKind.i64.wrap ((i : Nat) + 1) = (i : Nat) + 1 := wrap_i64 (by omega) (by omega)
  have hll := hl l (List.mem_of_getElem? hx)
  refine tr_skip ?_
  refine hK2 _ ?_; try clear hK2 K2
  refine seq_k fun K3 hK3 => ?_
  refine tr_block ?_
  refine region_k T_ok (by decide) fun K hK => ?_
  simp [go_sem, hI, hx, hx', hi0, h']
  refine hK _ ?_; clear hK K
  refine region_k T_ok (by decide) fun K hK => ?_
  simp [go_sem]
  refine hK _ ?_; clear hK K
  refine tr_block ?_
  refine loop_p (α := Nat × Nat) (fun b => ⟨32, [(10, .ro 1 (thrs t.ths)), (11, iV (t.ths.length : Nat)), (12, iV (i : Nat)), (16, .ro 13 (inss l)), (17, iV (l.length : Nat)), (18, iV (b.1 : Nat))], [], b.2⟩) (fun b => b.1 ≤ l.length ∧ (l.take b.1).any isPair = false) (fun b => l.length - b.1) (0, j) ?_ ?_ ?_
  ·exact ⟨by dsimp only; omega, rfl⟩
  ·refine Weaker.fz 1 0 ?_ ?_ ?_
   ·simp [go_sem]
   ·first | (simp; done) | (simp; omega)
   ·simp [go_sem]
  rintro ⟨b, c⟩ ⟨hib, hfb⟩
  dsimp only at hib hfb ⊢
  refine region_k T_ok (by decide) fun K hK => ?_
  simp [go_sem]
  refine hK _ ?_; clear hK K
  refine seq_k fun K4 hK4 => ?_
  refine cond_k rfl (fun h => ?_) (fun h => ?_)
  ·simp at h
   have hIb := h
   clear h
   have h'b : b < (l).length := by omega
   obtain ⟨x, hxb, hx'b⟩ := getAt h'b
   have hi0b : (0 : Int) ≤ (b : Nat) := by omega
   have hwb : IntKind.i64.wrap ((b : Nat) + 1) = (b : Nat) + 1 := wrap_i64 (by omega) (by omega)
   refine tr_skip ?_
   refine hK4 _ ?_; try clear hK4 K4
   refine seq_k fun K5 hK5 => ?_
   refine tr_block ?_
   refine region_k T_ok (by decide) fun K hK => ?_
   simp [go_sem, hIb, hxb, hx'b, hi0b, h'b, insC]
   refine hK _ ?_; clear hK K
   refine region_to T_ok (by decide) ⟨32, [(10, .ro 1 (thrs t.ths)), (11, iV (t.ths.length : Nat)), (12, iV (i : Nat)), (16, .ro 13 (inss l)), (17, iV (l.length : Nat)), (18, iV (b : Nat)), (29, bV (isPair x))], [], c + 1⟩ ?_ ?_
   ·by_cases c1 : x.op = 13
    ·simp [go_sem, c1]
     refine Weaker.fz 1 0 ?_ ?_ ?_
     ·simp [go_sem, c1, isPair]
     ·first | (simp; done) | (simp; omega)
     ·simp [go_sem, c1, isPair]
    ·by_cases c2 : x.op = 14
     ·simp [go_sem, c1, c2]
      refine Weaker.fz 1 0 ?_ ?_ ?_
      ·simp [go_sem, c1, c2, isPair]
      ·first | (simp; done) | (simp; omega)
      ·simp [go_sem, c1, c2, isPair]
     ·simp [go_sem, c1, c2]
      refine Weaker.fz 1 0 ?_ ?_ ?_
      ·simp [go_sem, c1, c2, isPair]
      ·first | (simp; done) | (simp; omega)
      ·simp [go_sem, c1, c2, isPair]
   ·skip
    refine cond_k rfl (fun h => ?_) (fun h => ?_)
    ·have hp := h
     refine region_k T_ok (by decide) fun K hK => ?_
     simp [go_sem]
     refine hK _ ?_; clear hK K
     refine tr_ret ⟨.inr rfl, ?_⟩
     simp [go_sem, show hasPairs t.ths = true from any_at hx (any_at hxb hp)]
    ·have hp := h
     refine tr_skip ?_
     refine hK5 _ ?_; try clear hK5 K5
     refine region_e T_ok (by decide) fun K hK => ?_
     simp [go_sem, hwb]
     refine hK _ ?_; clear hK K
     refine ⟨(b + 1, c + 1), ?_, ?_, ?_⟩
     ·exact ⟨by dsimp only; omega, any_step hxb hfb hp⟩
     ·dsimp only; omega
     ·refine Weaker.fz 1 0 ?_ ?_ ?_
      ·simp [go_sem]
      ·first | (simp; done) | (simp; omega)
      simp [go_sem]
  ·simp at h
   obtain rfl : b = l.length := by omega
   rw [List.take_length] at hfb
   refine tr_exit ?_
   refine hK3 _ ?_; try clear hK3 K3
   refine region_e T_ok (by decide) fun K hK => ?_
   simp [go_sem, hw]
   refine hK _ ?_; clear hK K
   refine ⟨(i + 1, c), ?_, ?_, ?_⟩
   ·exact ⟨by dsimp only; omega, any_step hx hf hfb⟩
   ·dsimp only; omega
   ·refine Weaker.fz 1 0 ?_ ?_ ?_
    ·simp [go_sem]
    ·first | (simp; done) | (simp; omega)
    simp [go_sem]
 ·simp at h
  obtain rfl : i = t.ths.length := by omega
  rw [List.take_length] at hf
  refine tr_exit ?_
  refine hK1 _ ?_; try clear hK1 K1
  refine region_k T_ok (by decide) fun K hK => ?_
  simp [go_sem]
  refine hK _ ?_; clear hK K
  refine tr_ret ⟨.inr rfl, ?_⟩
  simp [go_sem, show hasPairs t.ths = false from hf]
theorem cut_pf (s : ByteArray) (n : Nat) (hs : s.size ≤ 9223372036854775807) : Pf Try.prog 74 [.val (.string s), iV (n : Nat)] (.val (.string (cutS s n))) := by
 refine Pf.of_fn (.cons (.val _) (.cons (.val _) .nil)) (.val _) ?_
 refine fn_in T_ok func74 rfl rfl ntmps74 rfl (by simp) ?_
 refine region_k T_ok (by decide) fun K hK => ?_
 simp [go_sem]
 refine hK _ ?_; clear hK K
 refine seq_k fun K1 hK1 => ?_
 refine region_k T_ok (by decide) fun K hK => ?_
 simp [go_sem]
 refine hK _ ?_; clear hK K
 refine cond_k rfl (fun h => ?_) (fun h => ?_)
 ·simp at h
  have hI := h
  have h' : n < s.size := by omega
  have hn0 : (0 : Int) ≤ (n : Nat) := by omega
  have hle : (n : Int) ≤ (s.size : Nat) := by omega
  have hle' : n ≤ s.size := by omega
  refine region_k T_ok (by decide) fun K hK => ?_
  simp [go_sem, hn0, hle, hle']
  refine hK _ ?_; clear hK K
  refine tr_ret ⟨.inr rfl, ?_⟩
  simp [go_sem, cutS, h']
 ·simp at h
  have h' : ¬ n < s.size := by omega
  refine tr_skip ?_
  refine hK1 _ ?_; try clear hK1 K1
  refine region_k T_ok (by decide) fun K hK => ?_
  simp [go_sem]
  refine hK _ ?_; clear hK K
  refine tr_ret ⟨.inr rfl, ?_⟩
  simp [go_sem, cutS, h']
open Go Go.Sl Go.Proofs.Try
set_option maxHeartbeats 4000000 in
theorem regs_pf (t : Tst) (n : Nat) (l : List Ins) (hn : t.ths[n]? = some l) (hl : l.length ≤ 1000) (hr : ∀ x ∈ l, setB x.op = true → 0 ≤ x.rd ∧ x.rd < 8) : Pf Try.prog 76 [.rp t.cs 0, iV (n : Nat)] (.ro 1 (natV (upTo (setR l) 8))) := by
 refine Pf.of_fz 1 (.cons (nl_rp t) (.cons (.val _) .nil)) (nl_natV _) ?_
 obtain ⟨hlt, hn'⟩ := List.getElem?_eq_some_iff.1 hn
 have hltI : (n : Int) < (t.ths.length : Nat) := by omega
 have hn0 : (0 : Int) ≤ (n : Nat) := by omega
 refine fn_in T_ok func76 rfl rfl ntmps76 rfl (by simp) ?_
 refine region_k T_ok (by decide) fun K hK => ?_
 simp [go_sem]
 refine hK _ ?_; clear hK K
 refine region_k T_ok (by decide) fun K hK => ?_
 simp [go_sem]
 refine hK _ ?_; clear hK K
 refine seq_k fun K1 hK1 => ?_
 refine region_k T_ok (by decide) fun K hK => ?_
 simp [go_sem, Tst.cs, hltI, hlt, hn, hn', hn0]
 refine hK _ ?_; clear hK K
 refine tr_block ?_
 refine loop_p (α := Nat × Nat) (fun a => ⟨41, [(5, .ptr 0 0 0), (17, .ro 13 (inss l)), (18, iV (l.length : Nat)), (19, iV (a.1 : Nat))], [(0, .rows 8 [.agg (boolsC (setR (l.take a.1)))])], a.2 + 1⟩) (fun a => a.1 ≤ l.length) (fun a => l.length - a.1) (0, 0) ?_ ?_ ?_
 ·dsimp only; omega
 ·refine Weaker.fz 1 0 ?_ ?_ ?_
  ·simp [go_sem]
  ·first | (simp; done) | (simp; omega)
  ·simp [go_sem, setR_nil]
 rintro ⟨i, j⟩ hi
 dsimp only at hi ⊢
 refine region_k T_ok (by decide) fun K hK => ?_
 simp [go_sem]
 refine hK _ ?_; clear hK K
 refine seq_k fun K2 hK2 => ?_
 refine cond_k rfl (fun h => ?_) (fun h => ?_)
 ·simp at h
  have hI := h
  clear h
  have h' : i < (l).length := by omega
  obtain ⟨x, hx, hx'⟩ := getAt h'
  have hi0 : (0 : Int) ≤ (i : Nat) := by omega
  have hw : IntKind.i64.wrap ((i : Nat) + 1) = (i : Nat) + 1 := wrap_i64 (by omega) (by omega)
  refine tr_skip ?_
  refine hK2 _ ?_; try clear hK2 K2
  refine seq_k fun K3 hK3 => ?_
  refine tr_block ?_
  refine region_k T_ok (by decide) fun K hK => ?_
  simp [go_sem, hI, hx, hx', hi0, h', insC]
  refine hK _ ?_; clear hK K
  refine region_k T_ok (by decide) fun K hK => ?_
  simp [go_sem, insC]
  refine call_pf (sets_pf x) ?_
  simp [go_sem]
  refine hK _ ?_; clear hK K
  refine cond_k rfl (fun h => ?_) (fun h => ?_)
  ·have hs := h
   obtain ⟨g1, g2⟩ := hr x (List.mem_of_getElem? hx) h
   obtain ⟨m, hm⟩ := Int.eq_ofNat_of_zero_le g1
   have hm8 : m < 8 := by omega
   have hmI : (m : Int) < 8 := by omega
   have hm0 : (0 : Int) ≤ (m : Nat) := by omega
   have hm7 : m + 1 ≤ 8 := by omega
   refine region_e T_ok (by decide) fun K hK => ?_
   simp [go_sem, hm, hm8, hmI, hm0, hm7]
   refine hK _ ?_; clear hK K
   refine hK3 _ ?_; try clear hK3 K3
   refine region_e T_ok (by decide) fun K hK => ?_
   simp [go_sem, hw]
   refine hK _ ?_; clear hK K
   refine ⟨(i + 1, j + 1), ?_, ?_, ?_⟩
   ·dsimp only; omega
   ·dsimp only; omega
   ·refine Weaker.fz 1 0 ?_ ?_ ?_
    ·simp [go_sem]
    ·first | (simp; done) | (simp; omega)
    simp [go_sem]
    refine boolsC_ext fun r _ => ?_
    rw [setR_step hx, hs]
    by_cases e : r = m
    ·subst e; simp [hm]
    ·have : ¬ x.rd = (r : Int) := by omega
     simp [e, this]
  ·have hs := h
   refine tr_skip ?_
   refine hK3 _ ?_; try clear hK3 K3
   refine region_e T_ok (by decide) fun K hK => ?_
   simp [go_sem, hw]
   refine hK _ ?_; clear hK K
   refine ⟨(i + 1, j + 1), ?_, ?_, ?_⟩
   ·dsimp only; omega
   ·dsimp only; omega
   ·refine Weaker.fz 1 0 ?_ ?_ ?_
    ·simp [go_sem]
    ·first | (simp; done) | (simp; omega)
    simp [go_sem]
    refine boolsC_ext fun r _ => ?_
    rw [setR_step hx, hs]; simp
 ·simp at h
  obtain rfl : i = l.length := by omega
  rw [List.take_length]
  refine tr_exit ?_
  refine hK1 _ ?_; try clear hK1 K1
  refine region_k T_ok (by decide) fun K hK => ?_
  simp [go_sem]
  refine hK _ ?_; clear hK K
  refine seq_k fun K4 hK4 => ?_
  refine region_k T_ok (by decide) fun K hK => ?_
  simp [go_sem]
  refine hK _ ?_; clear hK K
  refine tr_block ?_
  refine Tr.weaken (Weaker.ghost 8 1 rfl) ?_
  refine loop_p (α := Nat × Nat × Nat) (fun b => ⟨41, [(8, .sl b.2.1 0 (upTo (setR l) b.1).length), (29, .agg (boolsC (setR l))), (30, iV (b.1 : Nat))], [(b.2.1, .rows 1 (natV (upTo (setR l) b.1)))], b.2.1 + b.2.2 + 1⟩) (fun b => b.1 ≤ 8) (fun b => 8 - b.1) (0, j + 1, 0) ?_ ?_ ?_
  ·dsimp only; omega
  ·refine Weaker.fz 1 0 ?_ ?_ ?_
   ·simp [go_sem, upTo]
   ·first | (simp; done) | (simp; omega)
   ·simp [go_sem, upTo, natV]
  rintro ⟨b, r, c⟩ hib
  dsimp only at hib ⊢
  refine region_k T_ok (by decide) fun K hK => ?_
  simp [go_sem]
  refine hK _ ?_; clear hK K
  refine seq_k fun K5 hK5 => ?_
  refine cond_k rfl (fun h => ?_) (fun h => ?_)
  ·simp at h
   have h' : b < 8 := by omega
   have hbI := h
   clear h
   have hb0 : (0 : Int) ≤ (b : Nat) := by omega
   have hb7 : b + 1 ≤ 8 := by omega
   have hbl := upTo_len (setR l) b
   have hwb : IntKind.i64.wrap ((b : Nat) + 1) = (b : Nat) + 1 := wrap_i64 (by omega) (by omega)
   refine tr_skip ?_
   refine hK5 _ ?_; try clear hK5 K5
   refine seq_k fun K6 hK6 => ?_
   refine tr_block ?_
   refine region_k T_ok (by decide) fun K hK => ?_
   simp [go_sem, h', hbI, hb0, hb7]
   refine hK _ ?_; clear hK K
   refine region_k T_ok (by decide) fun K hK => ?_
   simp [go_sem]
   refine hK _ ?_; clear hK K
   refine cond_k rfl (fun h => ?_) (fun h => ?_)
   ·have hb := h
    refine region_e T_ok (by decide) fun K hK => ?_
    simp [go_sem]
    refine ⟨by omega, ?_⟩
    refine hK _ ?_; clear hK K
    refine hK6 _ ?_; try clear hK6 K6
    refine region_e T_ok (by decide) fun K hK => ?_
    simp [go_sem, hwb]
    refine hK _ ?_; clear hK K
    refine ⟨(b + 1, r + c + 2, 0), ?_, ?_, ?_⟩
    ·dsimp only; omega
    ·dsimp only; omega
    ·refine Weaker.fz 1 0 ?_ ?_ ?_
     ·simp [go_sem, upTo_yes hb]
     ·first | (simp; done) | (simp; omega)
     simp [go_sem, upTo_yes hb, natV_append, natV_one]
   ·have hb := h
    refine tr_skip ?_
    refine hK6 _ ?_; try clear hK6 K6
    refine region_e T_ok (by decide) fun K hK => ?_
    simp [go_sem, hwb]
    refine hK _ ?_; clear hK K
    refine ⟨(b + 1, r, c), ?_, ?_, ?_⟩
    ·dsimp only; omega
    ·dsimp only; omega
    ·refine Weaker.fz 1 0 ?_ ?_ ?_
     ·simp [go_sem, upTo_no hb]
     ·first | (simp; done) | (simp; omega)
     simp [go_sem, upTo_no hb]
  ·simp at h
   obtain rfl : b = 8 := by omega
   refine tr_exit ?_
   refine hK4 _ ?_; try clear hK4 K4
   refine region_k T_ok (by decide) fun K hK => ?_
   simp [go_sem]
   refine hK _ ?_; clear hK K
   refine tr_ret ⟨.inr rfl, ?_⟩
   simp [go_sem]
open Go Go.Sl Go.Proofs.Try
set_option maxHeartbeats 4000000 in
theorem slots_pf (t : Tst) (ht : t.ths.length ≤ 1000) (hl : ∀ x ∈ t.ths, x.length ≤ 1000) (hr : ∀ l ∈ t.ths, ∀ x ∈ l, setB x.op = true → 0 ≤ x.rd ∧ x.rd < 8) (hlo : t.locs.length ≤ 1000) : Pf Try.prog 69 [.rp t.cs 0] (.ro 2 (sloV (slotsT t))) := by
 refine Pf.of_fz 1 (.cons (nl_rp t) .nil) (nl_slo _) ?_
 refine fn_in T_ok func69 rfl rfl ntmps69 rfl (by simp) ?_
 refine region_k T_ok (by decide) fun K hK => ?_
 simp [go_sem]
 refine hK _ ?_; clear hK K
 refine region_k T_ok (by decide) fun K hK => ?_
 simp [go_sem]
 refine hK _ ?_; clear hK K
 refine seq_k fun K1 hK1 => ?_
 refine region_k T_ok (by decide) fun K hK => ?_
 simp [go_sem, Tst.cs]
 refine hK _ ?_; clear hK K
 refine tr_block ?_
 refine Tr.weaken (Weaker.ghost 3 2 rfl) ?_
 refine loop_p (α := Nat × Nat × Nat) (fun a => ⟨47, [(0, .rp t.cs 0), (11, .ro 1 (thrs t.ths)), (12, iV (t.ths.length : Nat)), (13, iV (a.1 : Nat)), (3, .sl a.2.1 0 (slO t.ths a.1).length)], [(a.2.1, .rows 2 (sloV (slO t.ths a.1)))], a.2.1 + a.2.2 + 1⟩) (fun a => a.1 ≤ t.ths.length) (fun a => t.ths.length - a.1) (0, 0, 0) ?_ ?_ ?_
 ·dsimp only; omega
 ·refine Weaker.fz 1 0 ?_ ?_ ?_
  ·simp [go_sem, slO_zero, Tst.cs]
  ·first | (simp; done) | (simp; omega)
  ·simp [go_sem, slO_zero, sloV_nil]
 rintro ⟨i, r, c⟩ hi
 dsimp only at hi ⊢
 refine region_k T_ok (by decide) fun K hK => ?_
 simp [go_sem]
 refine hK _ ?_; clear hK K
 refine seq_k fun K2 hK2 => ?_
 refine cond_k rfl (fun h => ?_) (fun h => ?_)
 ·simp at h
  have hI := h
  clear h
  have h' : i < (t.ths).length := by omega
  obtain ⟨l, hx, hx'⟩ := getAt h'
  have hi0 : (0 : Int) ≤ (i : Nat) := by omega
  have hlm := List.mem_of_getElem? hx
  have hw : IntKind.i64.wrap ((i : Nat) + 1) = (i : Nat) + 1 := wrap_i64 (by omega) (by omega)
  refine tr_skip ?_
  refine hK2 _ ?_; try clear hK2 K2
  refine seq_k fun K3 hK3 => ?_
  refine tr_block ?_
  refine region_k T_ok (by decide) fun K hK => ?_
  simp [go_sem]
  refine hK _ ?_; clear hK K
  refine region_k T_ok (by decide) fun K hK => ?_
  simp [go_sem]
  refine call_pf (regs_pf t i l hx (hl l hlm) (hr l hlm)) ?_
  simp [go_sem]
  refine hK _ ?_; clear hK K
  refine tr_block ?_
  refine loop_p (α := Nat × Nat × Nat) (fun b => ⟨47, [(0, .rp t.cs 0), (11, .ro 1 (thrs t.ths)), (12, iV (t.ths.length : Nat)), (13, iV (i : Nat)), (4, iV (i : Nat)), (18, .ro 1 (natV (upTo (setR l) 8))), (19, iV ((upTo (setR l) 8).length : Nat)), (20, iV (b.1 : Nat)), (3, .sl b.2.1 0 (slP t.ths i l b.1).length)], [(b.2.1, .rows 2 (sloV (slP t.ths i l b.1)))], b.2.1 + b.2.2 + 1⟩) (fun b => b.1 ≤ (upTo (setR l) 8).length) (fun b => (upTo (setR l) 8).length - b.1) (0, r, c) ?_ ?_ ?_
  ·dsimp only; omega
  ·refine Weaker.fz 1 0 ?_ ?_ ?_
   ·simp [go_sem, slP_zero]
   ·first | (simp; done) | (simp; omega)
   ·simp [go_sem, slP_zero]
  rintro ⟨b, r, c⟩ hib
  dsimp only at hib ⊢
  refine region_k T_ok (by decide) fun K hK => ?_
  simp [go_sem]
  refine hK _ ?_; clear hK K
  refine seq_k fun K4 hK4 => ?_
  refine cond_k rfl (fun h => ?_) (fun h => ?_)
  ·have hul := upTo_len (setR l) 8
   simp at h
   have hI2 := h
   clear h
   have h'2 : b < ((upTo (setR l) 8)).length := by omega
   obtain ⟨m, hx2, hx'2⟩ := getAt h'2
   have hi02 : (0 : Int) ≤ (b : Nat) := by omega
   have hw2 : IntKind.i64.wrap ((b : Nat) + 1) = (b : Nat) + 1 := wrap_i64 (by omega) (by omega)
   have hpl := slP_len t.ths i l b
   refine tr_skip ?_
   refine hK4 _ ?_; try clear hK4 K4
   refine seq_k fun K5 hK5 => ?_
   refine tr_block ?_
   refine region_k T_ok (by decide) fun K hK => ?_
   simp [go_sem, hI2, hx2, hx'2, hi02, h'2]
   refine hK _ ?_; clear hK K
   refine region_e T_ok (by decide) fun K hK => ?_
   simp [go_sem]
   refine ⟨by omega, ?_⟩
   refine hK _ ?_; clear hK K
   refine hK5 _ ?_; try clear hK5 K5
   refine region_e T_ok (by decide) fun K hK => ?_
   simp [go_sem, hw2]
   refine hK _ ?_; clear hK K
   refine ⟨(b + 1, r + c + 2, 0), ?_, ?_, ?_⟩
   ·dsimp only; omega
   ·dsimp only; omega
   ·refine Weaker.fz 1 0 ?_ ?_ ?_
    ·simp [go_sem, slP_step hx2]
    ·first | (simp; done) | (simp; omega)
    simp [go_sem, slP_step hx2, sloV_append]
  ·simp at h
   obtain rfl : b = (upTo (setR l) 8).length := by omega
   refine tr_exit ?_
   refine hK3 _ ?_; try clear hK3 K3
   refine region_e T_ok (by decide) fun K hK => ?_
   simp [go_sem, hw]
   refine hK _ ?_; clear hK K
   refine ⟨(i + 1, r, c), ?_, ?_, ?_⟩
   ·dsimp only; omega
   ·dsimp only; omega
   ·refine Weaker.fz 1 0 ?_ ?_ ?_
    ·simp [go_sem, slP_all hx]
    ·first | (simp; done) | (simp; omega)
    simp [go_sem, slP_all hx]
 ·simp at h
  obtain rfl : i = t.ths.length := by omega
  refine tr_exit ?_
  refine hK1 _ ?_; try clear hK1 K1
  refine seq_k fun K6 hK6 => ?_
  refine region_k T_ok (by decide) fun K hK => ?_
  simp [go_sem, Tst.cs]
  refine hK _ ?_; clear hK K
  refine tr_block ?_
  refine loop_p (α := Nat × Nat × Nat) (fun a => ⟨47, [(0, .rp t.cs 0), (36, iV (t.locs.length : Nat)), (37, iV (a.1 : Nat)), (3, .sl a.2.1 0 (slQ t a.1).length)], [(a.2.1, .rows 2 (sloV (slQ t a.1)))], a.2.1 + a.2.2 + 1⟩) (fun a => a.1 ≤ t.locs.length) (fun a => t.locs.length - a.1) (0, r, c) ?_ ?_ ?_
  ·dsimp only; omega
  ·refine Weaker.fz 1 0 ?_ ?_ ?_
   ·simp [go_sem, slO_all, Tst.cs]
   ·first | (simp; done) | (simp; omega)
   ·simp [go_sem, slO_all]
  rintro ⟨b, r, c⟩ hib
  dsimp only at hib ⊢
  refine region_k T_ok (by decide) fun K hK => ?_
  simp [go_sem]
  refine hK _ ?_; clear hK K
  refine seq_k fun K7 hK7 => ?_
  refine cond_k rfl (fun h => ?_) (fun h => ?_)
  ·simp at h
   have hql := slQ_len t b
   have hw3 : IntKind.i64.wrap ((b : Nat) + 1) = (b : Nat) + 1 := wrap_i64 (by omega) (by omega)
   refine tr_skip ?_
   refine hK7 _ ?_; try clear hK7 K7
   refine seq_k fun K8 hK8 => ?_
   refine tr_block ?_
   refine region_k T_ok (by decide) fun K hK => ?_
   simp [go_sem]
   refine hK _ ?_; clear hK K
   refine region_e T_ok (by decide) fun K hK => ?_
   simp [go_sem]
   refine ⟨by omega, ?_⟩
   refine hK _ ?_; clear hK K
   refine hK8 _ ?_; try clear hK8 K8
   refine region_e T_ok (by decide) fun K hK => ?_
   simp [go_sem, hw3]
   refine hK _ ?_; clear hK K
   refine ⟨(b + 1, r + c + 2, 0), ?_, ?_, ?_⟩
   ·dsimp only; omega
   ·dsimp only; omega
   ·refine Weaker.fz 1 0 ?_ ?_ ?_
    ·simp [go_sem, slQ_step]
    ·first | (simp; done) | (simp; omega)
    simp [go_sem, slQ_step, sloV_append]
  ·simp at h
   obtain rfl : b = t.locs.length := by omega
   refine tr_exit ?_
   refine hK6 _ ?_; try clear hK6 K6
   refine region_k T_ok (by decide) fun K hK => ?_
   simp [go_sem]
   refine hK _ ?_; clear hK K
   refine tr_ret ⟨.inr rfl, ?_⟩
   simp [go_sem, slQ_all, List.take_of_length_le]
set_option maxHeartbeats 4000000 in
theorem made_pf (t : Tst) (ht : t.ths.length ≤ 4) (hl : ∀ x ∈ t.ths, x.length ≤ 1000) (hr : ∀ l ∈ t.ths, ∀ x ∈ l, setB x.op = true → 0 ≤ x.rd ∧ x.rd < 8) (hlo : t.locs.length ≤ 8) (g : List (Nat → Int)) (hg : g.length = t.ths.length) (f : Nat → Int) : Pf Try.prog 114 [.rp t.cs 0, .ro 8 (usRows g), .agg (hangC f)] (.agg (stK (madeK t g f))) := by
 refine Pf.of_fz 1 (.cons (nl_rp t) (.cons (nl_usRows g) (.cons (.agg (nl_hang f)) .nil))) (.agg (nl_stK _)) ?_
 have hs40 := slotsT_len ht hlo
 have hml := madeL_len t g f
 have hslots := slots_pf t (by omega) hl hr (by omega)
 refine fn_in T_ok func114 rfl rfl ntmps114 rfl (by simp) ?_
 refine region_k T_ok (by decide) fun K hK => ?_
 simp [go_sem, uVs_zeros40]
 refine hK _ ?_; clear hK K
 refine region_k T_ok (by decide) fun K hK => ?_
 simp [go_sem, uVs_zeros40]
 refine hK _ ?_; clear hK K
 refine seq_k fun K1 hK1 => ?_
 refine region_k T_ok (by decide) fun K hK => ?_
 simp [go_sem]
 refine call_pf hslots ?_
 simp [go_sem]
 refine hK _ ?_; clear hK K
 refine tr_block ?_
 refine loop_p (α := Nat × Nat) (fun a => ⟨46, [(1, .ro 8 (usRows g)), (5, .ptr 0 0 0), (6, .ptr 1 0 0), (7, .ptr 2 0 0), (11, .ro 2 (sloV (slotsT t))), (12, iV ((slotsT t).length : Nat)), (13, iV (a.1 : Nat))], [(2, .rows 41 [.agg (iV (a.1 : Nat) :: uVs (padT ((madeL t g f).take a.1)))]), (0, .rows 8 [.agg (hangC f)]), (1, .rows 41 [.agg (iV 0 :: uVs (List.replicate 40 0))])], a.2⟩) (fun a => a.1 ≤ (slotsT t).length ∧ 2 < a.2) (fun a => (slotsT t).length - a.1) (0, 3) ?_ ?_ ?_
 ·dsimp only; omega
 ·refine Weaker.fzk 1 0 (by first | omega | (dsimp only; omega)) ?_ ?_ ?_
  ·simp [go_sem]
  ·first | (simp; done) | (simp; omega)
  ·simp [go_sem, padT, uVs]
 rintro ⟨i, j⟩ ⟨hi, hj⟩
 dsimp only at hi hj ⊢
 refine region_k T_ok (by decide) fun K hK => ?_
 simp [go_sem]
 refine hK _ ?_; clear hK K
 refine seq_k fun K2 hK2 => ?_
 refine cond_k rfl (fun h => ?_) (fun h => ?_)
 ·simp at h
  have hI := h
  clear h
  have h' : i < (slotsT t).length := by omega
  obtain ⟨p, hx, hx'⟩ := getAt h'
  have hi0 : (0 : Int) ≤ (i : Nat) := by omega
  obtain ⟨a, b⟩ := p
  have hmem := slots_mem (List.mem_of_getElem? hx)
  have hm : (madeL t g f)[i]? = some (madeN g f (a, b)) := by unfold madeL; rw [List.getElem?_map, hx]; rfl
  have hpl : (padT ((madeL t g f).take i)).length = 40 := padT_len (by rw [List.length_take]; omega)
  have hi40 : i < 40 := by omega
  have hI40 : (i : Int) < 40 := by omega
  have hst := padT_step hm (by omega)
  have hw : IntKind.i64.wrap ((i : Nat) + 1) = (i : Nat) + 1 := wrap_i64 (by omega) (by omega)
  have e0 : ¬ j = 0 := by omega
  have eq0 : ¬ 0 = j := by omega
  have e2 : ¬ j = 1 := by omega
  have eq2 : ¬ 1 = j := by omega
  have e4 : ¬ j = 2 := by omega
  have eq4 : ¬ 2 = j := by omega
  refine tr_skip ?_
  refine hK2 _ ?_; try clear hK2 K2
  refine seq_k fun K3 hK3 => ?_
  refine tr_block ?_
  refine region_k T_ok (by decide) fun K hK => ?_
  simp [go_sem, hI, hx, hx', hi0, h', e0, eq0, e2, eq2, e4, eq4]
  refine hK _ ?_; clear hK K
  refine seq_to ⟨46, [(1, .ro 8 (usRows g)), (5, .ptr 0 0 0), (6, .ptr 1 0 0), (7, .ptr 2 0 0), (11, .ro 2 (sloV (slotsT t))), (12, iV ((slotsT t).length : Nat)), (13, iV (i : Nat))], [(2, .rows 41 [.agg (iV (i : Nat) :: uVs (padT ((madeL t g f).take (i + 1))))]), (0, .rows 8 [.agg (hangC f)]), (1, .rows 41 [.agg (iV 0 :: uVs (List.replicate 40 0))])], j + 40⟩ ?_ ?_
  ·skip
   refine region_k T_ok (by decide) fun K hK => ?_
   simp [go_sem, e0, eq0, e2, eq2, e4, eq4]
   refine hK _ ?_; clear hK K
   refine cond_k rfl (fun h => ?_) (fun h => ?_)
   ·have ha : a < 0 := by simpa using h
    obtain ⟨n, hn, hn8⟩ : ∃ n : Nat, b = n ∧ n < 8 := by
     rcases hmem with ⟨n, hn, h2⟩ | ⟨q, r, hn, h2, h3⟩
     ·cases hn; exact ⟨n, rfl, by omega⟩
     ·cases hn; omega
    subst hn
    have hnI : (n : Int) < 8 := by omega
    have hn0 : (0 : Int) ≤ (n : Nat) := by omega
    have hmv : madeN g f (a, (n : Int)) = f n := by simp [madeN, ha]
    rw [hmv] at hst
    refine draw_e T_ok (by kernel_rfl) 7 [[], [0], [], [2], [2, 3], [2, 3, 4], [], [0, 1, 2, 3, 4, 5, 6], [0, 1, 2, 3, 4, 5, 6, 7]] [] (by decide) (by decide) (by decide) fun K hK => ?_
    first | dsimp only [List.take, List.drop] | dsimp [List.take, List.drop]
    simp [go_sem, hnI, hn0, hn8, hangC_part f hn8, hI40, hi40, hi0, hpl, put_stV, hst, e0, eq0, e2, eq2, e4, eq4]
    refine ⟨by omega, by omega, ?_⟩
    refine hK _ ?_; clear hK K
    refine Weaker.fzk 1 0 (by omega) ?_ ?_ ?_
    ·simp [go_sem, e0, eq0, e2, eq2, e4, eq4]
    ·first | (simp; done) | (simp; omega)
    ·simp [go_sem, e0, eq0, e2, eq2, e4, eq4]
   ·have ha : ¬ a < 0 := by simpa using h
    obtain ⟨q, r, hq, hr2, hq2, hr8⟩ : ∃ q r : Nat, a = q ∧ b = r ∧ q < g.length ∧ r < 8 := by
     rcases hmem with ⟨n, hn, h2⟩ | ⟨q, r, hn, h2, h3⟩
     ·cases hn; omega
     ·cases hn; exact ⟨q, r, rfl, rfl, by omega, h3⟩
    subst hq hr2
    obtain ⟨gf, hgf, hgf'⟩ := getAt hq2
    have hrI : (r : Int) < 8 := by omega
    have hr0 : (0 : Int) ≤ (r : Nat) := by omega
    have hqI : (q : Int) < (g.length : Nat) := by omega
    have hq0 : (0 : Int) ≤ (q : Nat) := by omega
    have hmv : madeN g f ((q : Int), (r : Int)) = gf r := by unfold madeN; rw [if_neg ha]; simp [hgf]
    rw [hmv] at hst
    refine draw_e T_ok (by kernel_rfl) 11 [[], [0], [], [], [3], [], [5], [2, 3, 4], [2, 3, 4, 5, 6, 7], [2, 3, 4, 5, 6, 7, 8], [], [0, 1, 2, 3, 4, 5, 6, 7, 8, 9, 10], [0, 1, 2, 3, 4, 5, 6, 7, 8, 9, 10, 11]] [] (by decide) (by decide) (by decide) fun K hK => ?_
    first | dsimp only [List.take, List.drop] | dsimp [List.take, List.drop]
    simp [go_sem, hrI, hr0, hr8, hqI, hq0, hq2, hgf, hgf', hangC_part gf hr8, hI40, hi40, hi0, hpl, put_stV, hst, e0, eq0, e2, eq2, e4, eq4]
    refine ⟨by omega, by omega, ?_⟩
    refine hK _ ?_; clear hK K
    refine Weaker.fzk 1 0 (by omega) ?_ ?_ ?_
    ·simp [go_sem, e0, eq0, e2, eq2, e4, eq4]
    ·first | (simp; done) | (simp; omega)
    ·simp [go_sem, e0, eq0, e2, eq2, e4, eq4]
  ·skip
   refine region_e T_ok (by decide) fun K hK => ?_
   simp [go_sem, hw, put_stN, e0, eq0, e2, eq2, e4, eq4]
   refine hK _ ?_; clear hK K
   refine hK3 _ ?_; try clear hK3 K3
   refine region_e T_ok (by decide) fun K hK => ?_
   simp [go_sem, hw]
   refine hK _ ?_; clear hK K
   refine ⟨(i + 1, j + 100), ?_, ?_, ?_⟩
   ·dsimp only; omega
   ·dsimp only; omega
   ·refine Weaker.fzk 1 0 (by first | omega | (dsimp only; omega)) ?_ ?_ ?_
    ·simp [go_sem, e0, eq0, e2, eq2, e4, eq4]
    ·first | (simp; done) | (simp; omega)
    simp [go_sem, e0, eq0, e2, eq2, e4, eq4]
 ·simp at h
  obtain rfl : i = (slotsT t).length := by omega
  have hpe : (padT (madeL t g f)).length = 40 := padT_len (by omega)
  have htk : (madeL t g f).take (slotsT t).length = madeL t g f := List.take_of_length_le (by omega)
  refine tr_exit ?_
  refine hK1 _ ?_; try clear hK1 K1
  refine region_k T_ok (by decide) fun K hK => ?_
  simp [go_sem, htk, hpe, us_ones, List.take_of_length_le]
  refine hK _ ?_; clear hK K
  refine tr_ret ⟨.inr rfl, ?_⟩
  simp [go_sem, madeK, stK_cons, hml, htk, hpe, uVs_nil, List.take_of_length_le]
open Go Go.Sl Go.Proofs.Try
theorem hang_drop (f : Nat → Int) : List.drop 8 (hangC f) = [] := rfl
theorem hang_frz (f : Nat → Int) (S : List Nat) (H : Heap) (d : Nat) : (hangC f).map (frz S H d) = hangC f := by cases d <;> rfl
theorem us_elem (g : List (Nat → Int)) (S : List Nat) (H : Heap) (d : Nat) : (usRows g).map (elemF (frz S H d)) = usRows g := by
 simp only [usRows, List.map_map]
 exact List.map_congr_left fun f _ => by simp only [Function.comp, elemF, hang_frz]
theorem us_take (k : List Int) (n : Nat) : List.take n (usRows (gA k n)) = usRows (gA k n) := List.take_of_length_le (by simp [usRows, gA])
set_option maxHeartbeats 8000000 in
set_option maxRecDepth 100000 in
theorem end_fn (t : Tst) (ht : t.ths.length ≤ 4) (hlt : ∀ x ∈ t.ths, x.length ≤ 1000) (hrd : ∀ l ∈ t.ths, ∀ x ∈ l, setB x.op = true → 0 ≤ x.rd ∧ x.rd < 8) (hlo : t.locs.length ≤ 8) (k : List Int) (hk : k.length = 112) (D : List (List Int)) (hD : ∀ q ∈ D, q.length = 41) (r n : Nat) (hr : 2 < r) (hrn : r < n) : Sl.Fn Try.prog 121 [.ptr 2 0 0, .ptr r 0 0] [(2, .rows 3 [.agg [.rp t.cs 0, .map 0, .map 1]]), (1, .map (seenM D)), (r, .rows 112 [.agg (mV k)])] n fun v H _ => v = .tup [] ∧ H = [(2, .rows 3 [.agg [.rp t.cs 0, .map 0, .map 1]]), (1, .map (seenM (addK (endK t k) D))), (r, .rows 112 [.agg (mV k)])] := by
 refine Fn.view ?_
 have nn0 : ¬ r = 2 := by omega
 have mm0 : ¬ 2 = r := by omega
 have nn1 : ¬ r = 1 := by omega
 have mm1 : ¬ 1 = r := by omega
 have nn2 : ¬ r = n := by omega
 have mm2 : ¬ n = r := by omega
 have nn3 : ¬ 2 = n := by omega
 have mm3 : ¬ n = 2 := by omega
 have nn4 : ¬ 1 = n := by omega
 have mm4 : ¬ n = 1 := by omega
 have hke : (endK t k).length = 41 := madeK_len ht hlo _ _
 have hn0 : (0 : Int) ≤ (t.ths.length : Nat) := by omega
 refine fn_in T_ok func121 rfl rfl ntmps121 rfl (by simp) ?_
 refine region_k T_ok (by decide) fun K hK => ?_
 simp [go_sem, nn0, mm0, nn1, mm1, nn2, mm2, nn3, mm3, nn4, mm4, Tst.cs, hn0]
 repeat refine ⟨by omega, ?_⟩
 refine hK _ ?_; clear hK K
 refine seq_k fun K1 hK1 => ?_
 refine region_k T_ok (by decide) fun K hK => ?_
 simp [go_sem]
 refine hK _ ?_; clear hK K
 refine tr_block ?_
 refine loop_p (α := Nat) (fun a => ⟨45, [(0, .ptr 2 0 0), (1, .ptr r 0 0), (4, .sl n 0 t.ths.length), (16, iV (t.ths.length : Nat)), (17, iV (a : Nat))], [(n, .rows 8 (usRows (gI k t.ths.length a))), (2, .rows 3 [.agg [.rp t.cs 0, .map 0, .map 1]]), (1, .map (seenM D)), (r, .rows 112 [.agg (mV k)])], n + 1⟩) (fun a => a ≤ t.ths.length) (fun a => t.ths.length - a) 0 ?_ ?_ ?_
 ·exact Nat.zero_le _
 ·refine Weaker.fz 1 0 ?_ ?_ ?_
  ·simp [go_sem, nn0, mm0, nn1, mm1, nn2, mm2, nn3, mm3, nn4, mm4, gI_zero, Tst.cs, List.replicate_succ]
  ·first | (simp; done) | (simp; omega)
  ·simp [go_sem, nn0, mm0, nn1, mm1, nn2, mm2, nn3, mm3, nn4, mm4, gI_zero, Tst.cs, List.replicate_succ]
 rintro i hi
 skip
 refine region_k T_ok (by decide) fun K hK => ?_
 simp [go_sem]
 refine hK _ ?_; clear hK K
 refine seq_k fun K2 hK2 => ?_
 refine cond_k rfl (fun h => ?_) (fun h => ?_)
 ·simp at h
  have hin : i < t.ths.length := by omega
  clear h
  have hinI : (i : Int) < (t.ths.length : Nat) := by omega
  have hi4 : i < 4 := by omega
  have hi4I : (i : Int) < 4 := by omega
  have hi0 : (0 : Int) ≤ (i : Nat) := by omega
  have hw : IntKind.i64.wrap ((i : Nat) + 1) = (i : Nat) + 1 := wrap_i64 (by omega) (by omega)
  refine tr_skip ?_
  refine hK2 _ ?_; try clear hK2 K2
  refine seq_k fun K3 hK3 => ?_
  refine tr_block ?_
  refine region_k T_ok (by decide) fun K hK => ?_
  simp [go_sem]
  refine hK _ ?_; clear hK K
  refine region_e T_ok (by decide) fun K hK => ?_
  simp [go_sem, nn0, mm0, nn1, mm1, nn2, mm2, nn3, mm3, nn4, mm4, hin, hinI, hi4, hi4I, hi0, mV_112 hk, mV_regs hk hi4, gI_len, hang_drop, gI_set hin]
  repeat refine ⟨by omega, ?_⟩
  refine hK _ ?_; clear hK K
  refine hK3 _ ?_; try clear hK3 K3
  refine region_e T_ok (by decide) fun K hK => ?_
  simp [go_sem, hw]
  refine hK _ ?_; clear hK K
  refine ⟨i + 1, ?_, ?_, ?_⟩
  ·omega
  ·omega
  ·refine Weaker.fz 1 0 ?_ ?_ ?_
   ·simp [go_sem, nn0, mm0, nn1, mm1, nn2, mm2, nn3, mm3, nn4, mm4, gI_zero, Tst.cs, List.replicate_succ]
   ·first | (simp; done) | (simp; omega)
   simp [go_sem, nn0, mm0, nn1, mm1, nn2, mm2, nn3, mm3, nn4, mm4, gI_zero, Tst.cs, List.replicate_succ]
 ·simp at h
  obtain rfl : i = t.ths.length := by omega
  clear h
  refine tr_exit ?_
  refine hK1 _ ?_; try clear hK1 K1
  have hmk : Pf Try.prog 114 [.rp t.cs 0, .ro 8 (usRows (gA k t.ths.length)), .agg (hangC (fM k))] (.agg (stK (endK t k))) := made_pf t ht hlt hrd hlo (gA k t.ths.length) (gA_len _ _) (fM k)
  have he : eqCells [EK.int, EK.int, EK.int, EK.int, EK.int, EK.int, EK.int, EK.int, EK.int, EK.int, EK.int, EK.int, EK.int, EK.int, EK.int, EK.int, EK.int, EK.int, EK.int, EK.int, EK.int, EK.int, EK.int, EK.int, EK.int, EK.int, EK.int, EK.int, EK.int, EK.int, EK.int, EK.int, EK.int, EK.int, EK.int, EK.int, EK.int, EK.int, EK.int, EK.int, EK.int] (stK (endK t k)) (stK (endK t k)) = _ := eq_stK hke hke
  have hi : insV [EK.int, EK.int, EK.int, EK.int, EK.int, EK.int, EK.int, EK.int, EK.int, EK.int, EK.int, EK.int, EK.int, EK.int, EK.int, EK.int, EK.int, EK.int, EK.int, EK.int, EK.int, EK.int, EK.int, EK.int, EK.int, EK.int, EK.int, EK.int, EK.int, EK.int, EK.int, EK.int, EK.int, EK.int, EK.int, EK.int, EK.int, EK.int, EK.int, EK.int, EK.int] (stK (endK t k)) (bV true) (seenM D) = _ := ins_seen hke hD
  have ha : (if endK t k ∈ D then D else D ++ [endK t k]) = addK (endK t k) D := rfl
  rw [ha] at hi
  refine draw_e T_ok (by kernel_rfl) 14 [[], [0], [0, 1], [0, 1, 2], [], [4], [4, 5], [4, 5, 6], [], [], [9], [9, 10], [9, 10, 11], [4, 5, 6, 7, 8, 9, 10, 11, 12], [0, 1, 2, 3, 4, 5, 6, 7, 8, 9, 10, 11, 12, 13]] [] (by decide) (by decide) (by decide) fun K hK => ?_
  first | dsimp only [List.take, List.drop] | dsimp [List.take, List.drop]
  simp [go_sem, nn0, mm0, nn1, mm1, nn2, mm2, nn3, mm3, nn4, mm4, mV_112 hk, mV_mems hk]
  refine callD_lendP hmk (pure_agg (stK_vals _)) 2 (by simp [go_sem, gI_all, gA_len, us_elem, us_take, hang_frz, nn0, mm0, nn1, mm1, nn2, mm2, nn3, mm3, nn4, mm4]) ?_
  simp [go_sem, he, hi, nn0, mm0, nn1, mm1, nn2, mm2, nn3, mm3, nn4, mm4]
  refine hK _ ?_; clear hK K
  refine ⟨.inl rfl, ?_⟩
  simp [go_sem]
  exact ⟨_, _, View.del n _, rfl, by simp [Sl.del, nn0, mm0, nn1, mm1, nn2, mm2, nn3, mm3, nn4, mm4]⟩
open Go Go.Sl Go.Proofs.Try
theorem setB_rd {t : Tst} (ht : TTOk t) : ∀ l ∈ t.ths, ∀ x ∈ l, setB x.op = true → 0 ≤ x.rd ∧ x.rd < 8 := fun l hl x hx _ => by
 obtain ⟨i, hi⟩ := List.getElem?_of_mem hl
 obtain ⟨p, hp⟩ := List.getElem?_of_mem hx
 have := (ht.thr i l hi).2 p x hp
 exact ⟨this.rd0, this.rd8⟩
theorem thr_len {t : Tst} (ht : TTOk t) : ∀ x ∈ t.ths, x.length ≤ 1000 := fun l hl => by
 obtain ⟨i, hi⟩ := List.getElem?_of_mem hl
 have := (ht.thr i l hi).1
 omega
abbrev exH (t : Tst) (s : Ex) : Heap := [(2, .rows 3 [.agg [.rp t.cs 0, .map 0, .map 1]]), (0, .map (seenT s.1)), (1, .map (seenM s.2))]
def ExpC (t : Tst) (n : Nat) : Prop := ∀ k, MOk t k → muT t k < n → ∀ s, ExOk s → ∀ j, 2 < j → Sl.Fn Try.prog 101 [.ptr 2 0 0, .agg (mV k)] (exH t s) j fun v H _ => v = .tup [] ∧ H = exH t (explT t n k s)
set_option maxHeartbeats 8000000 in
set_option maxRecDepth 100000 in
theorem explore1_fn (t : Tst) (ht : TTOk t) (n : Nat) (ih : ExpC t n) (k : List Int) (hM : MOk t k) (hmu : muT t k < n + 1) (s : Ex) (hs : ExOk s) (j : Nat) (hj : 2 < j) : Sl.Fn Try.prog 101 [.ptr 2 0 0, .agg (mV k)] (exH t s) j fun v H _ => v = .tup [] ∧ H = exH t (explT t (n + 1) k s) := by
 refine Fn.view ?_
 have nn50 : ¬ j = 0 := by omega
 have mm50 : ¬ 0 = j := by omega
 have nn51 : ¬ j = 1 := by omega
 have mm51 : ¬ 1 = j := by omega
 have nn52 : ¬ j = 2 := by omega
 have mm52 : ¬ 2 = j := by omega
 have hk := hM.len
 have hkl : (mV k).length = 112 := mV_112 hk
 have hko := mV_one k
 have hkt : List.take 112 (mV k) = mV k := List.take_of_length_le (by omega)
 have hf := find_seenT hk hs.seen
 have hi2 := ins_seenT hk hs.seen
 have he : eqCells [EK.int, EK.int, EK.int, EK.int, EK.int, EK.int, EK.int, EK.int, EK.int, EK.int, EK.int, EK.int, EK.int, EK.int, EK.int, EK.int, EK.int, EK.int, EK.int, EK.int, EK.int, EK.int, EK.int, EK.int, EK.int, EK.int, EK.int, EK.int, EK.int, EK.int, EK.int, EK.int, EK.int, EK.int, EK.int, EK.int, EK.int, EK.int, EK.int, EK.int, EK.int, EK.int, EK.int, EK.int, EK.int, EK.int, EK.int, EK.int, EK.int, EK.int, EK.int, EK.int, EK.int, EK.int, EK.int, EK.int, EK.int, EK.int, EK.int, EK.int, EK.int, EK.int, EK.int, EK.int, EK.int, EK.int, EK.int, EK.int, EK.int, EK.int, EK.int, EK.int, EK.int, EK.int, EK.int, EK.int, EK.int, EK.int, EK.int, EK.int, EK.int, EK.int, EK.int, EK.int, EK.int, EK.int, EK.int, EK.int, EK.int, EK.int, EK.int, EK.int, EK.int, EK.int, EK.int, EK.int, EK.int, EK.int, EK.int, EK.int, EK.int, EK.int, EK.int, EK.int, EK.int, EK.int, EK.int, EK.int, EK.int, EK.int, EK.int, EK.int] (mV k) (mV k) = some (decide (k = k)) := eq_mV hk hk
 have hf1 : findV [EK.int, EK.int, EK.int, EK.int, EK.int, EK.int, EK.int, EK.int, EK.int, EK.int, EK.int, EK.int, EK.int, EK.int, EK.int, EK.int, EK.int, EK.int, EK.int, EK.int, EK.int, EK.int, EK.int, EK.int, EK.int, EK.int, EK.int, EK.int, EK.int, EK.int, EK.int, EK.int, EK.int, EK.int, EK.int, EK.int, EK.int, EK.int, EK.int, EK.int, EK.int, EK.int, EK.int, EK.int, EK.int, EK.int, EK.int, EK.int, EK.int, EK.int, EK.int, EK.int, EK.int, EK.int, EK.int, EK.int, EK.int, EK.int, EK.int, EK.int, EK.int, EK.int, EK.int, EK.int, EK.int, EK.int, EK.int, EK.int, EK.int, EK.int, EK.int, EK.int, EK.int, EK.int, EK.int, EK.int, EK.int, EK.int, EK.int, EK.int, EK.int, EK.int, EK.int, EK.int, EK.int, EK.int, EK.int, EK.int, EK.int, EK.int, EK.int, EK.int, EK.int, EK.int, EK.int, EK.int, EK.int, EK.int, EK.int, EK.int, EK.int, EK.int, EK.int, EK.int, EK.int, EK.int, EK.int, EK.int, EK.int, EK.int, EK.int, EK.int] (mV k) (seenT s.1) = some (if k ∈ s.1 then some (bV true) else none) := hf
 have hi1 : insV [EK.int, EK.int, EK.int, EK.int, EK.int, EK.int, EK.int, EK.int, EK.int, EK.int, EK.int, EK.int, EK.int, EK.int, EK.int, EK.int, EK.int, EK.int, EK.int, EK.int, EK.int, EK.int, EK.int, EK.int, EK.int, EK.int, EK.int, EK.int, EK.int, EK.int, EK.int, EK.int, EK.int, EK.int, EK.int, EK.int, EK.int, EK.int, EK.int, EK.int, EK.int, EK.int, EK.int, EK.int, EK.int, EK.int, EK.int, EK.int, EK.int, EK.int, EK.int, EK.int, EK.int, EK.int, EK.int, EK.int, EK.int, EK.int, EK.int, EK.int, EK.int, EK.int, EK.int, EK.int, EK.int, EK.int, EK.int, EK.int, EK.int, EK.int, EK.int, EK.int, EK.int, EK.int, EK.int, EK.int, EK.int, EK.int, EK.int, EK.int, EK.int, EK.int, EK.int, EK.int, EK.int, EK.int, EK.int, EK.int, EK.int, EK.int, EK.int, EK.int, EK.int, EK.int, EK.int, EK.int, EK.int, EK.int, EK.int, EK.int, EK.int, EK.int, EK.int, EK.int, EK.int, EK.int, EK.int, EK.int, EK.int, EK.int, EK.int, EK.int] (mV k) (bV true) (seenT s.1) = some (seenT (if k ∈ s.1 then s.1 else s.1 ++ [k])) := hi2
 clear hf hi2
 have hn0 : (0 : Int) ≤ (t.ths.length : Nat) := by omega
 have hall := fun i (hi : i ≤ t.ths.length) => allT_ok ht hM (fun q s hq hs => explT_ok ht n q s hq hs) i hi (s := (s.1 ++ [k], s.2)) ⟨fun q hq => by rcases List.mem_append.1 hq with hq | hq; exact hs.seen q hq; simp at hq; subst hq; exact hM.len, hs.ends⟩
 refine fn_in T_ok func101 rfl rfl ntmps101 rfl (by simp) ?_
 refine region_k T_ok (by decide) fun K hK => ?_
 simp [go_sem, hkl, hko, hkt, nn50, mm50, nn51, mm51, nn52, mm52]
 refine ⟨hko, ?_⟩
 refine hK _ ?_; clear hK K
 refine seq_k fun K1 hK1 => ?_
 refine draw_k T_ok (by kernel_rfl) 5 [[], [0], [0, 1], [0, 1, 2], [], [0, 1, 2, 3, 4]] [] (by decide) (by decide) (by decide) fun K hK => ?_
 first | dsimp only [List.take, List.drop] | dsimp [List.take, List.drop]
 simp [go_sem, hkl, hko, hkt, nn50, mm50, nn51, mm51, nn52, mm52, he, hf1]
 by_cases hk1 : k ∈ s.1
 ·simp [go_sem, hk1]
  refine hK _ ?_; clear hK K
  refine cond_k rfl (fun h => ?_) (fun h => ?_)
  ·clear h
   refine tr_ret ⟨.inr rfl, ?_⟩
   have hex : explT t (n + 1) k s = s := by rw [explT, if_pos hk1]
   rw [hex]
   simp [go_sem]
   exact ⟨_, _, View.del j _, rfl, by simp [Sl.del, nn50, mm50, nn51, mm51, nn52, mm52]⟩
  ·simp at h
 ·simp [go_sem, hk1]
  refine hK _ ?_; clear hK K
  refine cond_k rfl (fun h => ?_) (fun h => ?_)
  ·simp at h
  ·clear h
   refine tr_skip ?_
   refine hK1 _ ?_; try clear hK1 K1
   refine draw_k T_ok (by kernel_rfl) 5 [[], [0], [0, 1], [0, 1, 2], [], [0, 1, 2, 3, 4]] [] (by decide) (by decide) (by decide) fun K hK => ?_
   first | dsimp only [List.take, List.drop] | dsimp [List.take, List.drop]
   simp [go_sem, hkl, hko, hkt, nn50, mm50, nn51, mm51, nn52, mm52, he, hi1, hk1]
   refine hK _ ?_; clear hK K
   refine region_k T_ok (by decide) fun K hK => ?_
   simp [go_sem]
   refine hK _ ?_; clear hK K
   refine seq_k fun K2 hK2 => ?_
   refine region_k T_ok (by decide) fun K hK => ?_
   simp [go_sem, nn50, mm50, nn51, mm51, nn52, mm52, Tst.cs]
   refine hK _ ?_; clear hK K
   refine tr_block ?_
   refine loop_p (α := Nat × Nat) (fun a => ⟨59, [(0, .ptr 2 0 0), (3, .ptr j 0 0), (26, iV (t.ths.length : Nat)), (27, iV (a.1 : Nat)), (4, bV (overT t k a.1))], [(j, .rows 112 [.agg (mV k)]), (2, .rows 3 [.agg [.rp t.cs 0, .map 0, .map 1]]), (0, .map (seenT (allT (explT t n) t k a.1 (s.1 ++ [k], s.2)).1)), (1, .map (seenM (allT (explT t n) t k a.1 (s.1 ++ [k], s.2)).2))], a.2⟩) (fun a => a.1 ≤ t.ths.length ∧ j < a.2) (fun a => t.ths.length - a.1) (0, j + 1 + 5 + 5) ?_ ?_ ?_
   ·exact ⟨Nat.zero_le _, by dsimp only; omega⟩
   ·refine Weaker.fzk 1 0 (by first | omega | (dsimp only; omega)) ?_ ?_ ?_
    ·simp [go_sem, overT, nn50, mm50, nn51, mm51, nn52, mm52]
    ·first | (simp; done) | (simp; omega)
    ·simp [go_sem, allT, Tst.cs, nn50, mm50, nn51, mm51, nn52, mm52]
   rintro ⟨i, jn⟩ ⟨hi, hjn⟩
   dsimp only at hi hjn ⊢
   have nn0 : ¬ jn = 0 := by omega
   have mm0 : ¬ 0 = jn := by omega
   have nn1 : ¬ jn = 1 := by omega
   have mm1 : ¬ 1 = jn := by omega
   have nn2 : ¬ jn = 2 := by omega
   have mm2 : ¬ 2 = jn := by omega
   have nn3 : ¬ j = jn := by omega
   have mm3 : ¬ jn = j := by omega
   refine region_k T_ok (by decide) fun K hK => ?_
   simp [go_sem]
   refine hK _ ?_; clear hK K
   refine seq_k fun K3 hK3 => ?_
   refine cond_k rfl (fun h => ?_) (fun h => ?_)
   ·simp at h
    have hin : i < t.ths.length := by omega
    clear h
    have hi4 : i < 4 := by have := ht.ths; omega
    have hi4I : (i : Int) < 4 := by omega
    have hi0 : (0 : Int) ≤ (i : Nat) := by omega
    have hw1 : IntKind.i64.wrap ((i : Nat) + 1) = (i : Nat) + 1 := wrap_i64 (by omega) (by have := ht.ths; omega)
    have hx : t.ths[i]? = some (lth t i) := by rw [lth, List.getD, List.getElem?_eq_getElem hin]; rfl
    have hl := ht.thr i _ hx
    obtain ⟨p, w, hp, hw, hwp, hpl⟩ := hM.th i hi4
    have hSI := hall i hi
    refine tr_skip ?_
    refine hK3 _ ?_; try clear hK3 K3
    refine seq_k fun K4 hK4 => ?_
    refine tr_block ?_
    refine region_k T_ok (by decide) fun K hK => ?_
    simp [go_sem]
    refine hK _ ?_; clear hK K
    refine region_k T_ok (by decide) fun K hK => ?_
    simp [go_sem, hkl, hko, hkt, nn50, mm50, nn51, mm51, nn52, mm52, nn0, mm0, nn1, mm1, nn2, mm2, nn3, mm3]
    refine ⟨hko, ?_⟩
    refine hK _ ?_; clear hK K
    refine seq_ex (fun ku : Nat => ⟨59, [(0, .ptr 2 0 0), (3, .ptr j 0 0), (26, iV (t.ths.length : Nat)), (27, iV (i : Nat)), (4, bV (overT t k i && (mstepT (lth t i) i k).isNone)), (5, iV (i : Nat))], [(j, .rows 112 [.agg (mV k)]), (2, .rows 3 [.agg [.rp t.cs 0, .map 0, .map 1]]), (0, .map (seenT (vis1 (explT t n) t k i (allT (explT t n) t k i (s.1 ++ [k], s.2))).1)), (1, .map (seenM (vis1 (explT t n) t k i (allT (explT t n) t k i (s.1 ++ [k], s.2))).2))], ku⟩) (fun ku : Nat => j < ku) ?_ ?_
    ·skip
     refine region_k T_ok (by decide) fun K hK => ?_
     simp [go_sem, nn50, mm50, nn51, mm51, nn52, mm52, nn0, mm0, nn1, mm1, nn2, mm2, nn3, mm3]
     refine call_own (step_fn t i hi4 (lth t i) hx hl k hk p hp hpl w hw hwp (hM.loc i hi4) jn (jn + 1) (by omega) (by omega) (by omega)) rfl (by simp [nn0, mm0, nn1, mm1, nn2, mm2, nn3, mm3]) (by simp [go_sem, nn50, mm50, nn51, mm51, nn52, mm52, nn0, mm0, nn1, mm1, nn2, mm2, nn3, mm3]) fun k9 hk9 => ?_
     simp [go_sem, upds, nn50, mm50, nn51, mm51, nn52, mm52, nn0, mm0, nn1, mm1, nn2, mm2, nn3, mm3]
     refine hK _ ?_; clear hK K
     refine cond_k rfl (fun h => ?_) (fun h => ?_)
     ·obtain ⟨q, hq⟩ : ∃ q, mstepT (lth t i) i k = some q := Option.isSome_iff_exists.1 (by simpa using h)
      have hqm := mstepT_ok ht hM hx hq
      have hql : (mV q).length = 112 := mV_112 hqm.1.len
      have hqo := mV_one q
      have hqt : List.take 112 (mV q) = mV q := List.take_of_length_le (by omega)
      have hv1 : vis1 (explT t n) t k i (allT (explT t n) t k i (s.1 ++ [k], s.2)) = explT t n q (allT (explT t n) t k i (s.1 ++ [k], s.2)) := by unfold vis1; rw [hq]
      refine region_k T_ok (by decide) fun K hK => ?_
      simp [go_sem]
      refine hK _ ?_; clear hK K
      refine region_e T_ok (by decide) fun K hK => ?_
      simp [go_sem, nn50, mm50, nn51, mm51, nn52, mm52, nn0, mm0, nn1, mm1, nn2, mm2, nn3, mm3, hq, hql, hqt]
      refine call_own (ih q hqm.1 (by omega) (allT (explT t n) t k i (s.1 ++ [k], s.2)) hSI k9 (by omega)) rfl (by simp) (by simp [go_sem, nn50, mm50, nn51, mm51, nn52, mm52, nn0, mm0, nn1, mm1, nn2, mm2, nn3, mm3]) fun k10 hk10 => ?_
      simp [go_sem, upds, nn50, mm50, nn51, mm51, nn52, mm52, nn0, mm0, nn1, mm1, nn2, mm2, nn3, mm3]
      obtain ⟨ku, hku⟩ : ∃ ku, ku = k10 := ⟨_, rfl⟩
      refine hK _ ?_; clear hK K
      refine ⟨ku, by omega, ?_⟩
      refine Weaker.fzk 1 0 (by omega) ?_ ?_ ?_
      ·simp [go_sem, hq, hv1, nn50, mm50, nn51, mm51, nn52, mm52, nn0, mm0, nn1, mm1, nn2, mm2, nn3, mm3]
      ·first | (simp; done) | (simp; omega)
      ·simp [go_sem, hq, hv1, nn50, mm50, nn51, mm51, nn52, mm52, nn0, mm0, nn1, mm1, nn2, mm2, nn3, mm3]
     ·have hq : mstepT (lth t i) i k = none := by simpa using h
      have hv1 : vis1 (explT t n) t k i (allT (explT t n) t k i (s.1 ++ [k], s.2)) = (allT (explT t n) t k i (s.1 ++ [k], s.2)) := by unfold vis1; rw [hq]
      obtain ⟨ku, hku⟩ : ∃ ku, ku = k9 := ⟨_, rfl⟩
      refine tr_skip ?_
      refine ⟨ku, by omega, ?_⟩
      refine Weaker.fzk 1 0 (by omega) ?_ ?_ ?_
      ·simp [go_sem, hq, hv1, nn50, mm50, nn51, mm51, nn52, mm52, nn0, mm0, nn1, mm1, nn2, mm2, nn3, mm3]
      ·first | (simp; done) | (simp; omega)
      ·simp [go_sem, hq, hv1, nn50, mm50, nn51, mm51, nn52, mm52, nn0, mm0, nn1, mm1, nn2, mm2, nn3, mm3]
    ·rintro ku hku
     have nn20 : ¬ ku = 0 := by omega
     have mm20 : ¬ 0 = ku := by omega
     have nn21 : ¬ ku = 1 := by omega
     have mm21 : ¬ 1 = ku := by omega
     have nn22 : ¬ ku = 2 := by omega
     have mm22 : ¬ 2 = ku := by omega
     have nn23 : ¬ j = ku := by omega
     have mm23 : ¬ ku = j := by omega
     have hS1 := vis1_ok ht hM hin (fun q s hq hs => explT_ok ht n q s hq hs) hSI
     refine region_k T_ok (by decide) fun K hK => ?_
     simp [go_sem, nn50, mm50, nn51, mm51, nn52, mm52, nn0, mm0, nn1, mm1, nn2, mm2, nn3, mm3, mV_112 hk, mV_wait hk hi4, hw, hi4, hi4I, hi0]
     repeat refine ⟨by omega, ?_⟩
     refine hK _ ?_; clear hK K
     refine cond_k rfl (fun h => ?_) (fun h => ?_)
     ·have hw0 : 0 < w := by simpa using h
      obtain ⟨w', rfl⟩ : ∃ w', w = w' + 1 := ⟨w - 1, by omega⟩
      have hl8 := hl.1
      have hds := drainT_spec (w := w') hk hi4 (by omega) (hM.loc i hi4)
      have hdl : (drainT k i w').length = 112 := drainT_len hk hi4 w'
      have hdL : locT (lth t i) i ((lth t i).length + 1) (drainT k i w') = drainL t k i := by unfold drainL; rw [hw]; rfl
      have hdm := drainL_ok ht hM hx (by omega)
      have hgl : (mV (drainL t k i)).length = 112 := mV_112 hdm.1.len
      have hgo := mV_one (drainL t k i)
      have hgt : List.take 112 (mV (drainL t k i)) = mV (drainL t k i) := List.take_of_length_le (by omega)
      have hvs : visT (explT t n) t k i (allT (explT t n) t k i (s.1 ++ [k], s.2)) = explT t n (drainL t k i) (vis1 (explT t n) t k i (allT (explT t n) t k i (s.1 ++ [k], s.2))) := by unfold visT; rw [if_pos (by omega)]
      have hov : decide (gt k (i * 26 + 1) ≤ 0) = false := by simp; omega
      refine region_k T_ok (by decide) fun K hK => ?_
      simp [go_sem]
      refine hK _ ?_; clear hK K
      refine region_k T_ok (by decide) fun K hK => ?_
      simp [go_sem, hkl, hko, hkt, nn50, mm50, nn51, mm51, nn52, mm52, nn20, mm20, nn21, mm21, nn22, mm22, nn23, mm23]
      refine ⟨hko, ?_⟩
      refine hK _ ?_; clear hK K
      refine region_k T_ok (by decide) fun K hK => ?_
      simp [go_sem, nn50, mm50, nn51, mm51, nn52, mm52, nn20, mm20, nn21, mm21, nn22, mm22, nn23, mm23]
      refine call_own (drain_fn k hk i hi4 w' (by rw [hw]; rfl) (by omega) (hM.loc i hi4 0 (by omega)) ku (ku + 1)) rfl (by simp) (by simp [go_sem, nn50, mm50, nn51, mm51, nn52, mm52, nn20, mm20, nn21, mm21, nn22, mm22, nn23, mm23]) fun k11 hk11 => ?_
      simp [go_sem, upds, nn50, mm50, nn51, mm51, nn52, mm52, nn20, mm20, nn21, mm21, nn22, mm22, nn23, mm23]
      refine hK _ ?_; clear hK K
      refine region_k T_ok (by decide) fun K hK => ?_
      simp [go_sem, nn50, mm50, nn51, mm51, nn52, mm52, nn20, mm20, nn21, mm21, nn22, mm22, nn23, mm23, hi4, hi4I, hi0]
      refine call_own (local_fn t i hi4 (lth t i) hx hl (drainT k i w') hdl p (hds.2.1.trans hp) hpl ku k11 (by omega) (by omega) (by omega)) rfl (by simp [nn20, mm20, nn21, mm21, nn22, mm22, nn23, mm23]) (by simp [go_sem, nn50, mm50, nn51, mm51, nn52, mm52, nn20, mm20, nn21, mm21, nn22, mm22, nn23, mm23]) fun k12 hk12 => ?_
      simp [go_sem, upds, hdL, nn50, mm50, nn51, mm51, nn52, mm52, nn20, mm20, nn21, mm21, nn22, mm22, nn23, mm23]
      refine hK _ ?_; clear hK K
      refine region_e T_ok (by decide) fun K hK => ?_
      simp [go_sem, nn50, mm50, nn51, mm51, nn52, mm52, nn20, mm20, nn21, mm21, nn22, mm22, nn23, mm23, hgl, hgt]
      refine call_own (ih (drainL t k i) hdm.1 (by omega) (vis1 (explT t n) t k i (allT (explT t n) t k i (s.1 ++ [k], s.2))) hS1 k12 (by omega)) rfl (by simp) (by simp [go_sem, nn50, mm50, nn51, mm51, nn52, mm52, nn20, mm20, nn21, mm21, nn22, mm22, nn23, mm23]) fun k13 hk13 => ?_
      simp [go_sem, upds, nn50, mm50, nn51, mm51, nn52, mm52, nn20, mm20, nn21, mm21, nn22, mm22, nn23, mm23]
      obtain ⟨kv, hkv⟩ : ∃ kv, kv = k13 := ⟨_, rfl⟩
      refine hK _ ?_; clear hK K
      refine hK4 _ ?_; try clear hK4 K4
      refine region_e T_ok (by decide) fun K hK => ?_
      simp [go_sem, hw1]
      refine hK _ ?_; clear hK K
      refine ⟨(i + 1, kv), ?_, ?_, ?_⟩
      ·dsimp only; exact ⟨by omega, by omega⟩
      ·dsimp only; omega
      ·refine Weaker.fzk 1 0 (by first | omega | (dsimp only; omega)) ?_ ?_ ?_
       ·simp [go_sem, overT_succ, hov, nn50, mm50, nn51, mm51, nn52, mm52, nn0, mm0, nn1, mm1, nn2, mm2, nn3, mm3, nn20, mm20, nn21, mm21, nn22, mm22, nn23, mm23]
       ·first | (simp; done) | (simp; omega)
       simp [go_sem, allT, hvs, nn50, mm50, nn51, mm51, nn52, mm52, nn0, mm0, nn1, mm1, nn2, mm2, nn3, mm3, nn20, mm20, nn21, mm21, nn22, mm22, nn23, mm23]
     ·have hw0 : w = 0 := by simpa using h
      have hvs : visT (explT t n) t k i (allT (explT t n) t k i (s.1 ++ [k], s.2)) = (vis1 (explT t n) t k i (allT (explT t n) t k i (s.1 ++ [k], s.2))) := by unfold visT; rw [if_neg (by omega)]
      have hov : decide (gt k (i * 26 + 1) ≤ 0) = true := by simp; omega
      obtain ⟨kv, hkv⟩ : ∃ kv, kv = ku := ⟨_, rfl⟩
      refine tr_skip ?_
      refine hK4 _ ?_; try clear hK4 K4
      refine region_e T_ok (by decide) fun K hK => ?_
      simp [go_sem, hw1]
      refine hK _ ?_; clear hK K
      refine ⟨(i + 1, kv), ?_, ?_, ?_⟩
      ·dsimp only; exact ⟨by omega, by omega⟩
      ·dsimp only; omega
      ·refine Weaker.fzk 1 0 (by first | omega | (dsimp only; omega)) ?_ ?_ ?_
       ·simp [go_sem, overT_succ, hov, nn50, mm50, nn51, mm51, nn52, mm52, nn0, mm0, nn1, mm1, nn2, mm2, nn3, mm3, nn20, mm20, nn21, mm21, nn22, mm22, nn23, mm23]
       ·first | (simp; done) | (simp; omega)
       simp [go_sem, allT, hvs, nn50, mm50, nn51, mm51, nn52, mm52, nn0, mm0, nn1, mm1, nn2, mm2, nn3, mm3, nn20, mm20, nn21, mm21, nn22, mm22, nn23, mm23]
   ·simp at h
    obtain rfl : i = t.ths.length := by omega
    clear h
    refine tr_exit ?_
    refine hK2 _ ?_; try clear hK2 K2
    refine region_k T_ok (by decide) fun K hK => ?_
    simp [go_sem]
    refine hK _ ?_; clear hK K
    refine cond_k rfl (fun h => ?_) (fun h => ?_)
    ·have hov : overT t k t.ths.length = true := h
     have hex : explT t (n + 1) k s = ((allT (explT t n) t k t.ths.length (s.1 ++ [k], s.2)).1, addK (endK t k) (allT (explT t n) t k t.ths.length (s.1 ++ [k], s.2)).2) := by rw [explT, if_neg hk1]; dsimp only; rw [if_pos hov]
     have hSN := hall t.ths.length (Nat.le_refl _)
     refine region_e T_ok (by decide) fun K hK => ?_
     simp [go_sem, nn50, mm50, nn51, mm51, nn52, mm52]
     refine call_own (end_fn t ht.ths (thr_len ht) (setB_rd ht) ht.locs k hk (allT (explT t n) t k t.ths.length (s.1 ++ [k], s.2)).2 hSN.ends j jn (by omega) (by omega)) rfl (by simp [nn50, mm50, nn51, mm51, nn52, mm52]) (by simp [go_sem, nn50, mm50, nn51, mm51, nn52, mm52]) fun k14 hk14 => ?_
     simp [go_sem, upds, nn50, mm50, nn51, mm51, nn52, mm52]
     refine hK _ ?_; clear hK K
     refine ⟨.inl rfl, ?_⟩
     rw [hex]
     simp [go_sem]
     exact ⟨_, _, View.del j _, rfl, by simp [Sl.del, nn50, mm50, nn51, mm51, nn52, mm52]⟩
    ·have hov : ¬ overT t k t.ths.length = true := by simpa using h
     have hex : explT t (n + 1) k s = (allT (explT t n) t k t.ths.length (s.1 ++ [k], s.2)) := by rw [explT, if_neg hk1]; dsimp only; rw [if_neg hov]
     refine tr_skip ?_
     refine ⟨.inl rfl, ?_⟩
     rw [hex]
     simp [go_sem]
     exact ⟨_, _, View.del j _, rfl, by simp [Sl.del, nn50, mm50, nn51, mm51, nn52, mm52]⟩
end Go.Proofs.Ytflooghnoljpcaa
