/- Texts put together, in order: Gouts, Goutc, W100, Gouth, Gouti, W101, Goutd, Goute, Goutf, Goutj. -/
import Derived.Shelf.SlSortCmp.WholeK
import Derived.KernelRfl
import Derived.Shelf.Strings.OnBuilder
import Derived.LaidLaws
import Derived.LaidHandle
import Derived.LaidMore
import Derived.Stop.Joined
import Derived.SevenTiedAt
import Derived.Test.YtjhnpebgfjefoaaDoorG3
set_option linter.unusedVariables false
set_option linter.unusedSimpArgs false
namespace Go.Proofs.YtjhnpebgfjefoaaDoor
open Go Go.Sl Go.Proofs.Tryd
def sortLay_ren : Go.Shelf.Ren := ⟨fun | 14 => 92 | 20 => 104 | 21 => 105 | 22 => 106 | 23 => 107 | 24 => 108 | 25 => 109 | 26 => 110 | 27 => 111 | 46 => 120 | 47 => 121 | 48 => 122 | 49 => 123 | 50 => 124 | 15 => 93 | 57 => 127 | 28 => 112 | 29 => 113 | n => n, fun | 24 => 26 | 22 => 22 | 3 => 3 | 25 => 27 | 4 => 4 | 0 => 0 | 46 => 177 | 45 => 176 | 50 => 137 | 66 => 190 | 39 => 131 | 55 => 23 | 70 => 193 | 76 => 195 | 77 => 196 | 53 => 87 | 5 => 5 | 9 => 9 | n => n, fun | n => n⟩
theorem sortLay : Go.Proofs.SlLaysF0.n14 Tryd.prog sortLay_ren where
 mixed := by kernel_rfl
 f14 := ⟨"slices.pdqsortCmpFunc[ordeal/outcome.State]", by decide, Tryd.func92.trans (congrArg some (by kernel_rfl))⟩
 f15 := Tryd.func93.trans (congrArg some (by kernel_rfl))
 f20 := ⟨"slices.insertionSortCmpFunc[ordeal/outcome.State]", by decide, Tryd.func104.trans (congrArg some (by kernel_rfl))⟩
 f21 := ⟨"slices.heapSortCmpFunc[ordeal/outcome.State]", by decide, Tryd.func105.trans (congrArg some (by kernel_rfl))⟩
 f22 := ⟨"slices.breakPatternsCmpFunc[ordeal/outcome.State]", by decide, Tryd.func106.trans (congrArg some (by kernel_rfl))⟩
 f23 := ⟨"slices.choosePivotCmpFunc[ordeal/outcome.State]", by decide, Tryd.func107.trans (congrArg some (by kernel_rfl))⟩
 f24 := ⟨"slices.reverseRangeCmpFunc[ordeal/outcome.State]", by decide, Tryd.func108.trans (congrArg some (by kernel_rfl))⟩
 f25 := ⟨"slices.partialInsertionSortCmpFunc[ordeal/outcome.State]", by decide, Tryd.func109.trans (congrArg some (by kernel_rfl))⟩
 f26 := ⟨"slices.partitionEqualCmpFunc[ordeal/outcome.State]", by decide, Tryd.func110.trans (congrArg some (by kernel_rfl))⟩
 f27 := ⟨"slices.partitionCmpFunc[ordeal/outcome.State]", by decide, Tryd.func111.trans (congrArg some (by kernel_rfl))⟩
 f28 := Tryd.func112.trans (congrArg some (by kernel_rfl))
 f29 := Tryd.func113.trans (congrArg some (by kernel_rfl))
 f46 := ⟨"slices.siftDownCmpFunc[ordeal/outcome.State]", by decide, Tryd.func120.trans (congrArg some (by kernel_rfl))⟩
 f47 := Tryd.func121.trans (congrArg some (by kernel_rfl))
 f48 := Tryd.func122.trans (congrArg some (by kernel_rfl))
 f49 := ⟨"slices.medianAdjacentCmpFunc[ordeal/outcome.State]", by decide, Tryd.func123.trans (congrArg some (by kernel_rfl))⟩
 f50 := ⟨"slices.medianCmpFunc[ordeal/outcome.State]", by decide, Tryd.func124.trans (congrArg some (by kernel_rfl))⟩
 f57 := ⟨"slices.order2CmpFunc[ordeal/outcome.State]", by decide, Tryd.func127.trans (congrArg some (by kernel_rfl))⟩
 t0 := Tryd.underlying0
 a0 := Tryd.isAgg0
 z0 := Tryd.sizeOf0
 v0 := Tryd.zeroValue0
 t3 := Tryd.underlying3
 a3 := Tryd.isAgg3
 z3 := Tryd.sizeOf3
 v3 := Tryd.zeroValue3
 t4 := Tryd.underlying4
 a4 := Tryd.isAgg4
 z4 := Tryd.sizeOf4
 v4 := Tryd.zeroValue4
 t5 := Tryd.underlying5
 a5 := Tryd.isAgg5
 z5 := Tryd.sizeOf5
 v5 := Tryd.zeroValue5
 t9 := Tryd.underlying9
 a9 := Tryd.isAgg9
 z9 := Tryd.sizeOf9
 v9 := Tryd.zeroValue9
 t22 := Tryd.underlying22
 a22 := Tryd.isAgg22
 z22 := Tryd.sizeOf22
 v22 := Tryd.zeroValue22
 t25 := Tryd.underlying27
 a25 := Tryd.isAgg27
 z25 := Tryd.sizeOf27
 v25 := Tryd.zeroValue27
 t39 := Tryd.underlying131
 a39 := Tryd.isAgg131
 z39 := Tryd.sizeOf131
 v39 := Tryd.zeroValue131
 t45 := Tryd.underlying176
 a45 := Tryd.isAgg176
 z45 := Tryd.sizeOf176
 v45 := Tryd.zeroValue176
 t46 := Tryd.underlying177
 a46 := Tryd.isAgg177
 z46 := Tryd.sizeOf177
 v46 := Tryd.zeroValue177
 t50 := Tryd.underlying137
 a50 := Tryd.isAgg137
 z50 := Tryd.sizeOf137
 v50 := Tryd.zeroValue137
 t53 := Tryd.underlying87
 a53 := Tryd.isAgg87
 z53 := Tryd.sizeOf87
 v53 := Tryd.zeroValue87
 t55 := Tryd.underlying23
 a55 := Tryd.isAgg23
 z55 := Tryd.sizeOf23
 v55 := Tryd.zeroValue23
 t66 := Tryd.underlying190
 a66 := Tryd.isAgg190
 z66 := Tryd.sizeOf190
 v66 := Tryd.zeroValue190
 t70 := Tryd.underlying193
 a70 := Tryd.isAgg193
 z70 := Tryd.sizeOf193
 v70 := Tryd.zeroValue193
 t76 := Tryd.underlying195
 a76 := Tryd.isAgg195
 z76 := Tryd.sizeOf195
 v76 := Tryd.zeroValue195
 t77 := Tryd.underlying196
 a77 := Tryd.isAgg196
 z77 := Tryd.sizeOf196
 v77 := Tryd.zeroValue196
abbrev St41 := {l : List Int // l.length = 41}
instance : Inhabited St41 := ⟨⟨List.replicate 41 0, rfl⟩⟩
def encL : List Int → List Value
 | [] => []
 | n :: r => .int .i64 n :: r.map fun m => .int .u64 m
theorem encL_V (k : List Int) : (encL k).map V.val = stK k := by
 cases k with
 | nil => rfl
 | cons n r => simp only [encL, List.map_cons, List.map_map, stK]; rfl
theorem encL_len (k : List Int) : (encL k).length = k.length := by cases k <;> simp [encL]
def encS (k : St41) : List Value := encL k.1
theorem rowS (k : St41) : rowOf encS k = .agg (stK k.1) := by simp only [rowOf, encS, encL_V]
def stR (l : List (List Int)) : List V := l.map fun k => .agg (stK k)
theorem stR_len (l : List (List Int)) : (stR l).length = l.length := List.length_map ..
theorem stR_attach (l : List (List Int)) (h : ∀ q ∈ l, q.length = 41) : (l.attach.map fun q => (⟨q.1, h q.1 q.2⟩ : St41)).map (rowOf encS) = stR l := by
 rw [List.map_map]
 have : (rowOf encS ∘ fun q : {x // x ∈ l} => (⟨q.1, h q.1 q.2⟩ : St41)) = fun q => V.agg (stK q.1) := funext fun q => rowS _
 rw [this]
 exact List.attach_map_val (f := fun k => V.agg (stK k)) ..
theorem swo_st : Go.Sort.SWO (Go.Proofs.ltOf fun a b : St41 => cmpL a.1 b.1) where
 irrefl x := ltL_irr x.1
 trans x y z := ltL_trans
 ntrans x y z h h' := by
  show ltL x.1 z.1 = false
  cases hxz : ltL x.1 z.1 with
  | false => rfl
  | true =>
   have h1 : ltL x.1 y.1 = false := h
   have h2 : ltL y.1 z.1 = false := h'
   cases hyx : ltL y.1 x.1 with
   | true => rw [ltL_trans hyx hxz] at h2; cases h2
   | false =>
    have := ltL_total h1 hyx
    rw [this, h2] at hxz; cases hxz
theorem rows_setOf {l : List (List Int)} (hn : l.Nodup) {l' : List St41} (hp : (l'.map (·.1)).Perm l) (hs : l'.Pairwise fun a b => Go.Proofs.ltOf (fun a b : St41 => cmpL a.1 b.1) b a = false) : l'.map (rowOf encS) = stR (setOf l) := by
 have e : l'.map (·.1) = setOf l := by
  refine setOf_eq ?_ fun x => hp.mem_iff
  have hnd : (l'.map (·.1)).Nodup := hp.nodup_iff.2 hn
  rw [Rising, List.pairwise_map]
  rw [List.Nodup, List.pairwise_map] at hnd
  refine (hs.and hnd).imp fun {a b} ⟨h1, h2⟩ => ?_
  have h1' : ltL b.1 a.1 = false := h1
  cases h : ltL a.1 b.1 with
  | true => rfl
  | false => exact absurd (ltL_total h h1') h2
 rw [← e, stR, List.map_map]
 exact List.map_congr_left fun q _ => rowS q
theorem bitsLen_pf (n : Nat) (h : n < 4611686018427387904) : Pf Tryd.prog 93 [.val (.int .u64 (n : Nat))] (iV (Go.Lib.bitLen n : Nat)) := by
 refine ⟨⟨_, sortLay.f15, by kernel_rfl, rfl⟩, fun ι O w cargs _ hv => ?_⟩
 rcases hv with _ | ⟨v0, _ | _⟩
 cases v0
 have h' := Go.Proofs.Any.bits_Len (Go.Proofs.SlLaysF0.n15.bits (P := Tryd.prog) (ρ := sortLay_ren) { sortLay with }) (n : Int) w (by omega) (by omega)
 rw [Int.toNat_natCast] at h'
 refine (show Calls Tryd.prog 93 _ w _ from h').mono ?_
 rintro e w' ⟨he, rfl⟩
 exact ⟨_, he, .val _ rfl, rfl, Tp.refl _, rfl, Nat.le_refl _, fun _ _ => rfl⟩
theorem insNil_fn (r k : Nat) : Sl.Fn Tryd.prog 104 [.sl r 0 0, iV 0, iV 0, .fn (.func 9) [] []] [(r, .rows 41 [])] k fun v H' _ => v = .tup [] ∧ H' = [(r, .rows 41 [])] := by
 refine fn_in T_ok func104 rfl rfl ntmps104 rfl (by simp) ?_
 refine region_k T_ok (by decide) fun K hK => ?_
 simp [go_sem]
 refine hK _ ?_; clear hK K
 refine tr_block ?_
 refine loop_p (α := Unit) (fun u => ⟨53, [(8, iV 1), (2, iV 0)], [(r, .rows 41 [])], k⟩) (fun u => True) (fun u => 0) () ?_ ?_ ?_
 ·trivial
 ·refine Weaker.fz 1 0 ?_ ?_ ?_
  ·simp [go_sem]
  ·first | (simp; done) | (simp; omega)
  ·simp [go_sem]
 rintro _ _
 try dsimp only
 refine seq_k fun K1 hK1 => ?_
 refine region_k T_ok (by decide) fun K hK => ?_
 simp [go_sem]
 refine hK _ ?_; clear hK K
 refine cond_k rfl (fun h => ?_) (fun h => ?_)
 ·simp at h
 ·clear h
  refine tr_exit ?_
  refine ⟨.inl rfl, ?_⟩
  simp [go_sem]
theorem pdqNil_fn (r k : Nat) : Sl.Fn Tryd.prog 92 [.sl r 0 0, iV 0, iV (0 : Nat), iV (Go.Lib.bitLen 0 : Nat), .fn (.func 9) [] []] [(r, .rows 41 [])] k fun v H' _ => v = .tup [] ∧ H' = [(r, .rows 41 [])] := by
 refine fn_in T_ok func92 rfl rfl ntmps92 rfl (by simp) ?_
 refine region_k T_ok (by decide) fun K hK => ?_
 simp [go_sem]
 refine hK _ ?_; clear hK K
 refine region_k T_ok (by decide) fun K hK => ?_
 simp [go_sem]
 refine hK _ ?_; clear hK K
 refine tr_block ?_
 refine loop_p (α := Unit) (fun u => ⟨148, [(0, .sl r 0 0), (1, iV 0), (2, iV 0), (4, .fn (.func 9) [] [])], [(r, .rows 41 [])], k⟩) (fun u => True) (fun u => 0) () ?_ ?_ ?_
 ·trivial
 ·refine Weaker.fz 1 0 ?_ ?_ ?_
  ·simp [go_sem]
  ·first | (simp; done) | (simp; omega)
  ·simp [go_sem]
 rintro _ _
 try dsimp only
 refine tr_block ?_
 refine region_k T_ok (by decide) fun K hK => ?_
 simp [go_sem]
 refine hK _ ?_; clear hK K
 refine seq_k fun K1 hK1 => ?_
 refine region_k T_ok (by decide) fun K hK => ?_
 simp [go_sem]
 refine hK _ ?_; clear hK K
 refine cond_k rfl (fun h => ?_) (fun h => ?_)
 ·clear h
  refine region_k T_ok (by decide) fun K hK => ?_
  simp [go_sem]
  refine call_own (insNil_fn r k) rfl (by simp) (by simp [go_sem]) fun k' hk' => ?_
  simp [go_sem, upds]
  refine hK _ ?_; clear hK K
  refine tr_ret ⟨.inr rfl, ?_⟩
  simp [go_sem]
 ·simp at h
theorem pdqSt_fn (l : List (List Int)) (h41 : ∀ q ∈ l, q.length = 41) (hn : l.Nodup) (hl : l.length < 4611686018427387904) (r k : Nat) :
    Sl.Fn Tryd.prog 92 [.sl r 0 l.length, iV 0, iV (l.length : Nat), iV (Go.Lib.bitLen l.length : Nat), .fn (.func 9) [] []] [(r, .rows 41 (stR l))] k fun v H' _ => v = .tup [] ∧ H' = [(r, .rows 41 (stR (setOf l)))] := by
  by_cases he : l = []
  · subst he
    exact pdqNil_fn r k
  · have hb : Go.Lib.bitLen l.length < 4611686018427387904 := Nat.lt_of_le_of_lt (Go.Lib.bitLen_le l.length 62 (by omega) (by omega)) (by omega)
    have := pdq_fn (enc := encS) (K := 41) sortLay Tryd.isAgg26 Tryd.sizeOf26 (fun x => (encL_len x.1).trans x.2) (fun x v hv => by
        obtain ⟨q, hq⟩ := x
        cases q with
        | nil => cases hv
        | cons n q =>
          cases hv with
          | head => rfl
          | tail _ hv => obtain ⟨m, _, rfl⟩ := List.mem_map.1 hv; rfl) (fun a b => cmpL a.1 b.1) swo_st 9 (fun x y => by rw [rowS, rowS]; exact compare_pf x.1 y.1 x.2 y.2) r k
        (l.attach.map fun q => (⟨q.1, h41 q.1 q.2⟩ : St41)) (by simpa using he) (by simpa using hl) _ hb
    rw [stR_attach, List.length_map, List.length_attach] at this
    refine (show Sl.Fn Tryd.prog 92 _ _ k _ from this).mono ?_
    rintro v H' k' ⟨rfl, l', hp, hs, rfl⟩
    refine ⟨rfl, ?_⟩
    rw [rows_setOf hn ?_ hs]
    have := hp.map (·.1)
    rwa [List.map_map, show ((fun x : St41 => x.1) ∘ fun q : {x // x ∈ l} => (⟨q.1, h41 q.1 q.2⟩ : St41)) = fun q => q.1 from rfl, List.attach_map_subtype_val] at this
theorem sortFunc_fn (l : List (List Int)) (h41 : ∀ q ∈ l, q.length = 41) (hn : l.Nodup) (hl : l.length < 4611686018427387904) (r k : Nat) : Sl.Fn Tryd.prog 69 [.sl r 0 l.length, .fn (.func 9) [] []] [(r, .rows 41 (stR l))] k fun v H' _ => v = .tup [] ∧ H' = [(r, .rows 41 (stR (setOf l)))] := by
 have hw : IntKind.u64.wrap (l.length : Int) = (l.length : Nat) := by simp [IntKind.wrap, IntKind.bits, IntKind.signed]; omega
 refine fn_in T_ok func69 rfl rfl ntmps69 rfl (by simp) ?_
 refine region_k T_ok (by decide) fun K hK => ?_
 simp [go_sem]
 refine hK _ ?_; clear hK K
 refine region_e T_ok (by decide) fun K hK => ?_
 simp [go_sem, hw]
 refine call_pf (bitsLen_pf l.length hl) ?_
 simp [go_sem, hw]
 refine call_own (pdqSt_fn l h41 hn hl r k) rfl (by simp) (by simp [go_sem]) fun k' hk' => ?_
 simp [go_sem, upds]
 refine hK _ ?_; clear hK K
 refine ⟨.inl rfl, ?_⟩
 simp [go_sem]
open Go Go.Sl Go.Proofs.Tryd
theorem nodup_len : ∀ (n : Nat) {d : List Nat}, d.Nodup → (∀ i ∈ d, i < n) → d.length ≤ n
 | 0, d, _, h => by cases d with | nil => simp | cons x d => exact absurd (h x (.head _)) (by omega)
 | n + 1, d, hd, h => by
  have h1 := nodup_len n (hd.erase n) fun i hi => by
   have h2 := h i (List.mem_of_mem_erase hi)
   have h3 : i ≠ n := fun e => by subst e; exact (hd.not_mem_erase) hi
   omega
  have h4 : d.length ≤ (d.erase n).length + 1 := by
   by_cases hm : n ∈ d
   ·rw [List.length_erase_of_mem hm]; omega
   ·rw [List.erase_of_not_mem hm]; omega
  omega
def pk (l : List (List Int)) (d : List Nat) : List (List Int) := d.map fun i => l.getD i []
@[simp] theorem pk_len (l : List (List Int)) (d : List Nat) : (pk l d).length = d.length := List.length_map ..
theorem pk_append (l : List (List Int)) (d : List Nat) (i : Nat) : pk l (d ++ [i]) = pk l d ++ [l.getD i []] := by simp [pk]
theorem stR_append (a b : List (List Int)) : stR (a ++ b) = stR a ++ stR b := List.map_append ..
theorem stR_one (a : List Int) : stR [a] = [.agg (stK a)] := rfl
theorem insR_len {x : List Int} : ∀ {l : List (List Int)}, x ∉ l → (insR x l).length = l.length + 1
 | [], _ => rfl
 | y :: l, h => by
  unfold insR
  split
  ·rfl
  ·split
   ·rename_i e; exact absurd (e ▸ .head _) h
   ·rw [List.length_cons, insR_len fun hm => h (.tail _ hm), List.length_cons]
theorem setOf_len : ∀ {l : List (List Int)}, l.Nodup → (setOf l).length = l.length
 | [], _ => rfl
 | x :: l, h => by
  have h' := List.nodup_cons.1 h
  rw [show setOf (x :: l) = insR x (setOf l) from rfl, insR_len fun hm => h'.1 (mem_setOf.1 hm), setOf_len h'.2, List.length_cons]
theorem stK_one (q : List Int) : ∀ x ∈ stK q, x.one = true := by
 intro x hx
 cases q with
 | nil => cases hx
 | cons n r =>
  rw [stK] at hx
  cases hx with
  | head => rfl
  | tail _ h => obtain ⟨m, _, rfl⟩ := List.mem_map.1 h; rfl
theorem stR_pk_nil (l : List (List Int)) : stR (pk l []) = [] := rfl
theorem pk_mem {l : List (List Int)} {d : List Nat} (hd : ∀ i ∈ d, i < l.length) {q : List Int} (h : q ∈ pk l d) : q ∈ l := by
 obtain ⟨i, hi, rfl⟩ := List.mem_map.1 h
 have := hd i hi
 simp [List.getD, this]
theorem pk_all {l : List (List Int)} {d : List Nat} (h : ∀ i, i < l.length → i ∈ d) {q : List Int} (hq : q ∈ l) : q ∈ pk l d := by
 obtain ⟨i, hi, rfl⟩ := List.mem_iff_getElem.1 hq
 exact List.mem_map.2 ⟨i, h i hi, by simp [List.getD, hi]⟩
theorem pk_nodup {l : List (List Int)} (hl : l.Nodup) : ∀ {d : List Nat}, (∀ i ∈ d, i < l.length) → d.Nodup → (pk l d).Nodup
 | [], _, _ => List.nodup_nil
 | i :: d, hd, hn => by
  have hn' := List.nodup_cons.1 hn
  rw [pk, List.map_cons, List.nodup_cons]
  refine ⟨fun h => ?_, pk_nodup hl (fun j hj => hd j (.tail _ hj)) hn'.2⟩
  obtain ⟨j, hj, e⟩ := List.mem_map.1 h
  have h1 := hd i (.head _)
  have h2 := hd j (.tail _ hj)
  simp only [List.getD, List.getElem?_eq_getElem h1, List.getElem?_eq_getElem h2, Option.getD_some] at e
  rw [List.getElem_inj hl] at e
  exact hn'.1 (e ▸ hj)
theorem seenM_get {l : List (List Int)} {i : Nat} {p : V × V} (h : (seenM l)[i]? = some p) : ∃ q, l[i]? = some q ∧ p = (.agg (stK q), bV true) := by
 rw [seenM, List.getElem?_map] at h
 cases hq : l[i]? with
 | none => rw [hq] at h; cases h
 | some q => rw [hq] at h; exact ⟨q, rfl, (Option.some.inj h).symm⟩
set_option maxHeartbeats 4000000 in
theorem of_fn (l : List (List Int)) (h41 : ∀ q ∈ l, q.length = 41) (hn : l.Nodup) (hl : l.length ≤ 400000000000) (n k : Nat) (hnk : n < k) : Sl.Fn Tryd.prog 66 [.map n] [(n, .map (seenM l))] k fun v H _ => v = .ro 41 (stR (setOf l)) ∧ H = [] := by
 refine Fn.view ?_
 have nn50 : ¬ n = k := by omega
 have mm50 : ¬ k = n := by omega
 have nn51 : ¬ n = k + 1 := by omega
 have mm51 : ¬ k + 1 = n := by omega
 refine fn_in T_ok func66 rfl rfl ntmps66 rfl (by simp) ?_
 refine region_k T_ok (by decide) fun K hK => ?_
 simp [go_sem]
 refine hK _ ?_; clear hK K
 refine region_k T_ok (by decide) fun K hK => ?_
 simp [go_sem]
 refine hK _ ?_; clear hK K
 refine seq_k fun K1 hK1 => ?_
 refine region_k T_ok (by decide) fun K hK => ?_
 simp [go_sem, nn50, mm50, nn51, mm51]
 refine hK _ ?_; clear hK K
 refine tr_block ?_
 refine Tr.weaken (Weaker.ghost 3 41 rfl) ?_
 refine loop_p (α := List Nat × Nat) (fun a => ⟨18, [(0, .map n), (6, .ptr k 0 0), (3, .sl a.2 0 a.1.length)], [(n, .map (seenM l)), (k, .iter n a.1 l.length), (a.2, .rows 41 (stR (pk l a.1)))], a.2 + 1⟩) (fun a => a.1.Nodup ∧ (∀ i ∈ a.1, i < l.length) ∧ k < a.2) (fun a => l.length - a.1.length) ([], k + 1) ?_ ?_ ?_
 ·exact ⟨List.nodup_nil, by simp, Nat.lt_succ_self k⟩
 ·refine Weaker.fz 1 0 ?_ ?_ ?_
  ·simp [go_sem, nn50, mm50, nn51, mm51, seenM_len, stR_pk_nil]
  ·first | (simp; done) | (simp; omega)
  ·simp [go_sem, nn50, mm50, nn51, mm51, seenM_len, stR_pk_nil]
 rintro ⟨d, j⟩ ⟨hd, hdl, hkj⟩
 dsimp only at hd hdl hkj ⊢
 have nn0 : ¬ n = k := by omega
 have mm0 : ¬ k = n := by omega
 have nn1 : ¬ n = j := by omega
 have mm1 : ¬ j = n := by omega
 have nn2 : ¬ k = j := by omega
 have mm2 : ¬ j = k := by omega
 have nn3 : ¬ n = j + 1 := by omega
 have mm3 : ¬ j + 1 = n := by omega
 have nn4 : ¬ n = j + 2 := by omega
 have mm4 : ¬ j + 2 = n := by omega
 have nn5 : ¬ n = j + 3 := by omega
 have mm5 : ¬ j + 3 = n := by omega
 have nn6 : ¬ n = j + 4 := by omega
 have mm6 : ¬ j + 4 = n := by omega
 have nn7 : ¬ k = j + 1 := by omega
 have mm7 : ¬ j + 1 = k := by omega
 have nn8 : ¬ k = j + 2 := by omega
 have mm8 : ¬ j + 2 = k := by omega
 have nn9 : ¬ k = j + 3 := by omega
 have mm9 : ¬ j + 3 = k := by omega
 have nn10 : ¬ k = j + 4 := by omega
 have mm10 : ¬ j + 4 = k := by omega
 refine reg_start ?_
 refine reg_next rfl rfl rfl (by decide) k n l.length d (seenM l) (by simp [go_sem, seenM_len, nn0, mm0, nn1, mm1, nn2, mm2, nn3, mm3, nn4, mm4, nn5, mm5, nn6, mm6, nn7, mm7, nn8, mm8, nn9, mm9, nn10, mm10]) (by simp [go_sem, seenM_len, nn0, mm0, nn1, mm1, nn2, mm2, nn3, mm3, nn4, mm4, nn5, mm5, nn6, mm6, nn7, mm7, nn8, mm8, nn9, mm9, nn10, mm10]) (by simp [go_sem, seenM_len, nn0, mm0, nn1, mm1, nn2, mm2, nn3, mm3, nn4, mm4, nn5, mm5, nn6, mm6, nn7, mm7, nn8, mm8, nn9, mm9, nn10, mm10]) (by simp [go_sem, seenM_len, nn0, mm0, nn1, mm1, nn2, mm2, nn3, mm3, nn4, mm4, nn5, mm5, nn6, mm6, nn7, mm7, nn8, mm8, nn9, mm9, nn10, mm10]) ?_ ?_
 ·intro hall
  refine reg_end T_ok (by decide) fun K hK => ?_
  simp [go_sem]
  refine hK _ ?_; clear hK K
  refine seq_k fun K2 hK2 => ?_
  refine cond_k rfl (fun h => ?_) (fun h => ?_)
  ·simp at h
  ·simp at h
   refine tr_exit ?_
   refine hK1 _ ?_; try clear hK1 K1
   refine region_k T_ok (by decide) fun K hK => ?_
   have hdn := nodup_len _ hd hdl
   simp [go_sem, nn0, mm0, nn1, mm1, nn2, mm2, nn3, mm3, nn4, mm4, nn5, mm5, nn6, mm6, nn7, mm7, nn8, mm8, nn9, mm9, nn10, mm10]
   have hs := sortFunc_fn (pk l d) (fun q hq => h41 q (pk_mem hdl hq)) (pk_nodup hn hdl hd) (by simp; omega) j (j + 1)
   rw [pk_len] at hs
   have hso : setOf (pk l d) = setOf l := setOf_congr fun x => ⟨pk_mem hdl, pk_all hall⟩
   rw [hso] at hs
   refine call_own hs rfl (by simp) (by simp [go_sem, nn0, mm0, nn1, mm1, nn2, mm2, nn3, mm3, nn4, mm4, nn5, mm5, nn6, mm6, nn7, mm7, nn8, mm8, nn9, mm9, nn10, mm10]) fun k' hk' => ?_
   simp [go_sem, upds, nn0, mm0, nn1, mm1, nn2, mm2, nn3, mm3, nn4, mm4, nn5, mm5, nn6, mm6, nn7, mm7, nn8, mm8, nn9, mm9, nn10, mm10]
   refine hK _ ?_; clear hK K
   refine region_k T_ok (by decide) fun K hK => ?_
   simp [go_sem]
   refine hK _ ?_; clear hK K
   refine tr_ret ⟨.inr rfl, ?_⟩
   simp [go_sem]
   exact ⟨_, _, (View.freezeAll (sz := 41) (es := stR (setOf l)) (by simp [go_sem, nn0, mm0, nn1, mm1, nn2, mm2, nn3, mm3, nn4, mm4, nn5, mm5, nn6, mm6, nn7, mm7, nn8, mm8, nn9, mm9, nn10, mm10]) (by rw [stR_len, ← hso, setOf_len (pk_nodup hn hdl hd), pk_len])).trans (View.nil _), rfl, rfl⟩
 ·intro i p hp hi
  obtain ⟨q, hq, rfl⟩ := seenM_get hp
  have hil : i < l.length := (List.getElem?_eq_some_iff.1 hq).1
  have hd2 : (d ++ [i]).Nodup := List.nodup_append.2 ⟨hd, by simp, by intro a ha b hb; simp at hb; subst hb; exact fun e => hi (e ▸ ha)⟩
  have hdl2 : ∀ x ∈ d ++ [i], x < l.length := by intro x hx; rcases List.mem_append.1 hx with h | h; exact hdl x h; simp at h; omega
  have hdn := nodup_len _ hd hdl
  have hql : (stK q).length = 41 := (stK_len q).trans (h41 q (List.mem_of_getElem? hq))
  have hqo : ∀ x ∈ stK q, x.one = true := stK_one q
  have hqt : List.take 41 (stK q) = stK q := List.take_of_length_le (by omega)
  have hst : List.take d.length (stR (pk l d)) = stR (pk l d) := List.take_of_length_le (by simp [stR_len])
  refine reg_end T_ok (by decide) fun K hK => ?_
  simp [go_sem]
  refine hK _ ?_; clear hK K
  refine seq_k fun K3 hK3 => ?_
  refine cond_k rfl (fun h => ?_) (fun h => ?_)
  ·simp at h
   refine tr_skip ?_
   refine hK3 _ ?_; try clear hK3 K3
   refine tr_block ?_
   refine region_k T_ok (by decide) fun K hK => ?_
   simp [go_sem, hp, hq, seenM_len, hql, hqo, nn0, mm0, nn1, mm1, nn2, mm2, nn3, mm3, nn4, mm4, nn5, mm5, nn6, mm6, nn7, mm7, nn8, mm8, nn9, mm9, nn10, mm10]
   refine ⟨hqo, ?_⟩
   refine hK _ ?_; clear hK K
   refine region_e T_ok (by decide) fun K hK => ?_
   simp [go_sem, nn0, mm0, nn1, mm1, nn2, mm2, nn3, mm3, nn4, mm4, nn5, mm5, nn6, mm6, nn7, mm7, nn8, mm8, nn9, mm9, nn10, mm10, hql, hqo, hqt, hst, stR_len, pk_len]
   refine ⟨hqo, by omega, ?_⟩
   refine hK _ ?_; clear hK K
   refine ⟨(d ++ [i], j + 3), ?_, ?_, ?_⟩
   ·exact ⟨hd2, hdl2, by omega⟩
   ·have := nodup_len _ hd2 hdl2; simp at this; simp; omega
   ·refine Weaker.fz 1 0 ?_ ?_ ?_
    ·simp [go_sem, nn0, mm0, nn1, mm1, nn2, mm2, nn3, mm3, nn4, mm4, nn5, mm5, nn6, mm6, nn7, mm7, nn8, mm8, nn9, mm9, nn10, mm10]
    ·first | (simp; done) | (simp; omega)
    simp [go_sem, pk_append, stR_append, stR_one, hq, nn0, mm0, nn1, mm1, nn2, mm2, nn3, mm3, nn4, mm4, nn5, mm5, nn6, mm6, nn7, mm7, nn8, mm8, nn9, mm9, nn10, mm10]
  ·simp at h
end Go.Proofs.YtjhnpebgfjefoaaDoor
namespace Go.Sl
abbrev mdF : Md := ⟨False⟩
theorem Pf.lo {P : Program} {f : FuncId} {args : List V} {r : V} (h : Pf P f args r) : @Pf mdF P f args r :=
 @Pf.mk mdF P f args r h.enters fun ι O w cargs h1 h2 => (h.calls ι O w cargs h1 h2).mono fun _ _ ⟨cv, a, b, c, d, e⟩ => ⟨cv, a, b, c, ⟨d.1, fun x => False.elim x⟩, e⟩
section
local instance (priority := 2000) mdG : Md := mdF
def strV (l : List ByteArray) : List V := l.map fun s => .val (.string s)
@[go_sem] theorem strV_len (l : List ByteArray) : (strV l).length = l.length := List.length_map ..
theorem strV_append (l : List ByteArray) (s : ByteArray) : strV l ++ [.val (.string s)] = strV (l ++ [s]) := by simp [strV]
@[go_sem] theorem strV_take (l : List ByteArray) (n : Nat) : (strV l).take n = strV (l.take n) := (List.map_take ..).symm
theorem strV_nil : strV [] = [] := rfl
theorem strV_cells (l : List ByteArray) : (strV l).flatMap V.cells = (l.map Value.string).map V.val := by
 unfold strV
 induction l with
 | nil => rfl
 | cons x l ih => simp [V.cells, ih]
def joinT (l : List ByteArray) (sep : ByteArray) : ByteArray := ⟨(Go.Lib.join (l.map (·.data.toList)) sep.data.toList).toArray⟩
open Go.Proofs Go.RowKit in
theorem join_pf {P : Program} {ρ : Go.Shelf.Ren} (L : Go.Proofs.Lays.n156 P ρ) (X : Builder.Extra P ρ) (hE : Enters P (ρ.f 156)) (l : List ByteArray) (sep : ByteArray) (h1 : l.length ≤ 140737488355328)
    (h2 : (Go.Lib.join (l.map (·.data.toList)) sep.data.toList).length ≤ 140737488355328) : @Pf mdF P (ρ.f 156) [.ro 1 (strV l), .val (.string sep)] (.val (.string (joinT l sep))) := by
  refine ⟨hE, fun ι O w cargs hO hv => ?_⟩
  have fin : ∀ {e : Ending} {w' : World}, e = .returned (.string (joinT l sep)) → Below w.heap.size w w' → ∃ cv, e = .returned cv ∧ VRel ι O w' (.val (.string (joinT l sep))) cv ∧
      w'.os = w.os ∧ @Tp mdF w w' ∧ w'.output = w.output ∧ w.heap.size ≤ w'.heap.size ∧ ∀ b, b < w.heap.size → w'.heap[b]? = w.heap[b]? :=
    fun he b => ⟨_, he, .val _ rfl, b.os, ⟨b.tape, fun d => d.elim⟩, b.output, b.size, b.block⟩
  rcases hv with _ | ⟨v0, _ | ⟨v1, _ | _⟩⟩
  cases v1
  generalize hes : strV l = es at v0
  cases v0 with
  | ro0 =>
    have hl : l = [] := List.map_eq_nil_iff.1 hes
    subst hl
    exact (Any.strings_Join_none L X _ _ sep w).mono fun e w' ⟨he, hw⟩ => fin he (hw ▸ Below.refl _ _)
  | ro hb hO' hw hsz hlen hlc hin hvs hr =>
    rename_i b off len cap c et fr vs
    subst hes hvs
    rw [strV_len] at hlen hin
    rw [strV_cells] at hr
    have hr := vrels_val_eq hr
    subst hlen
    rw [strV_len] at hr
    refine (Any.strings_Join L X b off cap l sep w (fun j x hx => ?_) hb h1 hlc h2).mono fun e w' ⟨he, hw'⟩ => fin he hw'
    have hj := (List.getElem?_eq_some_iff.1 hx).1
    have : (l.map Value.string)[j]? = some (.string x) := by rw [List.getElem?_map, hx]; rfl
    rw [← hr, List.getElem?_take_of_lt (by omega), List.getElem?_drop, Array.getElem?_toList] at this
    simp [World.cell?, hw, this]
end
end Go.Sl
namespace Go.Proofs.YtjhnpebgfjefoaaDoor
open Go Go.Sl
def nmX (t : Tst) (nm : Nat → ByteArray) (p : Slo) : ByteArray := if p.1 < 0 then (t.locs.getD p.2.toNat ⟨ByteArray.empty, 0⟩).name else nm p.1.toNat ++ ⟨#[58, 114]⟩ ++ nm p.2.toNat
def txX (t : Tst) (nm : Nat → ByteArray) (p : Slo) (v : Int) : ByteArray := nmX t nm p ++ ⟨#[61]⟩ ++ nm v.toNat
def txL (t : Tst) (nm : Nat → ByteArray) (r : List Int) : List ByteArray := List.zipWith (txX t nm) (slotsT t) r
theorem txL_at {t : Tst} {nm : Nat → ByteArray} {r : List Int} {i : Nat} {p : Slo} {v : Int} (h : (slotsT t)[i]? = some p) (h' : r[i]? = some v) : (txL t nm r)[i]? = some (txX t nm p v) := by
 unfold txL; rw [List.getElem?_zipWith, h, h']
theorem txL_len {t : Tst} {nm : Nat → ByteArray} {r : List Int} (h : (slotsT t).length ≤ r.length) : (txL t nm r).length = (slotsT t).length := by unfold txL; rw [List.length_zipWith]; omega
theorem nmX_size {t : Tst} {nm : Nat → ByteArray} (hnm : ∀ l ∈ t.locs, l.name.size ≤ 1000000) (hns : ∀ n, (nm n).size ≤ 20) (p : Slo) : (nmX t nm p).size ≤ 1000042 := by
 unfold nmX
 split
 ·by_cases hb : p.2.toNat < t.locs.length
  ·have := hnm _ (List.getElem_mem hb)
   simp [List.getD, hb]; omega
  ·simp [List.getD, List.getElem?_eq_none (Nat.not_lt.1 hb)]
 ·have h1 := hns p.1.toNat
  have h2 := hns p.2.toNat
  have : (ByteArray.mk #[58, 114]).size = 2 := rfl
  simp only [ByteArray.size_append]; omega
theorem txL_size {t : Tst} {nm : Nat → ByteArray} {r : List Int} (hnm : ∀ l ∈ t.locs, l.name.size ≤ 1000000) (hns : ∀ n, (nm n).size ≤ 20) {x : ByteArray} (hx : x ∈ txL t nm r) : x.size ≤ 10000000 := by
 unfold txL at hx
 obtain ⟨k, hk, rfl⟩ := List.mem_iff_getElem.1 hx
 rw [List.getElem_zipWith]
 rw [List.length_zipWith] at hk
 unfold txX
 have h1 := nmX_size hnm hns ((slotsT t)[k]'(by omega))
 have h2 := hns (r[k]'(by omega)).toNat
 have : (ByteArray.mk #[61]).size = 1 := rfl
 simp only [ByteArray.size_append]; omega
theorem joinT_len : ∀ (l : List (List UInt8)) (sep : List UInt8) (m : Nat), (∀ x ∈ l, x.length + sep.length ≤ m) → (Go.Lib.join l sep).length ≤ l.length * m
 | [], sep, m, _ => by simp [Go.Lib.join_nil]
 | x :: r, sep, m, h => by
  rw [Go.Lib.join_cons]
  have hx := h x (.head _)
  have : ∀ r : List (List UInt8), (∀ x ∈ r, x.length + sep.length ≤ m) → (Go.Lib.joinTail sep r).length ≤ r.length * m := fun r => by
   induction r with
   | nil => intro _; simp [Go.Lib.joinTail]
   | cons y r ih =>
    intro h
    have := ih fun x hx => h x (.tail _ hx)
    have hy := h y (.head _)
    unfold Go.Lib.joinTail at this ⊢
    simp only [List.map_cons, List.flatten_cons, List.length_append, List.length_cons, Nat.succ_mul]
    omega
  have := this r fun x hx => h x (.tail _ hx)
  rw [List.length_append, List.length_cons, Nat.succ_mul]; omega
open Go Go.Sl Go.Proofs.Tryd
local instance (priority := 2000) mdH : Md := mdF
def joinRen : Go.Shelf.Ren := ⟨fun | 156 => 62 | 165 => 88 | 166 => 89 | 169 => 90 | 240 => 102 | 241 => 103 | 276 => 118 | 277 => 119 | n => n, fun | 31 => 127 | 9 => 9 | 3 => 3 | 4 => 4 | 0 => 0 | 20 => 20 | 72 => 157 | 76 => 161 | 70 => 155 | 37 => 80 | 75 => 160 | 127 => 174 | 164 => 187 | 5 => 5 | 80 => 85 | n => n, fun | n => n⟩
theorem joinLay : Go.Proofs.Lays.n156 Tryd.prog joinRen := {
 mixed := by kernel_rfl
 f156 := Tryd.func62.trans (congrArg some (by kernel_rfl))
 f165 := Tryd.func88.trans (congrArg some (by kernel_rfl))
 f166 := Tryd.func89.trans (congrArg some (by kernel_rfl))
 f169 := Tryd.func90.trans (congrArg some (by kernel_rfl))
 f240 := Tryd.func102.trans (congrArg some (by kernel_rfl))
 f241 := Tryd.func103.trans (congrArg some (by kernel_rfl))
 f276 := Tryd.func118.trans (congrArg some (by kernel_rfl))
 f277 := Tryd.func119.trans (congrArg some (by kernel_rfl))
 t0 := Tryd.underlying0
 a0 := Tryd.isAgg0
 z0 := Tryd.sizeOf0
 v0 := Tryd.zeroValue0
 t3 := Tryd.underlying3
 a3 := Tryd.isAgg3
 z3 := Tryd.sizeOf3
 v3 := Tryd.zeroValue3
 t4 := Tryd.underlying4
 a4 := Tryd.isAgg4
 z4 := Tryd.sizeOf4
 v4 := Tryd.zeroValue4
 t9 := Tryd.underlying9
 a9 := Tryd.isAgg9
 z9 := Tryd.sizeOf9
 v9 := Tryd.zeroValue9
 t20 := Tryd.underlying20
 a20 := Tryd.isAgg20
 z20 := Tryd.sizeOf20
 v20 := Tryd.zeroValue20
 t31 := Tryd.underlying127
 a31 := Tryd.isAgg127
 z31 := Tryd.sizeOf127
 v31 := Tryd.zeroValue127
 t37 := Tryd.underlying80
 a37 := Tryd.isAgg80
 z37 := Tryd.sizeOf80
 v37 := Tryd.zeroValue80
 t70 := Tryd.underlying155
 a70 := Tryd.isAgg155
 z70 := Tryd.sizeOf155
 v70 := Tryd.zeroValue155
 t72 := Tryd.underlying157
 a72 := Tryd.isAgg157
 z72 := Tryd.sizeOf157
 v72 := Tryd.zeroValue157
 t75 := Tryd.underlying160
 a75 := Tryd.isAgg160
 z75 := Tryd.sizeOf160
 v75 := Tryd.zeroValue160
 t76 := Tryd.underlying161
 a76 := Tryd.isAgg161
 z76 := Tryd.sizeOf161
 v76 := Tryd.zeroValue161
 t127 := Tryd.underlying174
 a127 := Tryd.isAgg174
 z127 := Tryd.sizeOf174
 v127 := Tryd.zeroValue174
 t164 := Tryd.underlying187
 a164 := Tryd.isAgg187
 z164 := Tryd.sizeOf187
 v164 := Tryd.zeroValue187 }
theorem joinX : Go.Proofs.Builder.Extra Tryd.prog joinRen := {
 sizeBuilder := by kernel_rfl
 liesBuilder := by kernel_rfl
 t5 := Tryd.underlying5
 a5 := Tryd.isAgg5
 z5 := Tryd.sizeOf5
 v5 := Tryd.zeroValue5
 infoByte := by kernel_rfl
 cellsByte := by kernel_rfl
 sizeByte := by kernel_rfl
 neB5 := by decide }
theorem joinP (l : List ByteArray) (h0 : l.length ≤ 1000) (h : ∀ x ∈ l, x.size ≤ 10000000) : Pf Tryd.prog 62 [.ro 1 (strV l), .val (.string ⟨#[32]⟩)] (.val (.string (joinT l ⟨#[32]⟩))) := by
 refine join_pf joinLay joinX ⟨_, Tryd.func62, rfl, rfl⟩ l _ (by omega) ?_
 refine Nat.le_trans (joinT_len _ _ 10000001 fun x hx => ?_) ?_
 ·obtain ⟨y, hy, rfl⟩ := List.mem_map.1 hx
  have := h y hy
  have e : y.data.toList.length = y.size := Array.length_toList
  rw [e]
  show y.size + 1 ≤ _
  omega
 ·rw [List.length_map]; omega
set_option maxHeartbeats 4000000 in
theorem text_pf (t : Tst) (ht : t.ths.length ≤ 4) (hl : ∀ x ∈ t.ths, x.length ≤ 1000) (hrd : ∀ l ∈ t.ths, ∀ x ∈ l, setB x.op = true → 0 ≤ x.rd ∧ x.rd < 8) (hlo : t.locs.length ≤ 8) (hnm : ∀ l ∈ t.locs, l.name.size ≤ 1000000)
    (nm : Nat → ByteArray) (hns : ∀ n, (nm n).size ≤ 20) (m : Int) (r : List Int) (hr : r.length = 40) (hit : ∀ n : Nat, n < 8 → Pf Tryd.prog 60 [iV n] (.val (.string (nm n)))) (hfu : ∀ v ∈ r, Pf Tryd.prog 61 [uV v, iV 10] (.val (.string (nm v.toNat)))) : Pf Tryd.prog 21 [.rp t.cs 0, .agg (iV m :: uVs r)] (.val (.string (joinT (txL t nm r) ⟨#[32]⟩))) := by
  refine Pf.of_fz 1 (.cons (nl_rp t) (.cons (.agg (nl_stK (m :: r))) .nil)) (.val _) ?_
  have hs40 := slotsT_len ht hlo
  have hslots := slots_pf t (by omega) hl hrd (by omega)
  have htl : (txL t nm r).length = (slotsT t).length := txL_len (by omega)
  refine fn_in T_ok func21 rfl rfl ntmps21 rfl (by simp) ?_
  refine region_k T_ok (by decide) fun K hK => ?_
  simp [go_sem, hr, us_ones]
  refine hK _ ?_; clear hK K
  refine region_k T_ok (by decide) fun K hK => ?_
  simp [go_sem]
  refine hK _ ?_; clear hK K
  refine seq_k fun K1 hK1 => ?_
  refine region_k T_ok (by decide) fun K hK => ?_
  simp [go_sem]
  refine call_pf hslots.lo ?_
  simp [go_sem]
  refine hK _ ?_; clear hK K
  refine tr_block ?_
  refine Tr.weaken (Weaker.ghost 5 1 rfl) ?_
  refine loop_p (α := Nat × Nat) (fun a => ⟨51, [(0, .rp t.cs 0), (3, .ptr 0 0 0), (10, .ro 2 (sloV (slotsT t))), (11, iV ((slotsT t).length : Nat)), (12, iV (a.1 : Nat)), (5, .sl a.2 0 a.1)], [(a.2, .rows 1 (strV ((txL t nm r).take a.1))), (0, .rows 41 [.agg (iV m :: uVs r)])], a.2 + 1⟩) (fun a => a.1 ≤ (slotsT t).length ∧ 0 < a.2) (fun a => (slotsT t).length - a.1) (0, 1) ?_ ?_ ?_
  · dsimp only; omega
  · refine Weaker.fzk 1 0 (by first | omega | (dsimp only; omega)) ?_ ?_ ?_
    · simp [go_sem]
    · first | (simp; done) | (simp; omega)
    · simp [go_sem, strV_nil]
  rintro ⟨i, j⟩ ⟨hi, hj⟩
  dsimp only at hi hj ⊢
  refine region_k T_ok (by decide) fun K hK => ?_
  simp [go_sem]
  refine hK _ ?_; clear hK K
  refine seq_k fun K2 hK2 => ?_
  refine cond_k rfl (fun h => ?_) (fun h => ?_)
  · simp at h
    have hI := h
    clear h
    have h' : i < (slotsT t).length := by omega
    obtain ⟨p, hx, hx'⟩ := getAt h'
    have hi0 : (0 : Int) ≤ (i : Nat) := by omega
    obtain ⟨a, b⟩ := p
    have hmem := slots_mem (List.mem_of_getElem? hx)
    have hi40 : i < r.length := by omega
    have hI40 : (i : Int) < 40 := by omega
    obtain ⟨v, hv, hv'⟩ := getAt hi40
    have hst : (txL t nm r).take (i + 1) = (txL t nm r).take i ++ [nmX t nm (a, b) ++ ⟨#[61]⟩ ++ nm v.toNat] := takeAt (txL_at hx hv)
    have hsl : ((txL t nm r).take i).length = i := by rw [List.length_take]; omega
    have hi41 : 1 + i ≤ 40 := by omega
    have hvg : (iV m :: uVs r)[1 + i]?.getD V.any = uV v := by rw [Nat.add_comm]; simp [uVs, hv]
    have hfv := hfu v (List.mem_of_getElem? hv)
    have hvs := hns v.toNat
    have hw : IntKind.i64.wrap ((i : Nat) + 1) = (i : Nat) + 1 := wrap_i64 (by omega) (by omega)
    have e0 : ¬ j = 0 := by omega
    have eq0 : ¬ 0 = j := by omega
    refine tr_skip ?_
    refine hK2 _ ?_; try clear hK2 K2
    refine seq_k fun K3 hK3 => ?_
    refine tr_block ?_
    refine region_k T_ok (by decide) fun K hK => ?_
    simp [go_sem, hI, hx, hx', hi0, h', e0, eq0]
    refine hK _ ?_; clear hK K
    refine region_k T_ok (by decide) fun K hK => ?_
    simp [go_sem, e0, eq0]
    refine hK _ ?_; clear hK K
    refine seq_to ⟨51, [(0, .rp t.cs 0), (3, .ptr 0 0 0), (10, .ro 2 (sloV (slotsT t))), (11, iV ((slotsT t).length : Nat)), (12, iV (i : Nat)), (5, .sl j 0 i), (6, iV (i : Nat)), (8, .val (.string (nmX t nm (a, b))))], [(j, .rows 1 (strV ((txL t nm r).take i))), (0, .rows 41 [.agg (iV m :: uVs r)])], j + 60⟩ ?_ ?_
    · skip
      refine region_k T_ok (by decide) fun K hK => ?_
      simp [go_sem]
      refine hK _ ?_; clear hK K
      refine cond_k rfl (fun h => ?_) (fun h => ?_)
      · have ha : a < 0 := by simpa using h
        obtain ⟨n, hn, hn8⟩ : ∃ n : Nat, b = n ∧ n < t.locs.length := by
          rcases hmem with ⟨n, hn, h2⟩ | ⟨q, r, hn, h2, h3⟩
          · cases hn; exact ⟨n, rfl, by omega⟩
          · cases hn; omega
        subst hn
        have hnI : (n : Int) < (t.locs.length : Nat) := by omega
        have hn0 : (0 : Int) ≤ (n : Nat) := by omega
        obtain ⟨lc, hlc, hlc'⟩ := getAt hn8
        have hnx : nmX t nm (a, (n : Int)) = lc.name := by simp [nmX, ha, hlc]
        refine draw_e T_ok (by kernel_rfl) 6 [[], [0], [0, 1], [0, 1, 2], [], [4], [0, 1, 2, 3, 4, 5], [0, 1, 2, 3, 4, 5, 6], [0, 1, 2, 3, 4, 5, 6, 7], [0, 1, 2, 3, 4, 5, 6, 7, 8]] [] (by decide) (by decide) (by decide) fun K hK => ?_
        first | dsimp only [List.take, List.drop] | dsimp [List.take, List.drop]
        simp [go_sem, hnI, hn0, hn8, hlc, hlc', iniC, Ini.cs, Tst.cs, e0, eq0]
        refine hK _ ?_; clear hK K
        refine Weaker.fzk 1 0 (by omega) ?_ ?_ ?_
        · simp [go_sem, e0, eq0, hnx, Tst.cs]
        · first | (simp; done) | (simp; omega)
        · simp [go_sem, e0, eq0, hnx, Tst.cs]
      · have ha : ¬ a < 0 := by simpa using h
        obtain ⟨q, c, hq, hr2, hq2, hr8⟩ : ∃ q c : Nat, a = q ∧ b = c ∧ q < 8 ∧ c < 8 := by
          rcases hmem with ⟨n, hn, h2⟩ | ⟨q, r, hn, h2, h3⟩
          · cases hn; omega
          · cases hn; exact ⟨q, r, rfl, rfl, by omega, h3⟩
        subst hq hr2
        have hnx : nmX t nm ((q : Int), (c : Int)) = nm q ++ ⟨#[58, 114]⟩ ++ nm c := by
          have hq0 : ¬ ((q : Int) < 0) := by omega
          simp [nmX, hq0]
        have hq3 := hns q
        have hc3 := hns c
        have hs1 : ((nm q).size : Int) + 2 ≤ 9223372036854775807 := by omega
        have hs2 : ((nm q).size : Int) + 2 + ((nm c).size : Nat) ≤ 9223372036854775807 := by omega
        refine draw_e T_ok (by kernel_rfl) 7 [[], [0], [0, 1], [0, 1, 2], [], [4], [0, 1, 2, 4, 5], [0, 1, 2, 3, 4, 5, 6], [0, 1, 2, 3, 4, 5, 6, 7]] [] (by decide) (by decide) (by decide) fun K hK => ?_
        first | dsimp only [List.take, List.drop] | dsimp [List.take, List.drop]
        simp [go_sem, hs1, hs2, e0, eq0]
        refine callD_of (hit q hq2) ?_
        simp [go_sem, hs1, hs2, e0, eq0]
        refine callD_of (hit c hr8) ?_
        simp [go_sem, hs1, hs2, e0, eq0]
        refine hK _ ?_; clear hK K
        refine Weaker.fzk 1 0 (by omega) ?_ ?_ ?_
        · simp [go_sem, e0, eq0, hnx]
        · first | (simp; done) | (simp; omega)
        · simp [go_sem, e0, eq0, hnx]
    · have hnz := nmX_size hnm hns (a, b)
      have hz1 : ((nmX t nm (a, b)).size : Int) + 1 ≤ 9223372036854775807 := by omega
      have hz2 : ((nmX t nm (a, b)).size : Int) + 1 + ((nm v.toNat).size : Nat) ≤ 9223372036854775807 := by omega
      refine region_e T_ok (by decide) fun K hK => ?_
      simp [go_sem, hI40, hi41, hvg, hi0, hz1, hz2, hsl, htl, e0, eq0]
      refine call_pf hfv ?_
      simp [go_sem, hz1, hz2, hsl, htl, e0, eq0]
      refine ⟨by omega, ?_⟩
      refine hK _ ?_; clear hK K
      refine hK3 _ ?_; try clear hK3 K3
      refine region_e T_ok (by decide) fun K hK => ?_
      simp [go_sem, hw]
      refine hK _ ?_; clear hK K
      refine ⟨(i + 1, j + 61), ?_, ?_, ?_⟩
      · dsimp only; omega
      · dsimp only; omega
      · refine Weaker.fzk 1 0 (by first | omega | (dsimp only; omega)) ?_ ?_ ?_
        · simp [go_sem, hst, e0, eq0]
        · first | (simp; done) | (simp; omega)
        simp [go_sem, hst, strV_append, e0, eq0]
        rw [List.take_take, Nat.min_self]
  · simp at h
    obtain rfl : i = (slotsT t).length := by omega
    have htk : (txL t nm r).take (slotsT t).length = txL t nm r := List.take_of_length_le (by omega)
    refine tr_exit ?_
    refine hK1 _ ?_; try clear hK1 K1
    refine region_k T_ok (by decide) fun K hK => ?_
    simp [go_sem, htk]
    refine call_fz [] [.ro 1 (strV (txL t nm r)), .val (.string ⟨#[32]⟩)] 1 0 (joinP (txL t nm r) (by omega) fun x hx => ?_) (by simp [go_sem, htk, htl]) (by simp) (by simp) ?_
    · exact txL_size hnm hns hx
    simp [go_sem]
    refine hK _ ?_; clear hK K
    refine tr_ret ⟨.inr rfl, ?_⟩
    simp [go_sem]
open Go Go.Sl Go.Proofs.Tryd
local instance (priority := 2000) mdI : Md := mdF
def gP : List (Nat → Int) := [fun _ => 0, fun n => if n = 0 then 1 else 0]
def fP (n : Nat) : Int := if n < 2 then 1 else 0
def rP : List Int := padT [1, 0, 1, 1]
theorem madeP : madeK passing gP fP = 4 :: rP := by decide +kernel
def tP : ByteArray := ⟨#[49,58,114,48,61,49,32,49,58,114,49,61,48,32,120,61,49,32,121,61,49]⟩
theorem txt_passing : joinT (txL passing numS rP) ⟨#[32]⟩ = tP := by decide +kernel
theorem uvs_hang (f : Nat → Int) : hangC f = [uV (f 0), uV (f 1), uV (f 2), uV (f 3), uV (f 4), uV (f 5), uV (f 6), uV (f 7)] := rfl
theorem rd_passing : ∀ l ∈ passing.ths, ∀ x ∈ l, setB x.op = true → 0 ≤ x.rd ∧ x.rd < 8 := by decide +kernel
theorem th_passing : ∀ x ∈ passing.ths, x.length ≤ 1000 := by decide +kernel
theorem made_passing : Sl.Pf Tryd.prog 15 [.rp passing.cs 0, .ro 8 (usRows gP), .agg (hangC fP)] (.agg (iV 4 :: uVs rP)) := by
 have := (made_pf passing (by decide +kernel) th_passing rd_passing (by decide +kernel) gP rfl fP).lo
 rw [madeP, stK_cons] at this
 exact this
theorem text_passing : Sl.Pf Tryd.prog 21 [.rp passing.cs 0, .agg (iV 4 :: uVs rP)] (.val (.string tP)) := by
 rw [← txt_passing]
 refine text_pf passing (by decide +kernel) th_passing rd_passing (by decide +kernel) (by decide +kernel) numS (fun n => Nat.le_trans (numS_size n) (by decide)) 4 rP rfl (fun n hn => (itoa_num n (by omega)).lo) fun v hv => ?_
 have h : ∀ v ∈ rP, v = 0 ∨ v = 1 := by decide +kernel
 rcases h v hv with rfl | rfl
 ·exact (fmtUint_num 0 (by decide)).lo
 ·exact (fmtUint_num 1 (by decide)).lo
set_option maxRecDepth 100000 in
set_option maxHeartbeats 8000000 in
theorem awake12  : Sl.Pf Tryd.prog 10 [] (bV true) := by
 refine Pf.of_fn .nil (.val _) ?_
 refine fn_in T_ok func10 rfl rfl ntmps10 rfl (by simp) ?_
 refine region_k T_ok (by decide) fun K hK => ?_
 simp [go_sem]
 refine hK _ ?_; clear hK K
 refine region_k T_ok (by decide) fun K hK => ?_
 simp [go_sem]
 refine call_pf passing_pf.lo ?_
 simp [go_sem, Tst.cs]
 refine hK _ ?_; clear hK K
 refine Tr.weaken (Weaker.fz (H' := []) (t' := [(1, .rp passing.cs 0)]) 1 0 ?_ ?_ ?_) ?_
 ·simp [go_sem, Tst.cs]
 ·simp
 ·simp
 refine region_k T_ok (by decide) fun K hK => ?_
 simp [go_sem]
 refine call_fz [] [.rp passing.cs 0, .ro 8 (usRows gP), .agg (hangC fP)] 1 0 made_passing (by simp [go_sem, usRows, gP, uvs_hang, fP]) (by simp) (by simp) ?_
 have hrl : rP.length = 40 := rfl
 simp [go_sem, hrl, us_ones]
 refine hK _ ?_; clear hK K
 refine region_k T_ok (by decide) fun K hK => ?_
 have hst : List.take 41 (iV 4 :: uVs rP) = iV 4 :: uVs rP := rfl
 simp [go_sem, hst]
 refine call_pf text_passing ?_
 rw [← tP]
 simp [go_sem]
 refine hK _ ?_; clear hK K
 refine tr_ret ⟨.inr rfl, ?_⟩
 simp [go_sem]
end Go.Proofs.YtjhnpebgfjefoaaDoor
namespace Go.Sl
open Go.ChangeShapes Go.RowKit Go.WideShapes
section
local instance (priority := 2000) mdQ : Md := mdF
theorem law_laid {C : Checked} {os : Os} {f : FuncId} {fn : Func} {s : ChangeSpec} {α : Type} {ok : α → Prop} {g : α → List V} {rt : TypeId} {X : World → Prop} (hX : ∀ w w' : World, w.heap = w'.heap → X w → X w') (own : ownKnob C.prog.godebug = none) (started : os.Started) (noInit : C.prog.inits.idxOf? f = none) (hfn : C.prog.funcs[f]? = some fn)
    (hl : laidOutB C.prog = true) (hts : (fn.params.toList.all fun t => C.prog.readableRec t && decide (t < C.prog.types.size)) = true) (hrt : fn.resultTypes = #[rt]) (hbool : C.prog.underlying rt = some .bool) (hvars : s.vars = [])
    (hspec : ∀ (H : Type) (ds : List (DataW H)), ds.length = fn.params.size → s.fn H ds = { results := [.lit (.bool true)], args := ds }) {H : Type} {enc : TypeId × Value → H} {conds : List PathCond}
    (witness : ∃ (w : World) (tape : Tape) (i : Input), w.os = os ∧ (w.forCall tape i).Shaped C.prog ∧ i.vars = [] ∧ Input.okWide C.prog (w.forCall tape i) .any w.heap.size f i ∧
      ((s.pre enc C.prog fn conds false (w.forCall tape i).memory i.args ∧ X (w.forCall tape i).memory) ∧ sizedMet enc C.prog fn (OpenSpec.ofChange s) false (w.forCall tape i).memory i.args) ∧ Assume.holds {} C.prog (lone (Frame.enter C.prog f i.args .normal) [] (w.forCall tape i)))
    (ha : ArgsAs C.prog fn.params.toList ok g) (hp : ∀ a, ok a → Pf C.prog f (g a) (.val (.bool true))) :
    ReturnsInHanded {} C os f .any (fun w args => (s.pre enc C.prog fn conds false w args ∧ X w) ∧ sizedMet enc C.prog fn (OpenSpec.ofChange s) false w args) (s.post enc C.prog fn false true false false) := by
  refine returnsInHanded_of_change_and (X := fun w _ => X w) (fun w w' _ hh h => hX w w' hh h) own started noInit hfn witness ?_
  intro W base args ds gs before hval hW _ _ _ _
  have hW' := hW
  obtain ⟨p, q, hA, hV, rfl, hfz, hnd⟩ := hW
  rw [hvars] at hV
  obtain ⟨rfl, rfl, rfl⟩ := trodVars_none hV
  obtain ⟨a, hok, hv⟩ := ha.imp hA fun j t v h1 h2 => ⟨base, hval j t v (by simpa using h1) (by simpa using h2)⟩
  refine ((hp a hok).calls noN No W args.toList (fun _ h => False.elim h) hv).mono ?_
  rintro e W' ⟨cv, he, hr, h1, h2, h3, h4, h5⟩
  have hcv : cv = .bool true := by cases hr; rfl
  subst hcv
  have bel : Below W.heap.size W W' := ⟨h1, h2.1, h3, h4, fun k hk => h5 k hk⟩
  have hlen := trodAll_length hA
  have hs := hspec H ds (by simpa using hlen)
  refine ⟨_, he, ds, [], p ++ [], [], p, [], hW', ?_, ?_, ?_, bel.frame _, fun h => by cases h⟩
  · rw [hrt, List.append_nil, hs]
    exact trodAll_mk1 (shut_bool hbool _)
  · rw [List.append_nil, hs]
    exact trodAll_stays hl bel hts hA
  · rw [List.append_nil, hs, hvars]
    rfl
end
end Go.Sl
namespace Go.Proofs.YtjhnpebgfjefoaaDoor
open Go Go.Sl Go.Proofs.Tryd
attribute [go_sem] stR_len
@[go_sem] theorem stR_get (l : List (List Int)) (i : Nat) (h : i < (stR l).length) : (stR l)[i] = .agg (stK (l[i]'(by simpa [stR] using h))) := by simp [stR]
theorem nl_stR (l : List (List Int)) : NL (.ro 41 (stR l)) := .ro fun v hv => by obtain ⟨k, _, rfl⟩ := List.mem_map.1 hv; exact nl_stK k
open Go Go.Sl Go.Proofs.Tryd
open Go Go.Sl Go.Proofs.Tryd
def okAt (n : Int) (s : List (List Int)) (i : Nat) (m : Int) (r : List Int) : Prop := m = n ∧ 0 ≤ n ∧ n ≤ 40 ∧ (∀ p, 0 < i → s[i - 1]? = some p → cmpL p (m :: r) < 0) ∧ ∀ (k : Nat) (v : Int), n ≤ (k : Int) → r[k]? = some v → v = 0
def goodS (n : Int) (s : List (List Int)) : Prop := ∀ i m r, s[i]? = some (m :: r) → okAt n s i m r
set_option maxHeartbeats 4000000 in
set_option maxRecDepth 100000 in
open Classical in
theorem good_pf (n : Int) (s : List (List Int)) (h41 : ∀ q ∈ s, q.length = 41) (hl : s.length ≤ 400000000000) : Pf Tryd.prog 11 [.ro 41 (stR s), iV n] (bV (decide (goodS n s))) := by
 refine Pf.of_fn (.cons (nl_stR s) (.cons (.val _) .nil)) (.val _) ?_
 refine fn_in T_ok func11 rfl rfl ntmps11 rfl (by simp) ?_
 refine region_k T_ok (by decide) fun K hK => ?_
 simp [go_sem]
 refine hK _ ?_; clear hK K
 refine seq_k fun K1 hK1 => ?_
 refine region_k T_ok (by decide) fun K hK => ?_
 simp [go_sem]
 refine hK _ ?_; clear hK K
 refine tr_block ?_
 refine loop_p (α := Nat × Nat) (fun a => ⟨54, [(0, .ro 41 (stR s)), (1, iV n), (9, .ro 41 (stR s)), (10, iV (s.length : Nat)), (11, iV (a.1 : Nat))], [], a.2⟩) (fun a => a.1 ≤ s.length ∧ ∀ i m r, i < a.1 → s[i]? = some (m :: r) → okAt n s i m r) (fun a => s.length - a.1) (0, 0) ?_ ?_ ?_
 ·exact ⟨Nat.zero_le _, fun i m r hi => absurd hi (Nat.not_lt_zero _)⟩
 ·refine Weaker.fzk 1 0 (by first | omega | (dsimp only; omega)) ?_ ?_ ?_
  ·simp [go_sem]
  ·first | (simp; done) | (simp; omega)
  ·simp [go_sem]
 rintro ⟨i, j⟩ ⟨hi, hall⟩
 dsimp only at hi hall ⊢
 refine region_k T_ok (by decide) fun K hK => ?_
 simp [go_sem]
 refine hK _ ?_; clear hK K
 refine seq_k fun K2 hK2 => ?_
 refine cond_k rfl (fun h => ?_) (fun h => ?_)
 ·simp at h
  have hI := h
  clear h
  have h' : i < s.length := by omega
  obtain ⟨x, hx, hx'⟩ := getAt h'
  have hi0 : (0 : Int) ≤ (i : Nat) := by omega
  have hw : IntKind.i64.wrap ((i : Nat) + 1) = (i : Nat) + 1 := wrap_i64 (by omega) (by omega)
  have hq41 := h41 x (List.mem_of_getElem? hx)
  have hxl : (stK x).length = 41 := (stK_len x).trans hq41
  have hxt : List.take 41 (stK x) = stK x := List.take_of_length_le (by omega)
  have hxo := stK_one x
  refine tr_skip ?_
  refine hK2 _ ?_; try clear hK2 K2
  refine seq_k fun K3 hK3 => ?_
  refine tr_block ?_
  refine region_k T_ok (by decide) fun K hK => ?_
  simp [go_sem, hI, hi0, h', hx, hx', hxl, hxt]
  refine ⟨hxo, ?_⟩
  obtain ⟨m, r, rfl⟩ : ∃ m r, x = m :: r := by cases x with | nil => cases hq41 | cons m r => exact ⟨m, r, rfl⟩
  have hrl : r.length = 40 := by simpa using hq41
  have hrt : List.take 40 r = r := List.take_of_length_le (by omega)
  rw [stK_cons] at hxl hxt hxo ⊢
  refine hK _ ?_; clear hK K
  refine seq_k fun K4 hK4 => ?_
  refine draw_k T_ok (by kernel_rfl) 22 [[], [0], [], [0, 1, 2], [0, 1, 2, 3], [0, 1, 2, 3, 4], [0, 1, 2, 3, 4, 5], [0, 1, 2, 3, 4, 5, 6], [0, 1, 2, 3, 4, 5, 6, 7], [0, 1, 2, 3, 4, 5, 6, 7, 8], [0, 1, 2, 3, 4, 5, 6, 7, 8, 9], [0, 1, 2, 3, 4, 5, 6, 7, 8, 9, 10], [0, 1, 2, 3, 4, 5, 6, 7, 8, 9, 10, 11], [0, 1, 2, 3, 4, 5, 6, 7, 8, 9, 10, 11, 12], [0, 1, 2, 3, 4, 5, 6, 7, 8, 9, 10, 11, 12, 13], [0, 1, 2, 3, 4, 5, 6, 7, 8, 9, 10, 11, 12, 13, 14], [0, 1, 2, 3, 4, 5, 6, 7, 8, 9, 10, 11, 12, 13, 14, 15], [0, 1, 2, 3, 4, 5, 6, 7, 8, 9, 10, 11, 12, 13, 14, 15], [0, 1, 2, 3, 4, 5, 6, 7, 8, 9, 10, 11, 12, 13, 14, 15, 17], [0, 1, 2, 3, 4, 5, 6, 7, 8, 9, 10, 11, 12, 13, 14, 15, 16, 17, 18], [0, 1, 2, 3, 4, 5, 6, 7, 8, 9, 10, 11, 12, 13, 14, 15, 16, 17, 18, 19], [0, 1, 2, 3, 4, 5, 6, 7, 8, 9, 10, 11, 12, 13, 14, 15], [0, 1, 2, 3, 4, 5, 6, 7, 8, 9, 10, 11, 12, 13, 14, 15, 16, 17, 18, 19, 20, 21], [0, 1, 2, 3, 4, 5, 6, 7, 8, 9, 10, 11, 12, 13, 14, 15, 16, 17, 18, 19, 20, 21, 22], [0, 1, 2, 3, 4, 5, 6, 7, 8, 9, 10, 11, 12, 13, 14, 15, 16, 17, 18, 19, 20, 21, 22, 23], [0, 1, 2, 3, 4, 5, 6, 7, 8, 9, 10, 11, 12, 13, 14, 15, 16, 17, 18, 19, 20, 21, 22, 23, 24]] [] (by decide) (by decide) (by decide) fun K hK => ?_
  first | dsimp only [List.take, List.drop] | dsimp [List.take, List.drop]
  have hcase : (m ≠ n) ∨ (m = n ∧ n < 0) ∨ (m = n ∧ 0 ≤ n ∧ 40 < n) ∨ (m = n ∧ 0 ≤ n ∧ n ≤ 40 ∧ i = 0) ∨ (m = n ∧ 0 ≤ n ∧ n ≤ 40 ∧ 0 < i) := by omega
  rcases hcase with h1 | ⟨rfl, h1⟩ | ⟨rfl, h0, h1⟩ | ⟨rfl, h0, h1, h6⟩ | ⟨rfl, h0, h1, h2⟩
  ·simp [go_sem, h1]
   refine hK _ ?_; clear hK K
   refine cond_k rfl (fun h => ?_) (fun h => ?_)
   ·clear h
    refine region_k T_ok (by decide) fun K hK => ?_
    simp [go_sem]
    refine hK _ ?_; clear hK K
    refine tr_ret ⟨.inr rfl, ?_⟩
    have hng : ¬ goodS n s := fun h => h1 (h i m r hx).1
    simp [go_sem, hng]
   ·simp at h
  ·simp [go_sem, h1]
   refine hK _ ?_; clear hK K
   refine cond_k rfl (fun h => ?_) (fun h => ?_)
   ·clear h
    refine region_k T_ok (by decide) fun K hK => ?_
    simp [go_sem]
    refine hK _ ?_; clear hK K
    refine tr_ret ⟨.inr rfl, ?_⟩
    have hng : ¬ goodS m s := fun h => absurd (h i _ r hx).2.1 (by omega)
    simp [go_sem, hng]
   ·simp at h
  ·have h2 : ¬ m < 0 := by omega
   simp [go_sem, h1, h2]
   refine hK _ ?_; clear hK K
   refine cond_k rfl (fun h => ?_) (fun h => ?_)
   ·clear h
    refine region_k T_ok (by decide) fun K hK => ?_
    simp [go_sem]
    refine hK _ ?_; clear hK K
    refine tr_ret ⟨.inr rfl, ?_⟩
    have hng : ¬ goodS m s := fun h => absurd (h i _ r hx).2.2.1 (by omega)
    simp [go_sem, hng]
   ·simp at h
  ·have h2 : ¬ m < 0 := by omega
   have h3 : ¬ 40 < m := by omega
   have h7 : ¬ 0 < i := by omega
   have h5 : ¬ (0 : Int) < (i : Nat) := by omega
   have hprev : ∀ p, 0 < i → s[i - 1]? = some p → cmpL p (m :: r) < 0 := fun p h => absurd h h7
   simp [go_sem, h2, h3, h5, h7]
   refine hK _ ?_; clear hK K
   refine cond_k rfl (fun h => ?_) (fun h => ?_)
   ·simp at h
   ·clear h
    refine tr_skip ?_
    refine hK4 _ ?_; try clear hK4 K4
    refine region_k T_ok (by decide) fun K hK => ?_
    obtain ⟨c, rfl⟩ : ∃ c : Nat, m = c := ⟨m.toNat, by omega⟩
    rcases Nat.lt_or_ge c 40 with hc | hc
    ·have hc1 : (c : Int) ≤ 40 := by omega
     have hc2 : ¬ (c : Int) = 40 := by omega
     have hs1 : List.drop (1 + c) (iV (c : Nat) :: uVs r) = uVs (r.drop c) := by rw [Nat.add_comm, List.drop_succ_cons, uVs_drop]
     have hs2 : List.take (40 - c) (uVs (r.drop c)) = uVs (r.drop c) := List.take_of_length_le (by simp [uVs, hrl])
     have hs4 : 1 + c + (40 - c) ≤ r.length + 1 := by omega
     simp [go_sem, hc1, hc2]
     refine hK _ ?_; clear hK K
     refine tr_block ?_
     refine loop_p (α := Nat) (fun a => ⟨54, [(0, .ro 41 (stR s)), (1, iV (c : Nat)), (9, .ro 41 (stR s)), (10, iV (s.length : Nat)), (11, iV (i : Nat)), (44, .ro 1 (uVs (r.drop c))), (45, iV ((40 - c : Nat))), (46, iV (a : Nat))], [], j + 60⟩) (fun a => a ≤ 40 - c ∧ ∀ k v, k < a → (r.drop c)[k]? = some v → v = 0) (fun a => 40 - c - a) 0 ?_ ?_ ?_
     ·exact ⟨Nat.zero_le _, fun k v hk => absurd hk (Nat.not_lt_zero _)⟩
     ·refine Weaker.fzk 1 0 (by first | omega | (dsimp only; omega)) ?_ ?_ ?_
      ·simp [go_sem, hs1, hs2, hc2, hs4]
      ·first | (simp; done) | (simp; omega)
      ·simp [go_sem, hs1, hs2, hc2, hs4]
     rintro b ⟨hb, hz⟩
     skip
     refine region_k T_ok (by decide) fun K hK => ?_
     simp [go_sem]
     refine hK _ ?_; clear hK K
     refine seq_k fun K5 hK5 => ?_
     refine cond_k rfl (fun h => ?_) (fun h => ?_)
     ·simp at h
      have hbI := h
      clear h
      have hb' : b < 40 - c := by omega
      obtain ⟨v, hv, hv'⟩ := getAt (l := r.drop c) (i := b) (by simp; omega)
      have hv2 := hv
      have hb0 : (0 : Int) ≤ (b : Nat) := by omega
      have hw2 : IntKind.i64.wrap ((b : Nat) + 1) = (b : Nat) + 1 := wrap_i64 (by omega) (by omega)
      refine tr_skip ?_
      refine hK5 _ ?_; try clear hK5 K5
      refine seq_k fun K6 hK6 => ?_
      refine tr_block ?_
      refine region_k T_ok (by decide) fun K hK => ?_
      simp [go_sem, hbI, hb0, hv, hv', hb']
      refine ⟨by omega, ?_⟩
      refine hK _ ?_; clear hK K
      refine region_k T_ok (by decide) fun K hK => ?_
      simp [go_sem]
      refine hK _ ?_; clear hK K
      refine cond_k rfl (fun h => ?_) (fun h => ?_)
      ·have hv0 : ¬ v = 0 := by simpa using h
       refine region_k T_ok (by decide) fun K hK => ?_
       simp [go_sem]
       refine hK _ ?_; clear hK K
       refine tr_ret ⟨.inr rfl, ?_⟩
       have hng : ¬ goodS c s := fun h => hv0 ((h i _ r hx).2.2.2.2 (c + b) v (by omega) (by rw [← List.getElem?_drop]; exact hv2))
       simp [go_sem, hng]
      ·have hv0 : v = 0 := by simpa using h
       refine tr_skip ?_
       refine hK6 _ ?_; try clear hK6 K6
       refine region_e T_ok (by decide) fun K hK => ?_
       simp [go_sem, hw2]
       refine hK _ ?_; clear hK K
       refine ⟨b + 1, ?_, ?_, ?_⟩
       ·exact ⟨by omega, fun k u hk hu => by rcases Nat.lt_or_ge k b with h | h; exact hz k u h hu; obtain rfl : k = b := (by omega); have e := Option.some.inj (hv2.symm.trans hu); rw [← e]; exact hv0⟩
       ·omega
       ·refine Weaker.fzk 1 0 (by first | omega | (dsimp only; omega)) ?_ ?_ ?_
        ·simp [go_sem, hs1, hs2, hc2, hs4]
        ·first | (simp; done) | (simp; omega)
        simp [go_sem, hs1, hs2, hc2, hs4]
     ·simp at h
      obtain rfl : b = 40 - c := by omega
      clear h
      have hok : okAt c s i c r := ⟨rfl, by omega, by omega, hprev, fun k v hk hv => by
       obtain ⟨e, rfl⟩ : ∃ e, k = c + e := ⟨k - c, by omega⟩
       have hk2 := (List.getElem?_eq_some_iff.1 hv).1
       refine hz e v (by omega) ?_
       rw [List.getElem?_drop]; exact hv⟩
      refine tr_exit ?_
      refine hK3 _ ?_; try clear hK3 K3
      refine region_e T_ok (by decide) fun K hK => ?_
      simp [go_sem, hw]
      refine hK _ ?_; clear hK K
      refine ⟨(i + 1, j + 200), ?_, ?_, ?_⟩
      ·dsimp only; exact ⟨by omega, fun i2 m2 r2 h2 hq2 => by rcases Nat.lt_or_ge i2 i with h | h; exact hall i2 m2 r2 h hq2; obtain rfl : i2 = i := (by omega); rw [hx] at hq2; cases hq2; exact hok⟩
      ·dsimp only; omega
      ·refine Weaker.fzk 1 0 (by first | omega | (dsimp only; omega)) ?_ ?_ ?_
       ·simp [go_sem]
       ·first | (simp; done) | (simp; omega)
       simp [go_sem]
    ·have hs4 : True := trivial
     have hc3 : c = 40 := by omega
     have hc1 : (c : Int) ≤ 40 := by omega
     have hc2 : (c : Int) = 40 := by omega
     have hs1 : uVs (r.drop c) = [] := by rw [List.drop_of_length_le (by omega)]; rfl
     have hs2 : 40 - c = 0 := by omega
     simp [go_sem, hc1, hc2]
     refine hK _ ?_; clear hK K
     refine tr_block ?_
     refine loop_p (α := Nat) (fun a => ⟨54, [(0, .ro 41 (stR s)), (1, iV (c : Nat)), (9, .ro 41 (stR s)), (10, iV (s.length : Nat)), (11, iV (i : Nat)), (44, .ro 1 (uVs (r.drop c))), (45, iV ((40 - c : Nat))), (46, iV (a : Nat))], [], j + 60⟩) (fun a => a ≤ 40 - c ∧ ∀ k v, k < a → (r.drop c)[k]? = some v → v = 0) (fun a => 40 - c - a) 0 ?_ ?_ ?_
     ·exact ⟨Nat.zero_le _, fun k v hk => absurd hk (Nat.not_lt_zero _)⟩
     ·refine Weaker.fzk 1 0 (by first | omega | (dsimp only; omega)) ?_ ?_ ?_
      ·simp [go_sem, hs1, hs2, hc2, hs4]
      ·first | (simp; done) | (simp; omega)
      ·simp [go_sem, hs1, hs2, hc2, hs4]
     rintro b ⟨hb, hz⟩
     skip
     refine region_k T_ok (by decide) fun K hK => ?_
     simp [go_sem]
     refine hK _ ?_; clear hK K
     refine seq_k fun K7 hK7 => ?_
     refine cond_k rfl (fun h => ?_) (fun h => ?_)
     ·simp at h
      have hbI := h
      clear h
      have hb' : b < 40 - c := by omega
      obtain ⟨v, hv, hv'⟩ := getAt (l := r.drop c) (i := b) (by simp; omega)
      have hv2 := hv
      have hb0 : (0 : Int) ≤ (b : Nat) := by omega
      have hw2 : IntKind.i64.wrap ((b : Nat) + 1) = (b : Nat) + 1 := wrap_i64 (by omega) (by omega)
      refine tr_skip ?_
      refine hK7 _ ?_; try clear hK7 K7
      refine seq_k fun K8 hK8 => ?_
      refine tr_block ?_
      refine region_k T_ok (by decide) fun K hK => ?_
      simp [go_sem, hbI, hb0, hv, hv', hb']
      refine ⟨by omega, ?_⟩
      refine hK _ ?_; clear hK K
      refine region_k T_ok (by decide) fun K hK => ?_
      simp [go_sem]
      refine hK _ ?_; clear hK K
      refine cond_k rfl (fun h => ?_) (fun h => ?_)
      ·have hv0 : ¬ v = 0 := by simpa using h
       refine region_k T_ok (by decide) fun K hK => ?_
       simp [go_sem]
       refine hK _ ?_; clear hK K
       refine tr_ret ⟨.inr rfl, ?_⟩
       have hng : ¬ goodS c s := fun h => hv0 ((h i _ r hx).2.2.2.2 (c + b) v (by omega) (by rw [← List.getElem?_drop]; exact hv2))
       simp [go_sem, hng]
      ·have hv0 : v = 0 := by simpa using h
       refine tr_skip ?_
       refine hK8 _ ?_; try clear hK8 K8
       refine region_e T_ok (by decide) fun K hK => ?_
       simp [go_sem, hw2]
       refine hK _ ?_; clear hK K
       refine ⟨b + 1, ?_, ?_, ?_⟩
       ·exact ⟨by omega, fun k u hk hu => by rcases Nat.lt_or_ge k b with h | h; exact hz k u h hu; obtain rfl : k = b := (by omega); have e := Option.some.inj (hv2.symm.trans hu); rw [← e]; exact hv0⟩
       ·omega
       ·refine Weaker.fzk 1 0 (by first | omega | (dsimp only; omega)) ?_ ?_ ?_
        ·simp [go_sem, hs1, hs2, hc2, hs4]
        ·first | (simp; done) | (simp; omega)
        simp [go_sem, hs1, hs2, hc2, hs4]
     ·simp at h
      obtain rfl : b = 40 - c := by omega
      clear h
      have hok : okAt c s i c r := ⟨rfl, by omega, by omega, hprev, fun k v hk hv => by
       obtain ⟨e, rfl⟩ : ∃ e, k = c + e := ⟨k - c, by omega⟩
       have hk2 := (List.getElem?_eq_some_iff.1 hv).1
       refine hz e v (by omega) ?_
       rw [List.getElem?_drop]; exact hv⟩
      refine tr_exit ?_
      refine hK3 _ ?_; try clear hK3 K3
      refine region_e T_ok (by decide) fun K hK => ?_
      simp [go_sem, hw]
      refine hK _ ?_; clear hK K
      refine ⟨(i + 1, j + 200), ?_, ?_, ?_⟩
      ·dsimp only; exact ⟨by omega, fun i2 m2 r2 h2 hq2 => by rcases Nat.lt_or_ge i2 i with h | h; exact hall i2 m2 r2 h hq2; obtain rfl : i2 = i := (by omega); rw [hx] at hq2; cases hq2; exact hok⟩
      ·dsimp only; omega
      ·refine Weaker.fzk 1 0 (by first | omega | (dsimp only; omega)) ?_ ?_ ?_
       ·simp [go_sem]
       ·first | (simp; done) | (simp; omega)
       simp [go_sem]
  ·have h4 : ¬ m < 0 := by omega
   have h3 : ¬ 40 < m := by omega
   have h5 : (0 : Int) < (i : Nat) := by omega
   obtain ⟨q, hq⟩ : ∃ q, i - 1 = q := ⟨_, rfl⟩
   have hqs : q < s.length := by omega
   obtain ⟨p, hp, hp'⟩ := getAt hqs
   have hwm : IntKind.i64.wrap ((i : Nat) - 1) = (q : Nat) := by rw [wrap_i64 (by omega) (by omega)]; omega
   have hqI : (q : Int) < (s.length : Nat) := by omega
   have hq0 : (0 : Int) ≤ (q : Nat) := by omega
   have hp41 := h41 p (List.mem_of_getElem? hp)
   have hpl : (stK p).length = 41 := (stK_len p).trans hp41
   have hpt : List.take 41 (stK p) = stK p := List.take_of_length_le (by omega)
   have hpo := stK_one p
   simp [go_sem, h4, h3, h5, h2, hwm, hqI, hq0, hqs, hp, hp', hpl, hpt, hpo, hrl, us_one, hrt]
   refine call_pf (compare_pf p (m :: r) hp41 hq41) ?_
   simp [go_sem, h4, h3, h5, h2, hwm, hqI, hq0, hqs, hp, hp', hpl, hpt, hpo, hrl, us_one, hrt]
   refine hK _ ?_; clear hK K
   refine cond_k rfl (fun h => ?_) (fun h => ?_)
   ·have hc : ¬ cmpL p (m :: r) < 0 := by simpa using h
    refine region_k T_ok (by decide) fun K hK => ?_
    simp [go_sem]
    refine hK _ ?_; clear hK K
    refine tr_ret ⟨.inr rfl, ?_⟩
    have hng : ¬ goodS m s := fun h => hc ((h i m r hx).2.2.2.1 p h2 (by rw [hq]; exact hp))
    simp [go_sem, hng]
   ·have hc : cmpL p (m :: r) < 0 := by simpa using h
    have hprev : ∀ p, 0 < i → s[i - 1]? = some p → cmpL p (m :: r) < 0 := fun p2 _ h => by rw [hq, hp] at h; cases h; exact hc
    refine tr_skip ?_
    refine hK4 _ ?_; try clear hK4 K4
    refine region_k T_ok (by decide) fun K hK => ?_
    obtain ⟨c, rfl⟩ : ∃ c : Nat, m = c := ⟨m.toNat, by omega⟩
    rcases Nat.lt_or_ge c 40 with hc | hc
    ·have hc1 : (c : Int) ≤ 40 := by omega
     have hc2 : ¬ (c : Int) = 40 := by omega
     have hs1 : List.drop (1 + c) (iV (c : Nat) :: uVs r) = uVs (r.drop c) := by rw [Nat.add_comm, List.drop_succ_cons, uVs_drop]
     have hs2 : List.take (40 - c) (uVs (r.drop c)) = uVs (r.drop c) := List.take_of_length_le (by simp [uVs, hrl])
     have hs4 : 1 + c + (40 - c) ≤ r.length + 1 := by omega
     simp [go_sem, hc1, hc2]
     refine hK _ ?_; clear hK K
     refine tr_block ?_
     refine loop_p (α := Nat) (fun a => ⟨54, [(0, .ro 41 (stR s)), (1, iV (c : Nat)), (9, .ro 41 (stR s)), (10, iV (s.length : Nat)), (11, iV (i : Nat)), (44, .ro 1 (uVs (r.drop c))), (45, iV ((40 - c : Nat))), (46, iV (a : Nat))], [], j + 60⟩) (fun a => a ≤ 40 - c ∧ ∀ k v, k < a → (r.drop c)[k]? = some v → v = 0) (fun a => 40 - c - a) 0 ?_ ?_ ?_
     ·exact ⟨Nat.zero_le _, fun k v hk => absurd hk (Nat.not_lt_zero _)⟩
     ·refine Weaker.fzk 1 0 (by first | omega | (dsimp only; omega)) ?_ ?_ ?_
      ·simp [go_sem, hs1, hs2, hc2, hs4]
      ·first | (simp; done) | (simp; omega)
      ·simp [go_sem, hs1, hs2, hc2, hs4]
     rintro b ⟨hb, hz⟩
     skip
     refine region_k T_ok (by decide) fun K hK => ?_
     simp [go_sem]
     refine hK _ ?_; clear hK K
     refine seq_k fun K9 hK9 => ?_
     refine cond_k rfl (fun h => ?_) (fun h => ?_)
     ·simp at h
      have hbI := h
      clear h
      have hb' : b < 40 - c := by omega
      obtain ⟨v, hv, hv'⟩ := getAt (l := r.drop c) (i := b) (by simp; omega)
      have hv2 := hv
      have hb0 : (0 : Int) ≤ (b : Nat) := by omega
      have hw2 : IntKind.i64.wrap ((b : Nat) + 1) = (b : Nat) + 1 := wrap_i64 (by omega) (by omega)
      refine tr_skip ?_
      refine hK9 _ ?_; try clear hK9 K9
      refine seq_k fun K10 hK10 => ?_
      refine tr_block ?_
      refine region_k T_ok (by decide) fun K hK => ?_
      simp [go_sem, hbI, hb0, hv, hv', hb']
      refine ⟨by omega, ?_⟩
      refine hK _ ?_; clear hK K
      refine region_k T_ok (by decide) fun K hK => ?_
      simp [go_sem]
      refine hK _ ?_; clear hK K
      refine cond_k rfl (fun h => ?_) (fun h => ?_)
      ·have hv0 : ¬ v = 0 := by simpa using h
       refine region_k T_ok (by decide) fun K hK => ?_
       simp [go_sem]
       refine hK _ ?_; clear hK K
       refine tr_ret ⟨.inr rfl, ?_⟩
       have hng : ¬ goodS c s := fun h => hv0 ((h i _ r hx).2.2.2.2 (c + b) v (by omega) (by rw [← List.getElem?_drop]; exact hv2))
       simp [go_sem, hng]
      ·have hv0 : v = 0 := by simpa using h
       refine tr_skip ?_
       refine hK10 _ ?_; try clear hK10 K10
       refine region_e T_ok (by decide) fun K hK => ?_
       simp [go_sem, hw2]
       refine hK _ ?_; clear hK K
       refine ⟨b + 1, ?_, ?_, ?_⟩
       ·exact ⟨by omega, fun k u hk hu => by rcases Nat.lt_or_ge k b with h | h; exact hz k u h hu; obtain rfl : k = b := (by omega); have e := Option.some.inj (hv2.symm.trans hu); rw [← e]; exact hv0⟩
       ·omega
       ·refine Weaker.fzk 1 0 (by first | omega | (dsimp only; omega)) ?_ ?_ ?_
        ·simp [go_sem, hs1, hs2, hc2, hs4]
        ·first | (simp; done) | (simp; omega)
        simp [go_sem, hs1, hs2, hc2, hs4]
     ·simp at h
      obtain rfl : b = 40 - c := by omega
      clear h
      have hok : okAt c s i c r := ⟨rfl, by omega, by omega, hprev, fun k v hk hv => by
       obtain ⟨e, rfl⟩ : ∃ e, k = c + e := ⟨k - c, by omega⟩
       have hk2 := (List.getElem?_eq_some_iff.1 hv).1
       refine hz e v (by omega) ?_
       rw [List.getElem?_drop]; exact hv⟩
      refine tr_exit ?_
      refine hK3 _ ?_; try clear hK3 K3
      refine region_e T_ok (by decide) fun K hK => ?_
      simp [go_sem, hw]
      refine hK _ ?_; clear hK K
      refine ⟨(i + 1, j + 200), ?_, ?_, ?_⟩
      ·dsimp only; exact ⟨by omega, fun i2 m2 r2 h2 hq2 => by rcases Nat.lt_or_ge i2 i with h | h; exact hall i2 m2 r2 h hq2; obtain rfl : i2 = i := (by omega); rw [hx] at hq2; cases hq2; exact hok⟩
      ·dsimp only; omega
      ·refine Weaker.fzk 1 0 (by first | omega | (dsimp only; omega)) ?_ ?_ ?_
       ·simp [go_sem]
       ·first | (simp; done) | (simp; omega)
       simp [go_sem]
    ·have hs4 : True := trivial
     have hc3 : c = 40 := by omega
     have hc1 : (c : Int) ≤ 40 := by omega
     have hc2 : (c : Int) = 40 := by omega
     have hs1 : uVs (r.drop c) = [] := by rw [List.drop_of_length_le (by omega)]; rfl
     have hs2 : 40 - c = 0 := by omega
     simp [go_sem, hc1, hc2]
     refine hK _ ?_; clear hK K
     refine tr_block ?_
     refine loop_p (α := Nat) (fun a => ⟨54, [(0, .ro 41 (stR s)), (1, iV (c : Nat)), (9, .ro 41 (stR s)), (10, iV (s.length : Nat)), (11, iV (i : Nat)), (44, .ro 1 (uVs (r.drop c))), (45, iV ((40 - c : Nat))), (46, iV (a : Nat))], [], j + 60⟩) (fun a => a ≤ 40 - c ∧ ∀ k v, k < a → (r.drop c)[k]? = some v → v = 0) (fun a => 40 - c - a) 0 ?_ ?_ ?_
     ·exact ⟨Nat.zero_le _, fun k v hk => absurd hk (Nat.not_lt_zero _)⟩
     ·refine Weaker.fzk 1 0 (by first | omega | (dsimp only; omega)) ?_ ?_ ?_
      ·simp [go_sem, hs1, hs2, hc2, hs4]
      ·first | (simp; done) | (simp; omega)
      ·simp [go_sem, hs1, hs2, hc2, hs4]
     rintro b ⟨hb, hz⟩
     skip
     refine region_k T_ok (by decide) fun K hK => ?_
     simp [go_sem]
     refine hK _ ?_; clear hK K
     refine seq_k fun K11 hK11 => ?_
     refine cond_k rfl (fun h => ?_) (fun h => ?_)
     ·simp at h
      have hbI := h
      clear h
      have hb' : b < 40 - c := by omega
      obtain ⟨v, hv, hv'⟩ := getAt (l := r.drop c) (i := b) (by simp; omega)
      have hv2 := hv
      have hb0 : (0 : Int) ≤ (b : Nat) := by omega
      have hw2 : IntKind.i64.wrap ((b : Nat) + 1) = (b : Nat) + 1 := wrap_i64 (by omega) (by omega)
      refine tr_skip ?_
      refine hK11 _ ?_; try clear hK11 K11
      refine seq_k fun K12 hK12 => ?_
      refine tr_block ?_
      refine region_k T_ok (by decide) fun K hK => ?_
      simp [go_sem, hbI, hb0, hv, hv', hb']
      refine ⟨by omega, ?_⟩
      refine hK _ ?_; clear hK K
      refine region_k T_ok (by decide) fun K hK => ?_
      simp [go_sem]
      refine hK _ ?_; clear hK K
      refine cond_k rfl (fun h => ?_) (fun h => ?_)
      ·have hv0 : ¬ v = 0 := by simpa using h
       refine region_k T_ok (by decide) fun K hK => ?_
       simp [go_sem]
       refine hK _ ?_; clear hK K
       refine tr_ret ⟨.inr rfl, ?_⟩
       have hng : ¬ goodS c s := fun h => hv0 ((h i _ r hx).2.2.2.2 (c + b) v (by omega) (by rw [← List.getElem?_drop]; exact hv2))
       simp [go_sem, hng]
      ·have hv0 : v = 0 := by simpa using h
       refine tr_skip ?_
       refine hK12 _ ?_; try clear hK12 K12
       refine region_e T_ok (by decide) fun K hK => ?_
       simp [go_sem, hw2]
       refine hK _ ?_; clear hK K
       refine ⟨b + 1, ?_, ?_, ?_⟩
       ·exact ⟨by omega, fun k u hk hu => by rcases Nat.lt_or_ge k b with h | h; exact hz k u h hu; obtain rfl : k = b := (by omega); have e := Option.some.inj (hv2.symm.trans hu); rw [← e]; exact hv0⟩
       ·omega
       ·refine Weaker.fzk 1 0 (by first | omega | (dsimp only; omega)) ?_ ?_ ?_
        ·simp [go_sem, hs1, hs2, hc2, hs4]
        ·first | (simp; done) | (simp; omega)
        simp [go_sem, hs1, hs2, hc2, hs4]
     ·simp at h
      obtain rfl : b = 40 - c := by omega
      clear h
      have hok : okAt c s i c r := ⟨rfl, by omega, by omega, hprev, fun k v hk hv => by
       obtain ⟨e, rfl⟩ : ∃ e, k = c + e := ⟨k - c, by omega⟩
       have hk2 := (List.getElem?_eq_some_iff.1 hv).1
       refine hz e v (by omega) ?_
       rw [List.getElem?_drop]; exact hv⟩
      refine tr_exit ?_
      refine hK3 _ ?_; try clear hK3 K3
      refine region_e T_ok (by decide) fun K hK => ?_
      simp [go_sem, hw]
      refine hK _ ?_; clear hK K
      refine ⟨(i + 1, j + 200), ?_, ?_, ?_⟩
      ·dsimp only; exact ⟨by omega, fun i2 m2 r2 h2 hq2 => by rcases Nat.lt_or_ge i2 i with h | h; exact hall i2 m2 r2 h hq2; obtain rfl : i2 = i := (by omega); rw [hx] at hq2; cases hq2; exact hok⟩
      ·dsimp only; omega
      ·refine Weaker.fzk 1 0 (by first | omega | (dsimp only; omega)) ?_ ?_ ?_
       ·simp [go_sem]
       ·first | (simp; done) | (simp; omega)
       simp [go_sem]
 ·simp at h
  obtain rfl : i = s.length := by omega
  clear h
  refine tr_exit ?_
  refine hK1 _ ?_; try clear hK1 K1
  refine region_k T_ok (by decide) fun K hK => ?_
  simp [go_sem]
  refine hK _ ?_; clear hK K
  refine tr_ret ⟨.inr rfl, ?_⟩
  have hy : goodS n s := fun i m r h => hall i m r (List.getElem?_eq_some_iff.1 h).1 h
  simp [go_sem, hy]
open Go Go.Sl Go.Proofs.Tryd
local instance (priority := 2000) mdJ : Md := mdF
theorem stR_take (l : List (List Int)) (n : Nat) : (stR l).take n = stR (l.take n) := (List.map_take ..).symm
theorem stR_drop (l : List (List Int)) (n : Nat) : (stR l).drop n = stR (l.drop n) := (List.map_drop ..).symm
theorem okAt_parts {n : Int} {s : List (List Int)} {i : Nat} {m : Int} {r : List Int} (hr : r.length = 40) : okAt n s i m r ↔ ((m = n ∧ 0 ≤ n ∧ n ≤ 40) ∧ (0 < i → ∀ p, s[i - 1]? = some p → cmpL p (m :: r) < 0)) ∧ ∀ k v, (max (min n 40) 0).toNat ≤ k → k < 40 → r[k]? = some v → v = 0 := by
 unfold okAt
 constructor
 ·rintro ⟨rfl, h1, h2, h3, h4⟩
  exact ⟨⟨⟨rfl, h1, h2⟩, fun a p b => h3 p a b⟩, fun k v a _ c => h4 k v (by omega) c⟩
 ·rintro ⟨⟨⟨rfl, h1, h2⟩, h3⟩, h4⟩
  exact ⟨rfl, h1, h2, fun p a b => h3 a p b, fun k v a c => h4 k v (by omega) (by have := (List.getElem?_eq_some_iff.1 c).1; omega) c⟩
set_option maxHeartbeats 8000000 in
set_option maxRecDepth 100000 in
open Classical in
theorem outcomeGood_pf (s0 : List (List Int)) (h410 : ∀ q ∈ s0, q.length = 41) (hl0 : s0.length ≤ maxLen) (n : Int) (hn1 : -9223372036854775808 ≤ n) (hn2 : n ≤ 9223372036854775807) : Sl.Pf Tryd.prog 3 [.ro 41 (stR s0), iV n] (bV true) := by
 refine Pf.of_fn (.cons (nl_stR s0) (.cons (.val _) .nil)) (.val _) ?_
 obtain ⟨s, hs⟩ : ∃ s, s0.take 10 = s := ⟨_, rfl⟩
 have h41 : ∀ q ∈ s, q.length = 41 := fun q hq => h410 q (List.mem_of_mem_take (by rw [hs]; exact hq))
 have hl : s.length ≤ 10 := by rw [← hs, List.length_take]; omega
 refine fn_in T_ok func3 rfl rfl ntmps3 rfl (by simp) ?_
 refine region_k T_ok (by decide) fun K hK => ?_
 simp [go_sem]
 refine hK _ ?_; clear hK K
 refine seq_to ⟨73, [(0, .ro 41 (stR s)), (1, iV n)], [], 0⟩ ?_ ?_
 ·skip
  refine region_k T_ok (by decide) fun K hK => ?_
  simp [go_sem]
  refine hK _ ?_; clear hK K
  refine cond_k rfl (fun h => ?_) (fun h => ?_)
  ·have h10 : 10 < s0.length := by simp at h; omega
   clear h
   have h10I : (10 : Int) ≤ (s0.length : Nat) := by omega
   refine region_e T_ok (by decide) fun K hK => ?_
   simp [go_sem, stR_take, stR_drop, h10I, h10]
   refine hK _ ?_; clear hK K
   refine Weaker.fzk 1 0 (by omega) ?_ ?_ ?_
   ·simp [go_sem, stR_take, stR_drop, hs]
   ·first | (simp; done) | (simp; omega)
   ·simp [go_sem, stR_take, stR_drop, hs]
  ·have h10 : s0.length ≤ 10 := by simp at h; omega
   clear h
   have hs0 : s0 = s := by rw [← hs, List.take_of_length_le h10]
   refine tr_skip ?_
   refine Weaker.fzk 1 0 (by omega) ?_ ?_ ?_
   ·simp [go_sem, stR_take, stR_drop, hs, hs0]
   ·first | (simp; done) | (simp; omega)
   ·simp [go_sem, stR_take, stR_drop, hs, hs0]
 ·skip
  refine region_k T_ok (by decide) fun K hK => ?_
  simp [go_sem]
  refine hK _ ?_; clear hK K
  refine seq_k fun K1 hK1 => ?_
  refine region_k T_ok (by decide) fun K hK => ?_
  simp [go_sem]
  refine hK _ ?_; clear hK K
  refine tr_block ?_
  refine loop_p (α := Nat × Nat × Bool) (fun a => ⟨73, [(0, .ro 41 (stR s)), (1, iV n), (5, bV a.2.2), (14, .ro 41 (stR s)), (15, iV (s.length : Nat)), (16, iV (a.1 : Nat))], [], a.2.1⟩) (fun a => a.1 ≤ s.length ∧ (a.2.2 = true ↔ ∀ i m r, i < a.1 → s[i]? = some (m :: r) → okAt n s i m r)) (fun a => s.length - a.1) (0, 0, true) ?_ ?_ ?_
  ·exact ⟨Nat.zero_le _, by simp⟩
  ·refine Weaker.fzk 1 0 (by first | omega | (dsimp only; omega)) ?_ ?_ ?_
   ·simp [go_sem]
   ·first | (simp; done) | (simp; omega)
   ·simp [go_sem]
  rintro ⟨i, j, w⟩ ⟨hi, hw1⟩
  dsimp only at hi hw1 ⊢
  refine region_k T_ok (by decide) fun K hK => ?_
  simp [go_sem]
  refine hK _ ?_; clear hK K
  refine seq_k fun K2 hK2 => ?_
  refine cond_k rfl (fun h => ?_) (fun h => ?_)
  ·simp at h
   have hI := h
   clear h
   have h' : i < s.length := by omega
   obtain ⟨x, hx, hx'⟩ := getAt h'
   have hi0 : (0 : Int) ≤ (i : Nat) := by omega
   have hw : IntKind.i64.wrap ((i : Nat) + 1) = (i : Nat) + 1 := wrap_i64 (by omega) (by omega)
   have hq41 := h41 x (List.mem_of_getElem? hx)
   obtain ⟨m, r, rfl⟩ : ∃ m r, x = m :: r := by cases x with | nil => cases hq41 | cons m r => exact ⟨m, r, rfl⟩
   have hrl : r.length = 40 := by simpa using hq41
   have hxl : (stK (m :: r)).length = 41 := (stK_len _).trans hq41
   have hxt : List.take 41 (stK (m :: r)) = stK (m :: r) := List.take_of_length_le (by omega)
   have hxo := stK_one (m :: r)
   refine tr_skip ?_
   refine hK2 _ ?_; try clear hK2 K2
   refine seq_k fun K3 hK3 => ?_
   refine tr_block ?_
   refine region_k T_ok (by decide) fun K hK => ?_
   simp [go_sem, hI, hi0, h', hx, hx', hxl, hxt]
   refine ⟨hxo, ?_⟩
   rw [stK_cons] at hxl hxt hxo ⊢
   refine hK _ ?_; clear hK K
   refine region_to T_ok (by decide) ⟨73, [(0, .ro 41 (stR s)), (1, iV n), (5, bV (w && (decide (m = n) && (decide (0 ≤ n) && decide (n ≤ 40))))), (14, .ro 41 (stR s)), (15, iV (s.length : Nat)), (16, iV (i : Nat)), (6, iV (i : Nat)), (7, .ptr j 0 0)], [(j, .rows 41 [.agg (iV m :: uVs r)])], j + 1⟩ ?_ ?_
   ·by_cases c1 : w = true
    ·by_cases c2 : m = n
     ·by_cases c3 : 0 ≤ n
      ·by_cases c4 : n ≤ 40
       ·simp [go_sem, c1, c2, c3, c4]
        refine Weaker.fz 1 0 ?_ ?_ ?_
        ·simp [go_sem, c1, c2, c3, c4]
        ·first | (simp; done) | (simp; omega)
        ·simp [go_sem, c1, c2, c3, c4]
       ·simp [go_sem, c1, c2, c3, c4]
        refine Weaker.fz 1 0 ?_ ?_ ?_
        ·simp [go_sem, c1, c2, c3, c4]
        ·first | (simp; done) | (simp; omega)
        ·simp [go_sem, c1, c2, c3, c4]
      ·simp [go_sem, c1, c2, c3]
       refine Weaker.fz 1 0 ?_ ?_ ?_
       ·simp [go_sem, c1, c2, c3]
       ·first | (simp; done) | (simp; omega)
       ·simp [go_sem, c1, c2, c3]
     ·simp [go_sem, c1, c2]
      refine Weaker.fz 1 0 ?_ ?_ ?_
      ·simp [go_sem, c1, c2]
      ·first | (simp; done) | (simp; omega)
      ·simp [go_sem, c1, c2]
    ·simp [go_sem, c1]
     refine Weaker.fz 1 0 ?_ ?_ ?_
     ·simp [go_sem, c1]
     ·first | (simp; done) | (simp; omega)
     ·simp [go_sem, c1]
   ·obtain ⟨w1, hw1b⟩ : ∃ w1, (w && (decide (m = n) && (decide (0 ≤ n) && decide (n ≤ 40)))) = w1 := ⟨_, rfl⟩
    rw [hw1b]
    refine seq_to ⟨73, [(0, .ro 41 (stR s)), (1, iV n), (5, bV (w1 && (decide (i = 0) || decide (∀ p, s[i - 1]? = some p → cmpL p (m :: r) < 0)))), (14, .ro 41 (stR s)), (15, iV (s.length : Nat)), (16, iV (i : Nat)), (7, .ptr j 0 0)], [(j, .rows 41 [.agg (iV m :: uVs r)])], j + 60⟩ ?_ ?_
    ·skip
     refine region_k T_ok (by decide) fun K hK => ?_
     simp [go_sem]
     refine hK _ ?_; clear hK K
     refine cond_k rfl (fun h => ?_) (fun h => ?_)
     ·have hip : 0 < i := by simp at h; omega
      clear h
      obtain ⟨q, hq⟩ : ∃ q, i - 1 = q := ⟨_, rfl⟩
      have hqs : q < s.length := by omega
      obtain ⟨p, hp, hp'⟩ := getAt hqs
      have hwm : IntKind.i64.wrap ((i : Nat) - 1) = (q : Nat) := by rw [wrap_i64 (by omega) (by omega)]; omega
      have hqI : (q : Int) < (s.length : Nat) := by omega
      have hq0 : (0 : Int) ≤ (q : Nat) := by omega
      have hp41 := h41 p (List.mem_of_getElem? hp)
      have hpl : (stK p).length = 41 := (stK_len p).trans hp41
      have hpt : List.take 41 (stK p) = stK p := List.take_of_length_le (by omega)
      have hpo := stK_one p
      have hpv : (decide (i = 0) || decide (∀ p, s[i - 1]? = some p → cmpL p (m :: r) < 0)) = decide (cmpL p (m :: r) < 0) := by
       rw [decide_eq_false (by omega), Bool.false_or, Bool.eq_iff_iff, decide_eq_true_eq, decide_eq_true_eq, hq, hp]; exact ⟨fun h => h p rfl, fun h p' e => by cases e; exact h⟩
      refine draw_e T_ok (by kernel_rfl) 8 [[], [0], [0, 1], [0, 1], [0, 1, 3], [0, 1, 2, 3, 4], [0, 1, 2, 3, 4, 5], [0, 1], [0, 1, 2, 3, 4, 5, 6, 7], [0, 1, 2, 3, 4, 5, 6, 7, 8], [0, 1, 2, 3, 4, 5, 6, 7, 8, 9], [0, 1, 2, 3, 4, 5, 6, 7, 8, 9, 10]] [] (by decide) (by decide) (by decide) fun K hK => ?_
      first | dsimp only [List.take, List.drop] | dsimp [List.take, List.drop]
      cases w1
      ·simp [go_sem]
       refine hK _ ?_; clear hK K
       refine Weaker.fzk 1 0 (by omega) ?_ ?_ ?_
       ·simp [go_sem, hpv]
       ·first | (simp; done) | (simp; omega)
       ·simp [go_sem, hpv]
      ·simp [go_sem, hqI, hq0, hqs, hp, hp', hpl, hpt, hwm, hxl, hxt]
       first | (refine ⟨hpo, ?_⟩) | skip
       refine call_pf (compare_pf p (m :: r) hp41 hq41).lo ?_
       simp [go_sem, hqI, hq0, hqs, hp, hp', hpl, hpt, hwm, hxl, hxt]
       refine hK _ ?_; clear hK K
       refine Weaker.fzk 1 0 (by omega) ?_ ?_ ?_
       ·simp [go_sem, hpv]
       ·first | (simp; done) | (simp; omega)
       ·simp [go_sem, hpv]
     ·have hip : i = 0 := by simp at h; omega
      clear h
      have hpv : (decide (i = 0) || decide (∀ p, s[i - 1]? = some p → cmpL p (m :: r) < 0)) = true := by rw [decide_eq_true hip, Bool.true_or]
      refine tr_skip ?_
      refine Weaker.fzk 1 0 (by omega) ?_ ?_ ?_
      ·simp [go_sem, hpv]
      ·first | (simp; done) | (simp; omega)
      ·simp [go_sem, hpv]
    ·obtain ⟨w2, hw2⟩ : ∃ w2, (w1 && (decide (i = 0) || decide (∀ p, s[i - 1]? = some p → cmpL p (m :: r) < 0))) = w2 := ⟨_, rfl⟩
     rw [hw2]
     obtain ⟨c, hcl⟩ : ∃ c : Nat, c = (max (min n 40) 0).toNat := ⟨_, rfl⟩
     have hc40 : c ≤ 40 := by omega
     refine region_to T_ok (by decide) ⟨73, [(0, .ro 41 (stR s)), (1, iV n), (5, bV w2), (14, .ro 41 (stR s)), (15, iV (s.length : Nat)), (16, iV (i : Nat)), (7, .ptr j 0 0), (8, iV (c : Nat))], [(j, .rows 41 [.agg (iV m :: uVs r)])], j + 60⟩ ?_ ?_
     ·by_cases c1 : n < 0
      ·have e1 : c = 0 := by omega
       have e2 : n < 40 := by omega
       have e3 : ¬ 40 < n := by omega
       simp [go_sem, c1, e1, e2, e3]
       refine Weaker.fz 1 0 ?_ ?_ ?_
       ·simp [go_sem, c1, e1, e2, e3]
       ·first | (simp; done) | (simp; omega)
       ·simp [go_sem, c1, e1, e2, e3]
      ·by_cases c2 : 40 < n
       ·have e1 : c = 40 := by omega
        have e3 : ¬ n < 40 := by omega
        have e4 : ¬ n ≤ 40 := by omega
        simp [go_sem, c1, c2, e1, e3, e4]
        refine Weaker.fz 1 0 ?_ ?_ ?_
        ·simp [go_sem, c1, c2, e1, e3, e4]
        ·first | (simp; done) | (simp; omega)
        ·simp [go_sem, c1, c2, e1, e3, e4]
       ·have e1 : (c : Int) = n := by omega
        have e3 : n ≤ 40 := by omega
        have e4 : 0 ≤ n := by omega
        have e5 : 0 < n ∨ n = 0 := by omega
        simp [go_sem, c1, c2, e1, e3, e4]
        refine Weaker.fz 1 0 ?_ ?_ ?_
        ·simp [go_sem, c1, c2, e1, e3, e4]
        ·first | (simp; done) | (simp; omega)
        ·simp [go_sem, c1, c2, e1, e3, e4]
     ·skip
      refine tr_block ?_
      refine loop_p (α := Nat × Bool) (fun a => ⟨73, [(0, .ro 41 (stR s)), (1, iV n), (5, bV a.2), (14, .ro 41 (stR s)), (15, iV (s.length : Nat)), (16, iV (i : Nat)), (7, .ptr j 0 0), (8, iV (a.1 : Nat))], [(j, .rows 41 [.agg (iV m :: uVs r)])], j + 60⟩) (fun a => c ≤ a.1 ∧ a.1 ≤ 40 ∧ (a.2 = true ↔ w2 = true ∧ ∀ k v, c ≤ k → k < a.1 → r[k]? = some v → v = 0)) (fun a => 40 - a.1) (c, w2) ?_ ?_ ?_
      ·exact ⟨Nat.le_refl _, by omega, by simp; intro h k v h1 h2; omega⟩
      ·refine Weaker.fz 1 0 ?_ ?_ ?_
       ·simp [go_sem]
       ·first | (simp; done) | (simp; omega)
       ·simp [go_sem]
      rintro ⟨k, w3⟩ ⟨hck, hk40, hw3⟩
      dsimp only at hck hk40 hw3 ⊢
      refine seq_k fun K4 hK4 => ?_
      refine region_k T_ok (by decide) fun K hK => ?_
      simp [go_sem]
      refine hK _ ?_; clear hK K
      refine cond_k rfl (fun h => ?_) (fun h => ?_)
      ·simp at h
       have hkI := h
       clear h
       have hk : k < r.length := by omega
       obtain ⟨v, hv, hv'⟩ := getAt hk
       have hk0 : (0 : Int) ≤ (k : Nat) := by omega
       have hwk : IntKind.i64.wrap ((k : Nat) + 1) = (k : Nat) + 1 := wrap_i64 (by omega) (by omega)
       have hk40 : 1 + k ≤ 40 := by omega
       have hvg : (iV m :: uVs r)[1 + k]?.getD V.any = uV v := by rw [Nat.add_comm]; simp [uVs, hv]
       refine tr_skip ?_
       refine hK4 _ ?_; try clear hK4 K4
       refine seq_to ⟨73, [(0, .ro 41 (stR s)), (1, iV n), (5, bV (w3 && decide (v = 0))), (14, .ro 41 (stR s)), (15, iV (s.length : Nat)), (16, iV (i : Nat)), (7, .ptr j 0 0), (8, iV (k : Nat))], [(j, .rows 41 [.agg (iV m :: uVs r)])], j + 60⟩ ?_ ?_
       ·skip
        refine tr_block ?_
        refine region_e T_ok (by decide) fun K hK => ?_
        have hcs : w3 = false ∨ (w3 = true ∧ v = 0) ∨ (w3 = true ∧ ¬ v = 0) := by cases w3 <;> simp <;> omega
        rcases hcs with c1 | ⟨c1, c2⟩ | ⟨c1, c2⟩
        ·simp [go_sem, c1, hkI, hk0, hk40, hvg]
         refine hK _ ?_; clear hK K
         refine Weaker.fzk 1 0 (by omega) ?_ ?_ ?_
         ·simp [go_sem, c1]
         ·first | (simp; done) | (simp; omega)
         ·simp [go_sem, c1]
        ·simp [go_sem, c1, c2, hkI, hk0, hk40, hvg]
         refine hK _ ?_; clear hK K
         refine Weaker.fzk 1 0 (by omega) ?_ ?_ ?_
         ·simp [go_sem, c1, c2]
         ·first | (simp; done) | (simp; omega)
         ·simp [go_sem, c1, c2]
        ·simp [go_sem, c1, c2, hkI, hk0, hk40, hvg]
         refine hK _ ?_; clear hK K
         refine Weaker.fzk 1 0 (by omega) ?_ ?_ ?_
         ·simp [go_sem, c1, c2]
         ·first | (simp; done) | (simp; omega)
         ·simp [go_sem, c1, c2]
       ·skip
        refine region_e T_ok (by decide) fun K hK => ?_
        simp [go_sem, hwk]
        refine hK _ ?_; clear hK K
        refine ⟨(k + 1, w3 && decide (v = 0)), ?_, ?_, ?_⟩
        ·exact ⟨by omega, by omega, by
          dsimp only
          rw [Bool.and_eq_true, hw3, decide_eq_true_eq]
          constructor
          ·rintro ⟨⟨a, b⟩, e⟩
           refine ⟨a, fun k2 v2 h1 h2 h3 => ?_⟩
           rcases Nat.lt_or_ge k2 k with h | h
           ·exact b k2 v2 h1 h h3
           ·obtain rfl : k2 = k := by omega
            rw [hv] at h3; cases h3; exact e
          ·rintro ⟨a, b⟩
           exact ⟨⟨a, fun k2 v2 h1 h2 h3 => b k2 v2 h1 (by omega) h3⟩, b k v hck (by omega) hv⟩⟩
        ·dsimp only; omega
        ·refine Weaker.fz 1 0 ?_ ?_ ?_
         ·simp [go_sem]
         ·first | (simp; done) | (simp; omega)
         simp [go_sem]
      ·simp at h
       obtain rfl : k = 40 := by omega
       clear h
       refine tr_exit ?_
       refine hK3 _ ?_; try clear hK3 K3
       refine region_e T_ok (by decide) fun K hK => ?_
       simp [go_sem, hw]
       refine hK _ ?_; clear hK K
       refine ⟨(i + 1, j + 200, w3), ?_, ?_, ?_⟩
       ·dsimp only; exact ⟨by omega, by
         rw [hw3]
         constructor
         ·rintro ⟨a, b⟩ i2 m2 r2 h2 hq2
          rw [← hw2, Bool.and_eq_true, ← hw1b, Bool.and_eq_true, hw1] at a
          rcases Nat.lt_or_ge i2 i with h | h
          ·exact a.1.1 i2 m2 r2 h hq2
          ·obtain rfl : i2 = i := by omega
           rw [hx] at hq2; cases hq2
           refine (okAt_parts hrl).2 ⟨⟨by simpa using a.1.2, fun hp p e => ?_⟩, fun k v h1 h2 h3 => b k v (by rw [hcl]; exact h1) h2 h3⟩
           have := a.2
           rw [Bool.or_eq_true, decide_eq_true_eq, decide_eq_true_eq] at this
           exact this.elim (fun h => by omega) fun h => h p e
         ·intro h
          have ho := (okAt_parts hrl).1 (h i m r (by omega) hx)
          refine ⟨?_, fun k v h1 h2 h3 => ho.2 k v (by rw [← hcl]; exact h1) h2 h3⟩
          rw [← hw2, Bool.and_eq_true, ← hw1b, Bool.and_eq_true, hw1]
          refine ⟨⟨fun i2 m2 r2 h2 => h i2 m2 r2 (by omega), by simpa using ho.1.1⟩, ?_⟩
          rw [Bool.or_eq_true, decide_eq_true_eq, decide_eq_true_eq]
          rcases Nat.eq_zero_or_pos i with e | e
          ·exact .inl e
          ·exact .inr (ho.1.2 e)⟩
       ·dsimp only; omega
       ·refine Weaker.fzk 1 0 (by first | omega | (dsimp only; omega)) ?_ ?_ ?_
        ·simp [go_sem]
        ·first | (simp; done) | (simp; omega)
        simp [go_sem]
  ·simp at h
   obtain rfl : i = s.length := by omega
   clear h
   have hwg : w = decide (goodS n s) := by rw [Bool.eq_iff_iff, hw1, decide_eq_true_eq]; exact ⟨fun h i m r a => h i m r (List.getElem?_eq_some_iff.1 a).1 a, fun h i m r _ a => h i m r a⟩
   refine tr_exit ?_
   refine hK1 _ ?_; try clear hK1 K1
   refine region_k T_ok (by decide) fun K hK => ?_
   simp [go_sem]
   refine call_pf awake12 ?_
   simp [go_sem]
   refine call_pf (good_pf n s h41 (by omega)).lo ?_
   simp [go_sem, hwg]
   refine hK _ ?_; clear hK K
   refine tr_ret ⟨.inr rfl, ?_⟩
   simp [go_sem]
end Go.Proofs.YtjhnpebgfjefoaaDoor
