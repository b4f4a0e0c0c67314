/- The document's orders: the walks of in, Members, Order; the program's chains. -/
import Derived.Test.YtjdaofmhklihiaaGrelk
import Derived.Test.YtjdaofmhklihiaaW8
set_option linter.unusedVariables false
set_option linter.unusedSimpArgs false
namespace Go.Proofs.Ytjdaofmhklihiaa
open Go Go.Sl Go.Proofs.Try

theorem shr_half (m i : Nat) (h : m < 65536) : IntKind.u16.wrap (((shr m i : Nat) : Int).tdiv 2) = ((shr m (i + 1) : Nat) : Int) := by
  have e : shr m (i + 1) = shr m i / 2 := by unfold shr; rw [Nat.shiftRight_succ]
  have hl : shr m i < 65536 := Nat.lt_of_le_of_lt (by unfold shr; rw [Nat.shiftRight_eq_div_pow]; exact Nat.div_le_self _ _) h
  have e2 : ((shr m i : Nat) : Int).tdiv 2 = ((shr m i / 2 : Nat) : Int) := by rw [Int.tdiv_eq_ediv_of_nonneg (by omega)]; rfl
  rw [e, e2]
  exact wrap_u16 (by omega) (by omega)
theorem shr_half' (m i : Nat) (h : m < 65536) : IntKind.u16.wrap (((shr m i : Nat) : Int) / 2) = ((shr m (i + 1) : Nat) : Int) := by
  rw [← shr_half m i h, Int.tdiv_eq_ediv_of_nonneg (by omega)]
theorem shr_odd' (s : Nat → Bool) {i : Nat} (h : i < 16) : ((shr (mask s) i : Nat) : Int) % 2 = (((s i).toNat : Nat) : Int) := by
  have h1 := mask_shr (q := s) h
  rw [Nat.and_one_is_mod] at h1
  rw [← h1]; rfl
theorem shr_odd (s : Nat → Bool) {i : Nat} (h : i < 16) : ((shr (mask s) i : Nat) : Int).tmod 2 = (((s i).toNat : Nat) : Int) := by
  have h1 := mask_shr (q := s) h
  rw [Nat.and_one_is_mod] at h1
  rw [Int.tmod_eq_emod_of_nonneg (by omega), ← h1]; rfl
theorem shr_zero (m : Nat) : shr m 0 = m := rfl
theorem rin_cast (i : Nat) (c : Int) (h : c < (i : Int)) (h0 : 0 ≤ c) : c.toNat < i := by omega

theorem rin_pf (s : Nat → Bool) (n : Nat) (hn : n < 16) : Pf Try.prog 36 [.val (.int .u16 (mask s)), .val (.int .i64 (n : Int))] (.val (.bool (s n))) := by
  refine Pf.of_fn (.cons (.val _) (.cons (.val _) .nil)) (.val _) ?_
  have hml := mask_lt s
  refine fn_in T_ok func36 rfl rfl ntmps36 rfl (by simp) ?_
  refine region_k T_ok (by decide) fun K hK => ?_
  simp [go_sem]
  refine hK _ ?_; clear hK K
  refine seq_k fun K1 hK1 => ?_
  refine region_k T_ok (by decide) fun K hK => ?_
  simp [go_sem]
  refine hK _ ?_; clear hK K
  refine tr_block ?_
  refine loop_p (α := Nat) (fun a => ⟨16, [(0, .val (.int .u16 (shr (mask s) a))), (1, .val (.int .i64 n)), (5, .val (.int .i64 a))], [], 0⟩) (fun a => a ≤ n) (fun a => n - a) 0 ?_ ?_ ?_
  · omega
  · exact Weaker.of (by simp [Sl.get, shr_zero]) (by simp) (by simp [Sl.look])
  rintro i hi
  try dsimp only
  refine seq_k fun K2 hK2 => ?_
  refine region_k T_ok (by decide) fun K hK => ?_
  simp [go_sem]
  refine hK _ ?_; clear hK K
  refine cond_k rfl (fun h => ?_) (fun h => ?_)
  · simp at h
    have h' : i < n := by omega
    have hw : IntKind.i64.wrap ((i : Nat) + 1) = (i : Nat) + 1 := wrap_i64 (by omega) (by omega)
    have hq := shr_half (mask s) i hml
    have hq2 := shr_half' (mask s) i hml
    refine tr_skip ?_
    refine hK2 _ ?_; try clear hK2 K2
    refine seq_k fun K3 hK3 => ?_
    refine tr_block ?_
    refine region_e T_ok (by decide) fun K hK => ?_
    simp [go_sem, hq, hq2]
    refine hK _ ?_; clear hK K
    refine hK3 _ ?_; try clear hK3 K3
    refine region_e T_ok (by decide) fun K hK => ?_
    simp [go_sem, hw]
    refine hK _ ?_; clear hK K
    refine ⟨i + 1, ?_, ?_, ?_⟩
    · omega
    · omega
    · refine Weaker.of ?_ ?_ ?_
      · simp [Sl.get]
      · first | (simp; done) | (simp; omega)
      simp [Sl.look]
  · simp at h
    obtain rfl : i = n := by omega
    have hr := shr_odd s hn
    have hr2 := shr_odd' s hn
    refine tr_exit ?_
    refine hK1 _ ?_; try clear hK1 K1
    refine region_k T_ok (by decide) fun K hK => ?_
    simp [go_sem, hr, hr2]
    refine hK _ ?_; clear hK K
    refine tr_ret ⟨.inr rfl, ?_⟩
    simp [go_sem]

theorem members_pf (s : Nat → Bool) : Pf Try.prog 15 [.val (.int .u16 (mask s))] (.ro 1 (nums (mem s 16))) := by
  refine Pf.of_fz 1 (.cons (.val _) .nil) (.ro (nl_nums _)) ?_
  refine fn_in T_ok func15 rfl rfl ntmps15 rfl (by simp) ?_
  refine region_k T_ok (by decide) fun K hK => ?_
  simp [go_sem]
  refine hK _ ?_; clear hK K
  refine region_k T_ok (by decide) fun K hK => ?_
  simp [go_sem]
  refine hK _ ?_; clear hK K
  refine seq_k fun K1 hK1 => ?_
  refine region_k T_ok (by decide) fun K hK => ?_
  simp [go_sem]
  refine hK _ ?_; clear hK K
  refine tr_block ?_
  refine loop_p (α := Nat × Nat) (fun a => ⟨18, [(0, .val (.int .u16 (mask s))), (3, .sl a.2 0 (mem s a.1).length), (4, .val (.int .i64 a.1))], [(a.2, .rows 1 (nums (mem s a.1)))], a.2 + 1⟩) (fun a => a.1 ≤ 16) (fun a => 16 - a.1) (0, 0) ?_ ?_ ?_
  · dsimp only; omega
  · refine Weaker.fz 1 0 ?_ ?_ ?_
    · simp [go_sem, mem_zero]
    · first | (simp; done) | (simp; omega)
    · simp [go_sem, mem_zero, nums]
  rintro ⟨i, j⟩ hi
  dsimp only at hi ⊢
  refine seq_k fun K2 hK2 => ?_
  refine region_k T_ok (by decide) fun K hK => ?_
  simp [go_sem]
  refine hK _ ?_; clear hK K
  refine cond_k rfl (fun h => ?_) (fun h => ?_)
  · simp at h
    have h' : i < 16 := by omega
    have hw : IntKind.i64.wrap ((i : Nat) + 1) = (i : Nat) + 1 := wrap_i64 (by omega) (by omega)
    have hml := mem_len s i
    refine tr_skip ?_
    refine hK2 _ ?_; try clear hK2 K2
    refine seq_k fun K3 hK3 => ?_
    refine tr_block ?_
    refine region_k T_ok (by decide) fun K hK => ?_
    simp [go_sem]
    refine call_pf (rin_pf s i h') ?_
    simp [go_sem]
    refine hK _ ?_; clear hK K
    refine cond_k rfl (fun h => ?_) (fun h => ?_)
    · skip
      refine region_e T_ok (by decide) fun K hK => ?_
      simp [go_sem]
      refine ⟨by omega, ?_⟩
      refine hK _ ?_; clear hK K
      refine hK3 _ ?_; try clear hK3 K3
      refine region_e T_ok (by decide) fun K hK => ?_
      simp [go_sem, hw]
      refine hK _ ?_; clear hK K
      refine ⟨(i + 1, j + 2), ?_, ?_, ?_⟩
      · dsimp only; omega
      · dsimp only; omega
      · refine Weaker.fz 1 0 ?_ ?_ ?_
        · simp [go_sem, mem_yes h]
        · first | (simp; done) | (simp; omega)
        simp [go_sem, mem_yes h, nums_append, nums_one]
    · skip
      refine tr_skip ?_
      refine hK3 _ ?_; try clear hK3 K3
      refine region_e T_ok (by decide) fun K hK => ?_
      simp [go_sem, hw]
      refine hK _ ?_; clear hK K
      refine ⟨(i + 1, j), ?_, ?_, ?_⟩
      · dsimp only; omega
      · dsimp only; omega
      · refine Weaker.fz 1 0 ?_ ?_ ?_
        · simp [go_sem, mem_no h]
        · first | (simp; done) | (simp; omega)
        simp [go_sem, mem_no h]
  · simp at h
    obtain rfl : i = 16 := by omega
    refine tr_exit ?_
    refine hK1 _ ?_; try clear hK1 K1
    refine region_k T_ok (by decide) fun K hK => ?_
    simp [go_sem]
    refine hK _ ?_; clear hK K
    refine tr_ret ⟨.inr rfl, ?_⟩
    simp [go_sem]

theorem chain_pf (l : List Int) (hl : l.length ≤ 1000) : Pf Try.prog 19 [.ro 1 (ints l)] (.agg (relC fun a b => chA l (a : Int) (b : Int))) := by
  refine Pf.of_fn (.cons (nl_ints l) .nil) (.agg (nl_relC _)) ?_
  refine fn_in T_ok func19 rfl rfl ntmps19 rfl (by simp) ?_
  refine region_k T_ok (by decide) fun K hK => ?_
  simp [go_sem]
  refine hK _ ?_; clear hK K
  refine region_k T_ok (by decide) fun K hK => ?_
  simp [go_sem]
  refine hK _ ?_; clear hK K
  refine seq_k fun K1 hK1 => ?_
  refine region_k T_ok (by decide) fun K hK => ?_
  simp [go_sem]
  refine hK _ ?_; clear hK K
  refine tr_block ?_
  refine loop_p (α := Nat) (fun a => ⟨31, [(0, .ro 1 (ints l)), (2, .ptr 0 0 0), (3, .ptr 1 0 0), (8, .ro 1 (ints l)), (9, .val (.int .i64 l.length)), (10, .val (.int .i64 a))], [(0, .rows 16 [.agg (relC fun _ _ => false)]), (1, .rows 16 [.agg (relC fun x y => chP l a (x : Int) (y : Int))])], 2⟩) (fun a => a ≤ l.length) (fun a => l.length - a) 0 ?_ ?_ ?_
  · omega
  · refine Weaker.fz 1 0 ?_ ?_ ?_
    · simp [go_sem]
    · first | (simp; done) | (simp; omega)
    · simp [go_sem, chP]
  rintro i hi
  try dsimp only
  refine region_k T_ok (by decide) fun K hK => ?_
  simp [go_sem]
  refine hK _ ?_; clear hK K
  refine seq_k fun K2 hK2 => ?_
  refine cond_k rfl (fun h => ?_) (fun h => ?_)
  · simp at h
    have hI := h
    clear h
    have h' : i < (l).length := by omega
    obtain ⟨x, hx, hx'⟩ := lt_at h'
    have hi0 : (0 : Int) ≤ (i : Nat) := by omega
    have hw : IntKind.i64.wrap ((i : Nat) + 1) = (i : Nat) + 1 := wrap_i64 (by omega) (by omega)
    have hdl : (l.drop (i + 1)).length = l.length - (i + 1) := List.length_drop ..
    have htl : (l.drop (i + 1)).take (l.length - (i + 1)) = l.drop (i + 1) := List.take_of_length_le (by rw [List.length_drop]; omega)
    have hsl : (0 : Int) ≤ (i : Int) + 1 := by omega
    have hsl2 : (i : Int) + 1 ≤ (l.length : Nat) := by omega
    have hsl3 : ((i : Int) + 1).toNat = i + 1 := by omega
    have hsl4 : i + 1 ≤ l.length := by omega
    refine tr_skip ?_
    refine hK2 _ ?_; try clear hK2 K2
    refine seq_k fun K3 hK3 => ?_
    refine tr_block ?_
    refine region_k T_ok (by decide) fun K hK => ?_
    simp [go_sem, hI, hx, hx', hi0, h']
    refine hK _ ?_; clear hK K
    refine region_k T_ok (by decide) fun K hK => ?_
    simp [go_sem, hI, hx, hx', hi0, h', hw, hsl, hsl2, hsl3, hsl4]
    refine hK _ ?_; clear hK K
    refine tr_block ?_
    refine loop_p (α := Nat) (fun a => ⟨31, [(0, .ro 1 (ints l)), (2, .ptr 0 0 0), (3, .ptr 1 0 0), (5, .val (.int .i64 x)), (8, .ro 1 (ints l)), (9, .val (.int .i64 l.length)), (10, .val (.int .i64 i)), (18, .ro 1 (ints (l.drop (i + 1)))), (19, .val (.int .i64 (l.drop (i + 1)).length)), (20, .val (.int .i64 a))], [(0, .rows 16 [.agg (relC fun _ _ => false)]), (1, .rows 16 [.agg (relC fun x y => chI l i a (x : Int) (y : Int))])], 2⟩) (fun a => a ≤ (l.drop (i + 1)).length) (fun a => (l.drop (i + 1)).length - a) 0 ?_ ?_ ?_
    · omega
    · refine Weaker.fz 1 0 ?_ ?_ ?_
      · simp [go_sem, hdl, htl]
      · first | (simp; done) | (simp; omega)
      · simp [go_sem, chI_zero]
    rintro c hc
    try dsimp only
    refine region_k T_ok (by decide) fun K hK => ?_
    simp [go_sem]
    refine hK _ ?_; clear hK K
    refine seq_k fun K4 hK4 => ?_
    refine cond_k rfl (fun h => ?_) (fun h => ?_)
    · simp at h
      have hIb := h
      clear h
      have h'b : c < (l.drop (i + 1)).length := by omega
      obtain ⟨y, hxb, hx'b⟩ := lt_at h'b
      have hi0b : (0 : Int) ≤ (c : Nat) := by omega
      have hwb : IntKind.i64.wrap ((c : Nat) + 1) = (c : Nat) + 1 := wrap_i64 (by omega) (by omega)
      refine tr_skip ?_
      refine hK4 _ ?_; try clear hK4 K4
      refine seq_k fun K5 hK5 => ?_
      refine tr_block ?_
      refine region_k T_ok (by decide) fun K hK => ?_
      simp [go_sem, hIb, hxb, hx'b, hi0b, h'b]
      refine hK _ ?_; clear hK K
      refine region_e T_ok (by decide) fun K hK => ?_
      simp [go_sem]
      refine call_pf (with_eq _ (fun a b => chI l i (c + 1) (a : Int) (b : Int)) _ _ (fun a _ b _ => chI_step hx hxb a b)) ?_
      simp [go_sem]
      refine hK _ ?_; clear hK K
      refine hK5 _ ?_; try clear hK5 K5
      refine region_e T_ok (by decide) fun K hK => ?_
      simp [go_sem, hwb]
      refine hK _ ?_; clear hK K
      refine ⟨c + 1, ?_, ?_, ?_⟩
      · omega
      · omega
      · refine Weaker.fz 1 0 ?_ ?_ ?_
        · simp [go_sem]
        · first | (simp; done) | (simp; omega)
        simp [go_sem]
    · simp at h
      obtain rfl : c = (l.drop (i + 1)).length := by omega
      refine tr_exit ?_
      refine hK3 _ ?_; try clear hK3 K3
      refine region_e T_ok (by decide) fun K hK => ?_
      simp [go_sem, hw]
      refine hK _ ?_; clear hK K
      refine ⟨i + 1, ?_, ?_, ?_⟩
      · omega
      · omega
      · refine Weaker.fz 1 0 ?_ ?_ ?_
        · simp [go_sem]
        · first | (simp; done) | (simp; omega)
        simp [go_sem, chI_end, chI_end']
  · simp at h
    obtain rfl : i = l.length := by omega
    refine tr_exit ?_
    refine hK1 _ ?_; try clear hK1 K1
    refine region_k T_ok (by decide) fun K hK => ?_
    simp [go_sem]
    refine hK _ ?_; clear hK K
    refine tr_ret ⟨.inr rfl, ?_⟩
    simp [go_sem, chA]

end Go.Proofs.Ytjdaofmhklihiaa
