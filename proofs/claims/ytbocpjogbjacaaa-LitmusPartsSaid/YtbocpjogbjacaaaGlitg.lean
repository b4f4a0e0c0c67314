/- Litmus tests: the walks of HasPairs, Cut, Passing. -/
import Derived.Test.YtbocpjogbjacaaaGlita
import Derived.Test.YtbocpjogbjacaaaW10
set_option linter.unusedVariables false
set_option linter.unusedSimpArgs false
namespace Go.Proofs.Ytbocpjogbjacaaa
open Go Go.Sl Go.Proofs.Try

theorem Pf.seen_res' {P : Program} {f : FuncId} {args : List V} {r r' : V} (h : SeenAs r r') (p : Pf P f args r) : Pf P f args r' :=
  ⟨p.enters, fun ι O w cargs hO hv => (p.calls ι O w cargs hO hv).mono fun e w' ⟨cv, he, hr, h1⟩ => ⟨cv, he, h _ _ _ _ hr, h1⟩⟩

theorem hasPairs_pf (t : Tst) (ht : t.ths.length ≤ 1000) (hl : ∀ x ∈ t.ths, x.length ≤ 1000) : Pf Try.prog 11 [.rp t.cs 0] (bV (hasPairs t.ths)) := by
  refine Pf.of_fn (.cons (nl_rp t) .nil) (.val _) ?_
  refine fn_in T_ok func11 rfl rfl ntmps11 rfl (by simp) ?_
  refine region_k T_ok (by decide) fun K hK => ?_
  simp [go_sem]
  refine hK _ ?_; clear hK K
  refine seq_k fun K1 hK1 => ?_
  refine region_k T_ok (by decide) fun K hK => ?_
  simp [go_sem, Tst.cs]
  refine hK _ ?_; clear hK K
  refine tr_block ?_
  refine loop_p (α := Nat × Nat) (fun a => ⟨32, [(10, .ro 1 (thrs t.ths)), (11, iV (t.ths.length : Nat)), (12, iV (a.1 : Nat))], [], a.2⟩) (fun a => a.1 ≤ t.ths.length ∧ (t.ths.take a.1).any (fun x => x.any isPair) = false) (fun a => t.ths.length - a.1) (0, 0) ?_ ?_ ?_
  · exact ⟨by dsimp only; omega, rfl⟩
  · refine Weaker.fz 1 0 ?_ ?_ ?_
    · simp [go_sem]
    · first | (simp; done) | (simp; omega)
    · simp [go_sem]
  rintro ⟨i, j⟩ ⟨hi, hf⟩
  dsimp only at hi hf ⊢
  refine region_k T_ok (by decide) fun K hK => ?_
  simp [go_sem]
  refine hK _ ?_; clear hK K
  refine seq_k fun K2 hK2 => ?_
  refine cond_k rfl (fun h => ?_) (fun h => ?_)
  · simp at h
    have hI := h
    clear h
    have h' : i < (t.ths).length := by omega
    obtain ⟨l, hx, hx'⟩ := getAt h'
    have hi0 : (0 : Int) ≤ (i : Nat) := by omega
    have hw : IntKind.i64.wrap ((i : Nat) + 1) = (i : Nat) + 1 := wrap_i64 (by omega) (by omega)
    have hll := hl l (List.mem_of_getElem? hx)
    refine tr_skip ?_
    refine hK2 _ ?_; try clear hK2 K2
    refine seq_k fun K3 hK3 => ?_
    refine tr_block ?_
    refine region_k T_ok (by decide) fun K hK => ?_
    simp [go_sem, hI, hx, hx', hi0, h']
    refine hK _ ?_; clear hK K
    refine region_k T_ok (by decide) fun K hK => ?_
    simp [go_sem]
    refine hK _ ?_; clear hK K
    refine tr_block ?_
    refine loop_p (α := Nat × Nat) (fun b => ⟨32, [(10, .ro 1 (thrs t.ths)), (11, iV (t.ths.length : Nat)), (12, iV (i : Nat)), (16, .ro 13 (inss l)), (17, iV (l.length : Nat)), (18, iV (b.1 : Nat))], [], b.2⟩) (fun b => b.1 ≤ l.length ∧ (l.take b.1).any isPair = false) (fun b => l.length - b.1) (0, j) ?_ ?_ ?_
    · exact ⟨by dsimp only; omega, rfl⟩
    · refine Weaker.fz 1 0 ?_ ?_ ?_
      · simp [go_sem]
      · first | (simp; done) | (simp; omega)
      · simp [go_sem]
    rintro ⟨b, c⟩ ⟨hib, hfb⟩
    dsimp only at hib hfb ⊢
    refine region_k T_ok (by decide) fun K hK => ?_
    simp [go_sem]
    refine hK _ ?_; clear hK K
    refine seq_k fun K4 hK4 => ?_
    refine cond_k rfl (fun h => ?_) (fun h => ?_)
    · simp at h
      have hIb := h
      clear h
      have h'b : b < (l).length := by omega
      obtain ⟨x, hxb, hx'b⟩ := getAt h'b
      have hi0b : (0 : Int) ≤ (b : Nat) := by omega
      have hwb : IntKind.i64.wrap ((b : Nat) + 1) = (b : Nat) + 1 := wrap_i64 (by omega) (by omega)
      refine tr_skip ?_
      refine hK4 _ ?_; try clear hK4 K4
      refine seq_k fun K5 hK5 => ?_
      refine tr_block ?_
      refine region_k T_ok (by decide) fun K hK => ?_
      simp [go_sem, hIb, hxb, hx'b, hi0b, h'b, insC]
      refine hK _ ?_; clear hK K
      refine region_to T_ok (by decide) ⟨32, [(10, .ro 1 (thrs t.ths)), (11, iV (t.ths.length : Nat)), (12, iV (i : Nat)), (16, .ro 13 (inss l)), (17, iV (l.length : Nat)), (18, iV (b : Nat)), (29, bV (isPair x))], [], c + 1⟩ ?_ ?_
      · by_cases c1 : x.op = 13
        · simp [go_sem, c1]
          refine Weaker.fz 1 0 ?_ ?_ ?_
          · simp [go_sem, c1, isPair]
          · first | (simp; done) | (simp; omega)
          · simp [go_sem, c1, isPair]
        · by_cases c2 : x.op = 14
          · simp [go_sem, c1, c2]
            refine Weaker.fz 1 0 ?_ ?_ ?_
            · simp [go_sem, c1, c2, isPair]
            · first | (simp; done) | (simp; omega)
            · simp [go_sem, c1, c2, isPair]
          · simp [go_sem, c1, c2]
            refine Weaker.fz 1 0 ?_ ?_ ?_
            · simp [go_sem, c1, c2, isPair]
            · first | (simp; done) | (simp; omega)
            · simp [go_sem, c1, c2, isPair]
      · skip
        refine cond_k rfl (fun h => ?_) (fun h => ?_)
        · have hp := h
          refine region_k T_ok (by decide) fun K hK => ?_
          simp [go_sem]
          refine hK _ ?_; clear hK K
          refine tr_ret ⟨.inr rfl, ?_⟩
          simp [go_sem, show hasPairs t.ths = true from any_at hx (any_at hxb hp)]
        · have hp := h
          refine tr_skip ?_
          refine hK5 _ ?_; try clear hK5 K5
          refine region_e T_ok (by decide) fun K hK => ?_
          simp [go_sem, hwb]
          refine hK _ ?_; clear hK K
          refine ⟨(b + 1, c + 1), ?_, ?_, ?_⟩
          · exact ⟨by dsimp only; omega, any_step hxb hfb hp⟩
          · dsimp only; omega
          · refine Weaker.fz 1 0 ?_ ?_ ?_
            · simp [go_sem]
            · first | (simp; done) | (simp; omega)
            simp [go_sem]
    · simp at h
      obtain rfl : b = l.length := by omega
      rw [List.take_length] at hfb
      refine tr_exit ?_
      refine hK3 _ ?_; try clear hK3 K3
      refine region_e T_ok (by decide) fun K hK => ?_
      simp [go_sem, hw]
      refine hK _ ?_; clear hK K
      refine ⟨(i + 1, c), ?_, ?_, ?_⟩
      · exact ⟨by dsimp only; omega, any_step hx hf hfb⟩
      · dsimp only; omega
      · refine Weaker.fz 1 0 ?_ ?_ ?_
        · simp [go_sem]
        · first | (simp; done) | (simp; omega)
        simp [go_sem]
  · simp at h
    obtain rfl : i = t.ths.length := by omega
    rw [List.take_length] at hf
    refine tr_exit ?_
    refine hK1 _ ?_; try clear hK1 K1
    refine region_k T_ok (by decide) fun K hK => ?_
    simp [go_sem]
    refine hK _ ?_; clear hK K
    refine tr_ret ⟨.inr rfl, ?_⟩
    simp [go_sem, show hasPairs t.ths = false from hf]

theorem cut_pf (s : ByteArray) (n : Nat) (hs : s.size ≤ 9223372036854775807) : Pf Try.prog 8 [.val (.string s), iV (n : Nat)] (.val (.string (cutS s n))) := by
  refine Pf.of_fn (.cons (.val _) (.cons (.val _) .nil)) (.val _) ?_
  refine fn_in T_ok func8 rfl rfl ntmps8 rfl (by simp) ?_
  refine region_k T_ok (by decide) fun K hK => ?_
  simp [go_sem]
  refine hK _ ?_; clear hK K
  refine seq_k fun K1 hK1 => ?_
  refine region_k T_ok (by decide) fun K hK => ?_
  simp [go_sem]
  refine hK _ ?_; clear hK K
  refine cond_k rfl (fun h => ?_) (fun h => ?_)
  · simp at h
    have hI := h
    have h' : n < s.size := by omega
    have hn0 : (0 : Int) ≤ (n : Nat) := by omega
    have hle : (n : Int) ≤ (s.size : Nat) := by omega
    have hle' : n ≤ s.size := by omega
    refine region_k T_ok (by decide) fun K hK => ?_
    simp [go_sem, hn0, hle, hle']
    refine hK _ ?_; clear hK K
    refine tr_ret ⟨.inr rfl, ?_⟩
    simp [go_sem, cutS, h']
  · simp at h
    have h' : ¬ n < s.size := by omega
    refine tr_skip ?_
    refine hK1 _ ?_; try clear hK1 K1
    refine region_k T_ok (by decide) fun K hK => ?_
    simp [go_sem]
    refine hK _ ?_; clear hK K
    refine tr_ret ⟨.inr rfl, ?_⟩
    simp [go_sem, cutS, h']

set_option maxRecDepth 100000 in
set_option maxHeartbeats 16000000 in
theorem passing_pf0  : Pf Try.prog 9 [] (.agg [.ro 2 (inis passing.locs), .ro 1 (thrs passing.ths), .val (.slice none 0 0)]) := by
  refine Pf.of_fz 3 .nil (.agg (.cons (nl_inis _) (.cons (nl_thrs _) (.cons (.val _) .nil)))) ?_
  refine fn_in T_ok func9 rfl rfl ntmps9 rfl (by simp) ?_
  refine region_k T_ok (by decide) fun K hK => ?_
  simp [go_sem]
  refine hK _ ?_; clear hK K
  refine region_k T_ok (by decide) fun K hK => ?_
  simp [go_sem]
  refine hK _ ?_; clear hK K
  refine region_k T_ok (by decide) fun K hK => ?_
  simp [go_sem]
  refine hK _ ?_; clear hK K
  refine tr_ret ⟨.inr rfl, ?_⟩
  simp [go_sem, passing, zI, inis, iniC, Ini.cs, thrs, inss, insC, Ins.cs]

theorem passing_pf : Pf Try.prog 9 [] (.agg passing.cs) :=
  Pf.seen_res' (seen_agg (.cons (SeenAs.refl _) (.cons (SeenAs.refl _) (.cons (seen_nil 3) .nil)))) passing_pf0

end Go.Proofs.Ytbocpjogbjacaaa
