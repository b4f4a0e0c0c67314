/- Texts put together, in order: Goutg, Gouta, W102, W13, W14, W15, W31, Goutb, Gouts, Goutc, W100, Gouth, Gouti, W101, Goutd, Goute, Goutf, Goutk, W103, Goutl, Goutm, Goutn, W104, Gouto. -/
import Derived.Shelf.SlSortCmp.WholeK
import Derived.KernelRfl
import Derived.Shelf.Strings.OnBuilder
import Derived.LaidLaws
import Derived.LaidHandle
import Derived.LaidMore
import Derived.Stop.Joined
import Derived.SevenTiedAt
import Derived.Test.YtjhnpebgfjefoaaDoorI3
set_option linter.unusedVariables false
set_option linter.unusedSimpArgs false
namespace Go.Proofs.YtjhnpebgfjefoaaDoor
open Go Go.Sl Go.Proofs.Tryd
def dgA : ByteArray := ⟨#[48,49,50,51,52,53,54,55,56,57,97,98,99,100,101,102,103,104,105,106,107,108,109,110,111,112,113,114,115,116,117,118,119,120,121,122]⟩
def dgB : ByteArray := ⟨List.toArray (List.append (List.append [48,48,48,49,48,50,48,51,48,52,48,53,48,54,48,55,48,56,48,57,49,48,49,49,49,50,49,51,49,52,49,53,49,54,49,55,49,56,49,57,50,48,50,49,50,50,50,51,50,52] [50,53,50,54,50,55,50,56,50,57,51,48,51,49,51,50,51,51,51,52,51,53,51,54,51,55,51,56,51,57,52,48,52,49,52,50,52,51,52,52,52,53,52,54,52,55,52,56,52,57]) (List.append [53,48,53,49,53,50,53,51,53,52,53,53,53,54,53,55,53,56,53,57,54,48,54,49,54,50,54,51,54,52,54,53,54,54,54,55,54,56,54,57,55,48,55,49,55,50,55,51,55,52] [55,53,55,54,55,55,55,56,55,57,56,48,56,49,56,50,56,51,56,52,56,53,56,54,56,55,56,56,56,57,57,48,57,49,57,50,57,51,57,52,57,53,57,54,57,55,57,56,57,57]))⟩
def numS (n : Nat) : ByteArray := if n < 10 then dgA.extract n (n + 1) else dgB.extract (2 * n) (2 * n + 2)
theorem ext_size (b : ByteArray) (i j : Nat) : (b.extract i j).size ≤ j - i := by
 rw [ByteArray.size_extract]; omega
theorem numS_size (n : Nat) : (numS n).size ≤ 2 := by
 unfold numS
 split
 ·exact Nat.le_trans (ext_size _ _ _) (by omega)
 ·exact Nat.le_trans (ext_size _ _ _) (by omega)
theorem small_num (n : Nat) (hn : n < 100) : Pf Tryd.prog 98 [iV n] (.val (.string (numS n))) := by
 refine Pf.of_fn (.cons (.val _) .nil) (.val _) ?_
 refine fn_in T_ok func98 rfl rfl ntmps98 rfl (by simp) ?_
 refine region_k T_ok (by decide) fun K hK => ?_
 simp [go_sem]
 refine hK _ ?_; clear hK K
 refine seq_k fun K1 hK1 => ?_
 refine region_k T_ok (by decide) fun K hK => ?_
 simp [go_sem]
 refine hK _ ?_; clear hK K
 refine cond_k rfl (fun h => ?_) (fun h => ?_)
 ·have h10 : n < 10 := by simp at h; omega
  clear h
  obtain ⟨m, hm⟩ : ∃ m : Nat, m = n + 1 := ⟨_, rfl⟩
  have w1 : IntKind.i64.wrap ((n : Nat) + 1) = (m : Nat) := by rw [wrap_i64 (by omega) (by omega)]; omega
  have hsz : dgA.size = 36 := rfl
  have i1 : (n : Int) ≤ (m : Nat) := by omega
  have i2 : (m : Int) ≤ 36 := by omega
  refine region_k T_ok (by decide) fun K hK => ?_
  rw [← dgA]
  simp [go_sem, w1, hsz, i1, i2]
  refine hK _ ?_; clear hK K
  refine tr_ret ⟨.inr rfl, ?_⟩
  first | (simp [go_sem, numS, h10, hm]; done) | (simp [go_sem, numS, h10, hm, hm2]; done)
 ·have h10 : ¬ n < 10 := by simp at h; omega
  clear h
  obtain ⟨m, hm⟩ : ∃ m : Nat, m = 2 * n := ⟨_, rfl⟩
  obtain ⟨m2, hm2⟩ : ∃ m2 : Nat, m2 = 2 * n + 2 := ⟨_, rfl⟩
  have w1 : IntKind.i64.wrap ((n : Nat) * 2) = (m : Nat) := by rw [wrap_i64 (by omega) (by omega)]; omega
  have w2 : IntKind.i64.wrap ((m : Nat) + 2) = (m2 : Nat) := by rw [wrap_i64 (by omega) (by omega)]; omega
  have hsz : dgB.size = 200 := rfl
  have i1 : (m : Int) ≤ (m2 : Nat) := by omega
  have i2 : (m2 : Int) ≤ 200 := by omega
  refine tr_skip ?_
  refine hK1 _ ?_; try clear hK1 K1
  refine region_k T_ok (by decide) fun K hK => ?_
  rw [← dgB]
  simp [go_sem, w1, w2, hsz, i1, i2]
  refine hK _ ?_; clear hK K
  refine tr_ret ⟨.inr rfl, ?_⟩
  first | (simp [go_sem, numS, h10, hm]; done) | (simp [go_sem, numS, h10, hm, hm2]; done)
theorem fmtInt_num (n : Nat) (hn : n < 100) : Pf Tryd.prog 97 [iV n, iV 10] (.val (.string (numS n))) := by
 refine Pf.of_fn (.cons (.val _) (.cons (.val _) .nil)) (.val _) ?_
 have h1 : (0 : Int) ≤ (n : Nat) := by omega
 have h2 : (n : Int) < 100 := by omega
 refine fn_in T_ok func97 rfl rfl ntmps97 rfl (by simp) ?_
 refine region_k T_ok (by decide) fun K hK => ?_
 simp [go_sem]
 refine hK _ ?_; clear hK K
 refine seq_k fun K1 hK1 => ?_
 refine region_k T_ok (by decide) fun K hK => ?_
 simp [go_sem]
 refine hK _ ?_; clear hK K
 refine cond_k rfl (fun h => ?_) (fun h => ?_)
 ·clear h
  refine seq_k fun K2 hK2 => ?_
  refine region_k T_ok (by decide) fun K hK => ?_
  simp [go_sem, h1, h2]
  refine hK _ ?_; clear hK K
  refine cond_k rfl (fun h => ?_) (fun h => ?_)
  ·clear h
   refine region_k T_ok (by decide) fun K hK => ?_
   simp [go_sem]
   refine call_pf (small_num n hn) ?_
   simp [go_sem]
   refine hK _ ?_; clear hK K
   refine tr_ret ⟨.inr rfl, ?_⟩
   simp [go_sem]
  ·simp at h
 ·simp at h
theorem itoaI_num (n : Nat) (hn : n < 100) : Pf Tryd.prog 86 [iV n] (.val (.string (numS n))) := by
 refine Pf.of_fn (.cons (.val _) .nil) (.val _) ?_
 refine fn_in T_ok func86 rfl rfl ntmps86 rfl (by simp) ?_
 refine region_k T_ok (by decide) fun K hK => ?_
 simp [go_sem]
 refine hK _ ?_; clear hK K
 refine region_k T_ok (by decide) fun K hK => ?_
 simp [go_sem]
 refine call_pf (fmtInt_num n hn) ?_
 simp [go_sem]
 refine hK _ ?_; clear hK K
 refine tr_ret ⟨.inr rfl, ?_⟩
 simp [go_sem]
theorem itoa_num (n : Nat) (hn : n < 100) : Pf Tryd.prog 60 [iV n] (.val (.string (numS n))) := by
 refine Pf.of_fn (.cons (.val _) .nil) (.val _) ?_
 refine fn_in T_ok func60 rfl rfl ntmps60 rfl (by simp) ?_
 refine region_k T_ok (by decide) fun K hK => ?_
 simp [go_sem]
 refine hK _ ?_; clear hK K
 refine region_k T_ok (by decide) fun K hK => ?_
 simp [go_sem]
 refine call_pf (itoaI_num n hn) ?_
 simp [go_sem]
 refine hK _ ?_; clear hK K
 refine tr_ret ⟨.inr rfl, ?_⟩
 simp [go_sem]
theorem fmtUintI_num (n : Nat) (hn : n < 100) : Pf Tryd.prog 87 [uV n, iV 10] (.val (.string (numS n))) := by
 refine Pf.of_fn (.cons (.val _) (.cons (.val _) .nil)) (.val _) ?_
 have h2 : (n : Int) < 100 := by omega
 have w1 : IntKind.i64.wrap (n : Int) = (n : Nat) := wrap_i64 (by omega) (by omega)
 refine fn_in T_ok func87 rfl rfl ntmps87 rfl (by simp) ?_
 refine region_k T_ok (by decide) fun K hK => ?_
 simp [go_sem]
 refine hK _ ?_; clear hK K
 refine seq_k fun K1 hK1 => ?_
 refine region_k T_ok (by decide) fun K hK => ?_
 simp [go_sem]
 refine hK _ ?_; clear hK K
 refine cond_k rfl (fun h => ?_) (fun h => ?_)
 ·clear h
  refine seq_k fun K2 hK2 => ?_
  refine region_k T_ok (by decide) fun K hK => ?_
  simp [go_sem]
  refine hK _ ?_; clear hK K
  refine cond_k rfl (fun h => ?_) (fun h => ?_)
  ·clear h
   refine region_k T_ok (by decide) fun K hK => ?_
   simp [go_sem, w1]
   refine call_pf (small_num n hn) ?_
   simp [go_sem]
   refine hK _ ?_; clear hK K
   refine tr_ret ⟨.inr rfl, ?_⟩
   simp [go_sem]
  ·exact absurd h (by simp; omega)
 ·simp at h
theorem fmtUint_num (n : Nat) (hn : n < 100) : Pf Tryd.prog 61 [uV n, iV 10] (.val (.string (numS n))) := by
 refine Pf.of_fn (.cons (.val _) (.cons (.val _) .nil)) (.val _) ?_
 refine fn_in T_ok func61 rfl rfl ntmps61 rfl (by simp) ?_
 refine region_k T_ok (by decide) fun K hK => ?_
 simp [go_sem]
 refine hK _ ?_; clear hK K
 refine region_k T_ok (by decide) fun K hK => ?_
 simp [go_sem]
 refine call_pf (fmtUintI_num n hn) ?_
 simp [go_sem]
 refine hK _ ?_; clear hK K
 refine tr_ret ⟨.inr rfl, ?_⟩
 simp [go_sem]
open Go Go.Sl Go.Proofs.Tryd
theorem stK_cons (n : Int) (r : List Int) : stK (n :: r) = iV n :: uVs r := rfl
theorem cmpL_cons (a b : Int) (r s : List Int) : cmpL (a :: r) (b :: s) = if cmpI a b = 0 then cmpL r s else cmpI a b := rfl
theorem cmp_drop {a b : List Int} {i : Nat} {x y : Int} (hx : a[i]? = some x) (hy : b[i]? = some y) : cmpL (a.drop i) (b.drop i) = if cmpI x y = 0 then cmpL (a.drop (i + 1)) (b.drop (i + 1)) else cmpI x y := by
 rw [drop_cons hx, drop_cons hy]; rfl
theorem cmpInt_pf_nan (a : Int) : Pf Tryd.prog 77 [iV a] (bV false) := by
 refine Pf.of_fn (.cons (.val _) .nil) (.val _) ?_
 refine fn_in T_ok func77 rfl rfl ntmps77 rfl (by simp) ?_
 refine region_k T_ok (by decide) fun K hK => ?_
 simp [go_sem]
 refine hK _ ?_; clear hK K
 refine region_k T_ok (by decide) fun K hK => ?_
 simp [go_sem]
 refine hK _ ?_; clear hK K
 refine tr_ret ⟨.inr rfl, ?_⟩
 simp [go_sem]
theorem cmpInt_pf (a b : Int) : Pf Tryd.prog 49 [iV a, iV b] (iV (cmpI a b)) := by
 refine Pf.of_fn (.cons (.val _) (.cons (.val _) .nil)) (.val _) ?_
 refine fn_in T_ok func49 rfl rfl ntmps49 rfl (by simp) ?_
 refine region_k T_ok (by decide) fun K hK => ?_
 simp [go_sem]
 refine hK _ ?_; clear hK K
 refine region_k T_ok (by decide) fun K hK => ?_
 simp [go_sem]
 refine call_pf (cmpInt_pf_nan a) ?_
 simp [go_sem]
 refine hK _ ?_; clear hK K
 refine region_k T_ok (by decide) fun K hK => ?_
 simp [go_sem]
 refine call_pf (cmpInt_pf_nan b) ?_
 simp [go_sem]
 refine hK _ ?_; clear hK K
 refine seq_k fun K1 hK1 => ?_
 refine region_k T_ok (by decide) fun K hK => ?_
 simp [go_sem]
 refine hK _ ?_; clear hK K
 refine cond_k rfl (fun h => ?_) (fun h => ?_)
 ·simp at h
 ·clear h
  refine tr_skip ?_
  refine hK1 _ ?_; try clear hK1 K1
  refine seq_k fun K2 hK2 => ?_
  refine region_k T_ok (by decide) fun K hK => ?_
  simp [go_sem]
  refine hK _ ?_; clear hK K
  refine cond_k rfl (fun h => ?_) (fun h => ?_)
  ·simp at h
  ·clear h
   refine tr_skip ?_
   refine hK2 _ ?_; try clear hK2 K2
   refine seq_k fun K3 hK3 => ?_
   refine region_k T_ok (by decide) fun K hK => ?_
   simp [go_sem]
   refine hK _ ?_; clear hK K
   refine cond_k rfl (fun h => ?_) (fun h => ?_)
   ·have h1 : a < b := by simpa using h
    refine region_k T_ok (by decide) fun K hK => ?_
    simp [go_sem]
    refine hK _ ?_; clear hK K
    refine tr_ret ⟨.inr rfl, ?_⟩
    simp [go_sem, cmpI, h1]
   ·have h1 : ¬ a < b := by simpa using h
    refine tr_skip ?_
    refine hK3 _ ?_; try clear hK3 K3
    refine seq_k fun K4 hK4 => ?_
    refine region_k T_ok (by decide) fun K hK => ?_
    simp [go_sem]
    refine hK _ ?_; clear hK K
    refine cond_k rfl (fun h => ?_) (fun h => ?_)
    ·have h2 : b < a := by simpa using h
     refine region_k T_ok (by decide) fun K hK => ?_
     simp [go_sem]
     refine hK _ ?_; clear hK K
     refine tr_ret ⟨.inr rfl, ?_⟩
     simp [go_sem, cmpI, h1, h2]
    ·have h2 : ¬ b < a := by simpa using h
     refine tr_skip ?_
     refine hK4 _ ?_; try clear hK4 K4
     refine region_k T_ok (by decide) fun K hK => ?_
     simp [go_sem]
     refine hK _ ?_; clear hK K
     refine tr_ret ⟨.inr rfl, ?_⟩
     simp [go_sem, cmpI, h1, h2]
theorem cmpU64_pf_nan (a : Int) : Pf Tryd.prog 96 [uV a] (bV false) := by
 refine Pf.of_fn (.cons (.val _) .nil) (.val _) ?_
 refine fn_in T_ok func96 rfl rfl ntmps96 rfl (by simp) ?_
 refine region_k T_ok (by decide) fun K hK => ?_
 simp [go_sem]
 refine hK _ ?_; clear hK K
 refine region_k T_ok (by decide) fun K hK => ?_
 simp [go_sem]
 refine hK _ ?_; clear hK K
 refine tr_ret ⟨.inr rfl, ?_⟩
 simp [go_sem]
theorem cmpU64_pf (a b : Int) : Pf Tryd.prog 78 [uV a, uV b] (iV (cmpI a b)) := by
 refine Pf.of_fn (.cons (.val _) (.cons (.val _) .nil)) (.val _) ?_
 refine fn_in T_ok func78 rfl rfl ntmps78 rfl (by simp) ?_
 refine region_k T_ok (by decide) fun K hK => ?_
 simp [go_sem]
 refine hK _ ?_; clear hK K
 refine region_k T_ok (by decide) fun K hK => ?_
 simp [go_sem]
 refine call_pf (cmpU64_pf_nan a) ?_
 simp [go_sem]
 refine hK _ ?_; clear hK K
 refine region_k T_ok (by decide) fun K hK => ?_
 simp [go_sem]
 refine call_pf (cmpU64_pf_nan b) ?_
 simp [go_sem]
 refine hK _ ?_; clear hK K
 refine seq_k fun K1 hK1 => ?_
 refine region_k T_ok (by decide) fun K hK => ?_
 simp [go_sem]
 refine hK _ ?_; clear hK K
 refine cond_k rfl (fun h => ?_) (fun h => ?_)
 ·simp at h
 ·clear h
  refine tr_skip ?_
  refine hK1 _ ?_; try clear hK1 K1
  refine seq_k fun K2 hK2 => ?_
  refine region_k T_ok (by decide) fun K hK => ?_
  simp [go_sem]
  refine hK _ ?_; clear hK K
  refine cond_k rfl (fun h => ?_) (fun h => ?_)
  ·simp at h
  ·clear h
   refine tr_skip ?_
   refine hK2 _ ?_; try clear hK2 K2
   refine seq_k fun K3 hK3 => ?_
   refine region_k T_ok (by decide) fun K hK => ?_
   simp [go_sem]
   refine hK _ ?_; clear hK K
   refine cond_k rfl (fun h => ?_) (fun h => ?_)
   ·have h1 : a < b := by simpa using h
    refine region_k T_ok (by decide) fun K hK => ?_
    simp [go_sem]
    refine hK _ ?_; clear hK K
    refine tr_ret ⟨.inr rfl, ?_⟩
    simp [go_sem, cmpI, h1]
   ·have h1 : ¬ a < b := by simpa using h
    refine tr_skip ?_
    refine hK3 _ ?_; try clear hK3 K3
    refine seq_k fun K4 hK4 => ?_
    refine region_k T_ok (by decide) fun K hK => ?_
    simp [go_sem]
    refine hK _ ?_; clear hK K
    refine cond_k rfl (fun h => ?_) (fun h => ?_)
    ·have h2 : b < a := by simpa using h
     refine region_k T_ok (by decide) fun K hK => ?_
     simp [go_sem]
     refine hK _ ?_; clear hK K
     refine tr_ret ⟨.inr rfl, ?_⟩
     simp [go_sem, cmpI, h1, h2]
    ·have h2 : ¬ b < a := by simpa using h
     refine tr_skip ?_
     refine hK4 _ ?_; try clear hK4 K4
     refine region_k T_ok (by decide) fun K hK => ?_
     simp [go_sem]
     refine hK _ ?_; clear hK K
     refine tr_ret ⟨.inr rfl, ?_⟩
     simp [go_sem, cmpI, h1, h2]
theorem slCompare_pf (a b : List Int) (ha : a.length ≤ 1000000) (hb : b.length ≤ 1000000) : Pf Tryd.prog 50 [.ro 1 (uVs a), .ro 1 (uVs b)] (iV (cmpL a b)) := by
 refine Pf.of_fn (.cons (nl_uVs _) (.cons (nl_uVs _) .nil)) (.val _) ?_
 refine fn_in T_ok func50 rfl rfl ntmps50 rfl (by simp) ?_
 refine region_k T_ok (by decide) fun K hK => ?_
 simp [go_sem]
 refine hK _ ?_; clear hK K
 refine seq_k fun K1 hK1 => ?_
 refine region_k T_ok (by decide) fun K hK => ?_
 simp [go_sem]
 refine hK _ ?_; clear hK K
 refine tr_block ?_
 refine loop_p (α := Nat) (fun i => ⟨36, [(1, .ro 1 (uVs b)), (9, .ro 1 (uVs a)), (10, iV (a.length : Nat)), (0, .ro 1 (uVs a)), (11, iV (i : Nat))], [], 0⟩) (fun i => i ≤ a.length ∧ i ≤ b.length ∧ cmpL (a.drop i) (b.drop i) = cmpL a b) (fun i => a.length - i) 0 ?_ ?_ ?_
 ·exact ⟨Nat.zero_le _, Nat.zero_le _, rfl⟩
 ·refine Weaker.fz 1 0 ?_ ?_ ?_
  ·simp [go_sem]
  ·first | (simp; done) | (simp; omega)
  ·simp [go_sem]
 rintro i ⟨hi, hj, hc⟩
 skip
 refine region_k T_ok (by decide) fun K hK => ?_
 simp [go_sem]
 refine hK _ ?_; clear hK K
 refine seq_k fun K2 hK2 => ?_
 refine cond_k rfl (fun h => ?_) (fun h => ?_)
 ·simp at h
  have hI : (i : Int) < (a.length : Nat) := by omega
  have h' : i < a.length := by omega
  clear h
  obtain ⟨x, hx, hx'⟩ := getAt h'
  have hi0 : (0 : Int) ≤ (i : Nat) := by omega
  have hw : IntKind.i64.wrap ((i : Nat) + 1) = (i : Nat) + 1 := wrap_i64 (by omega) (by omega)
  refine tr_skip ?_
  refine hK2 _ ?_; try clear hK2 K2
  refine seq_k fun K3 hK3 => ?_
  refine tr_block ?_
  refine region_k T_ok (by decide) fun K hK => ?_
  simp [go_sem, hI, hi0, h', hx, hx']
  refine hK _ ?_; clear hK K
  refine seq_k fun K4 hK4 => ?_
  refine region_k T_ok (by decide) fun K hK => ?_
  simp [go_sem]
  refine hK _ ?_; clear hK K
  refine cond_k rfl (fun h => ?_) (fun h => ?_)
  ·simp at h
   obtain rfl : i = b.length := by omega
   refine region_k T_ok (by decide) fun K hK => ?_
   simp [go_sem]
   refine hK _ ?_; clear hK K
   refine tr_ret ⟨.inr rfl, ?_⟩
   rw [← hc, drop_cons hx, List.drop_length]
   simp [go_sem, cmpL]
  ·simp at h
   have hJ : (i : Int) < (b.length : Nat) := by omega
   have j' : i < b.length := by omega
   clear h
   obtain ⟨y, hy, hy'⟩ := getAt j'
   refine tr_skip ?_
   refine hK4 _ ?_; try clear hK4 K4
   refine region_k T_ok (by decide) fun K hK => ?_
   simp [go_sem, hJ, hi0, j', hy, hy']
   refine hK _ ?_; clear hK K
   refine region_k T_ok (by decide) fun K hK => ?_
   simp [go_sem]
   refine call_pf (cmpU64_pf x y) ?_
   simp [go_sem]
   refine hK _ ?_; clear hK K
   refine region_k T_ok (by decide) fun K hK => ?_
   simp [go_sem]
   refine hK _ ?_; clear hK K
   refine cond_k rfl (fun h => ?_) (fun h => ?_)
   ·have h0 : ¬ cmpI x y = 0 := by simpa using h
    refine region_k T_ok (by decide) fun K hK => ?_
    simp [go_sem]
    refine hK _ ?_; clear hK K
    refine tr_ret ⟨.inr rfl, ?_⟩
    rw [← hc, cmp_drop hx hy, if_neg h0]
    simp [go_sem]
   ·have h0 : cmpI x y = 0 := by simpa using h
    refine tr_skip ?_
    refine hK3 _ ?_; try clear hK3 K3
    refine region_e T_ok (by decide) fun K hK => ?_
    simp [go_sem, hw]
    refine hK _ ?_; clear hK K
    refine ⟨i + 1, ?_, ?_, ?_⟩
    ·exact ⟨by omega, by omega, by rw [← hc, cmp_drop hx hy, if_pos h0]⟩
    ·omega
    ·refine Weaker.fz 1 0 ?_ ?_ ?_
     ·simp [go_sem]
     ·first | (simp; done) | (simp; omega)
     simp [go_sem]
 ·simp at h
  obtain rfl : i = a.length := by omega
  refine tr_exit ?_
  refine hK1 _ ?_; try clear hK1 K1
  refine seq_k fun K5 hK5 => ?_
  refine region_k T_ok (by decide) fun K hK => ?_
  simp [go_sem]
  refine hK _ ?_; clear hK K
  refine cond_k rfl (fun h => ?_) (fun h => ?_)
  ·have hl : a.length < b.length := by simpa using h
   refine region_k T_ok (by decide) fun K hK => ?_
   simp [go_sem]
   refine hK _ ?_; clear hK K
   refine tr_ret ⟨.inr rfl, ?_⟩
   rw [← hc, List.drop_length]
   obtain ⟨y, hy, _⟩ := getAt hl
   rw [drop_cons hy]
   simp [go_sem, cmpL]
  ·have hl : ¬ a.length < b.length := by simpa using h
   have hab : a.length = b.length := by omega
   refine tr_skip ?_
   refine hK5 _ ?_; try clear hK5 K5
   refine region_k T_ok (by decide) fun K hK => ?_
   simp [go_sem]
   refine hK _ ?_; clear hK K
   refine tr_ret ⟨.inr rfl, ?_⟩
   rw [← hc, List.drop_length, hab, List.drop_length]
   simp [go_sem, cmpL]
theorem compare_pf (a b : List Int) (ha : a.length = 41) (hb : b.length = 41) : Pf Tryd.prog 9 [.agg (stK a), .agg (stK b)] (iV (cmpL a b)) := by
 obtain ⟨m, r, rfl⟩ : ∃ m r, a = m :: r := by cases a with | nil => cases ha | cons m r => exact ⟨m, r, rfl⟩
 obtain ⟨n, s, rfl⟩ : ∃ n s, b = n :: s := by cases b with | nil => cases hb | cons n s => exact ⟨n, s, rfl⟩
 have hr : r.length = 40 := by simpa using ha
 have hs : s.length = 40 := by simpa using hb
 rw [stK_cons, stK_cons]
 refine Pf.of_fn (.cons (.agg (.cons (.val _) (nl_us r))) (.cons (.agg (.cons (.val _) (nl_us s))) .nil)) (.val _) ?_
 refine fn_in T_ok func9 rfl rfl ntmps9 rfl (by simp) ?_
 refine region_k T_ok (by decide) fun K hK => ?_
 simp [go_sem, hr, hs, us_one]
 refine hK _ ?_; clear hK K
 refine seq_k fun K1 hK1 => ?_
 refine region_k T_ok (by decide) fun K hK => ?_
 simp [go_sem]
 refine hK _ ?_; clear hK K
 refine cond_k rfl (fun h => ?_) (fun h => ?_)
 ·have h0 : ¬ m = n := by simpa using h
  refine region_k T_ok (by decide) fun K hK => ?_
  simp [go_sem]
  refine call_pf (cmpInt_pf m n) ?_
  simp [go_sem]
  refine hK _ ?_; clear hK K
  refine tr_ret ⟨.inr rfl, ?_⟩
  simp [go_sem, cmpL_cons, cmpI_zero, h0]
 ·have h0 : m = n := by simpa using h
  refine tr_skip ?_
  refine hK1 _ ?_; try clear hK1 K1
  refine draw_k T_ok (by kernel_rfl) 4 [[], [0], [], [2], [0, 1, 2, 3], [0, 1, 2, 3, 4]] [] (by decide) (by decide) (by decide) fun K hK => ?_
  first | dsimp only [List.take, List.drop] | dsimp [List.take, List.drop]
  simp [go_sem, hr, hs]
  refine call_fz [] [.ro 1 (uVs r), .ro 1 (uVs s)] 1 0 (slCompare_pf r s (by omega) (by omega)) (by simp [go_sem, hr, hs, List.take_of_length_le, us_frz]) (by simp) (by simp) ?_
  simp [go_sem]
  refine hK _ ?_; clear hK K
  refine tr_ret ⟨.inr rfl, ?_⟩
  simp [go_sem, cmpL_cons, cmpI_zero, h0]
open Go Go.Sl
def Srt (s : List (List Int)) : Prop := s.Pairwise fun a b => ltL b a = false
def dedP (s : List (List Int)) : Nat → List (List Int)
 | 0 => []
 | k + 1 => if 0 < k ∧ s[k]? = s[k - 1]? then dedP s k else dedP s k ++ [s.getD k []]
theorem dedP_len (s : List (List Int)) : ∀ k, (dedP s k).length ≤ k
 | 0 => Nat.le_refl _
 | k + 1 => by
  have := dedP_len s k
  unfold dedP
  split
  ·omega
  ·rw [List.length_append, List.length_singleton]; omega
theorem dedP_same {s : List (List Int)} {k : Nat} (h : 0 < k) {x : List Int} (h1 : s[k]? = some x) (h2 : s[k - 1]? = some x) : dedP s (k + 1) = dedP s k := by
 rw [dedP, if_pos ⟨h, by rw [h1, h2]⟩]
theorem dedP_next {s : List (List Int)} {k : Nat} {x y : List Int} (h1 : s[k]? = some x) (h2 : 0 < k → s[k - 1]? = some y) (hne : 0 < k → x ≠ y) : dedP s (k + 1) = dedP s k ++ [x] := by
 rw [dedP, if_neg fun ⟨a, b⟩ => by rw [h1, h2 a] at b; exact hne a (Option.some.inj b)]
 simp [List.getD, h1]
theorem dedP_none {s : List (List Int)} : ∀ {k : Nat}, (∀ j, 0 < j → j < k → s[j]? ≠ s[j - 1]?) → k ≤ s.length → dedP s k = s.take k
 | 0, _, _ => by simp [dedP]
 | k + 1, h, hk => by
  rw [dedP, if_neg fun ⟨a, b⟩ => h k a (Nat.lt_succ_self k) b, dedP_none (fun j a b => h j a (by omega)) (by omega), List.take_add_one]
  simp [List.getD, List.getElem?_eq_getElem (show k < s.length by omega)]
theorem dedP_short {s : List (List Int)} (h : s.length ≤ 1) : dedP s s.length = s := by
 rw [dedP_none (fun j a b => by omega) (Nat.le_refl _), List.take_length]
theorem ded_get {s D : List (List Int)} {m i : Nat} {x : List Int} (hD : D.length ≤ m) (hx : s[i]? = some x) (hi : D.length ≤ i) : (D ++ s.drop D.length)[i]? = some x := by
 rw [List.getElem?_append_right hi, List.getElem?_drop, show D.length + (i - D.length) = i by omega]; exact hx
theorem ded_set {s D : List (List Int)} {x : List Int} (h : D.length < s.length) : (D ++ s.drop D.length).set D.length x = (D ++ [x]) ++ s.drop (D ++ [x]).length := by
 rw [List.set_append_right _ _ (Nat.le_refl _), Nat.sub_self, List.drop_eq_getElem_cons h, List.length_append, List.length_singleton, List.set_cons_zero, List.append_assoc, List.singleton_append]
theorem dedP_mem {s : List (List Int)} {x : List Int} : ∀ k, k ≤ s.length → (x ∈ dedP s k ↔ x ∈ s.take k)
 | 0, _ => by simp [dedP]
 | k + 1, h => by
  have ih := dedP_mem (s := s) (x := x) k (by omega)
  obtain ⟨a, ha⟩ : ∃ a, s[k]? = some a := ⟨_, List.getElem?_eq_getElem (l := s) (i := k) (by omega)⟩
  have ht : s.take (k + 1) = s.take k ++ [a] := by rw [List.take_add_one, ha]; rfl
  unfold dedP
  split
  ·rename_i hc
   rw [ih, ht, List.mem_append, List.mem_singleton]
   refine ⟨.inl, fun h => h.elim id fun e => ?_⟩
   subst e
   rw [ha] at hc
   exact List.mem_iff_getElem?.2 ⟨k - 1, by rw [List.getElem?_take, if_pos (show k - 1 < k by omega)]; exact hc.2.symm⟩
  ·rw [List.mem_append, ih, ht, List.mem_append, List.mem_singleton, List.mem_singleton]
   simp [List.getD, ha]
theorem dedP_rising {s : List (List Int)} (hs : Srt s) : ∀ k, k ≤ s.length → Rising (dedP s k) ∧ ∀ x ∈ dedP s k, ∀ y, s[k - 1]? = some y → x = y ∨ ltL x y = true
 | 0, _ => ⟨List.Pairwise.nil, fun x hx => absurd hx (List.not_mem_nil)⟩
 | k + 1, h => by
  obtain ⟨ih1, ih2⟩ := dedP_rising hs k (by omega)
  obtain ⟨a, ha⟩ : ∃ a, s[k]? = some a := ⟨_, List.getElem?_eq_getElem (l := s) (i := k) (by omega)⟩
  have hlt : ∀ x ∈ dedP s k, (0 < k → s[k]? ≠ s[k - 1]?) → ltL x a = true := fun x hx hne => by
   rcases Nat.eq_zero_or_pos k with e | e
   ·subst e; exact absurd hx (List.not_mem_nil)
   ·obtain ⟨y, hy⟩ : ∃ y, s[k - 1]? = some y := ⟨_, List.getElem?_eq_getElem (l := s) (i := k - 1) (by omega)⟩
    have hle : ltL a y = false := by
     have := (List.pairwise_iff_getElem.1 hs) (k - 1) k (by omega) (by omega) (by omega)
     rw [List.getElem?_eq_getElem (by omega)] at ha hy
     rw [← Option.some.inj ha, ← Option.some.inj hy]; exact this
    have hya : ltL y a = true := by
     cases h2 : ltL y a with
     | true => rfl
     | false => exact absurd (by rw [ha, hy, ltL_total h2 hle]) (hne e)
    rcases ih2 x hx y hy with rfl | h3
    ·exact hya
    ·exact ltL_trans h3 hya
  unfold dedP
  split
  ·rename_i hc
   refine ⟨ih1, fun x hx y hy => ih2 x hx y ?_⟩
   rw [← hc.2]; exact hy
  ·rename_i hc
   have hne : 0 < k → s[k]? ≠ s[k - 1]? := fun e h => hc ⟨e, h⟩
   have hg : s.getD k [] = a := by simp [List.getD, ha]
   rw [hg]
   refine ⟨List.pairwise_append.2 ⟨ih1, List.pairwise_singleton _ _, fun x hx y hy => by rw [List.mem_singleton.1 hy]; exact hlt x hx hne⟩, fun x hx y hy => ?_⟩
   rw [Nat.add_sub_cancel, ha] at hy
   cases hy
   rcases List.mem_append.1 hx with h | h
   ·exact .inr (hlt x h hne)
   ·exact .inl (List.mem_singleton.1 h)
theorem dedP_set {s l : List (List Int)} (hs : Srt s) (hp : s.Perm l) : dedP s s.length = setOf l :=
 rising_eq (dedP_rising hs _ (Nat.le_refl _)).1 (rising_setOf l) fun x => by
  rw [dedP_mem _ (Nat.le_refl _), List.take_length, mem_setOf]; exact hp.mem_iff
open Go Go.Sl
open Go Go.Sl
@[go_sem] theorem uVs_take (l : List Int) (n : Nat) : (uVs l).take n = uVs (l.take n) := (List.map_take ..).symm
theorem uVs_append (l : List Int) (n : Int) : uVs l ++ [uV n] = uVs (l ++ [n]) := by simp [uVs]
theorem uVs_nil : uVs [] = [] := rfl
open Go Go.Sl
@[go_sem] theorem natV_get (l : List Nat) (i : Nat) (h : i < (natV l).length) : (natV l)[i] = iV (l[i]'(by simpa [natV] using h) : Nat) := by simp [natV]
def c4 (op : Int) (s : Nat) : Nat := if op = 4 then s % 2 else s
def c5 (op : Int) (s : Nat) : Nat := if op = 5 then s / 2 else s
def c6 (op : Int) (s : Nat) : Nat := if op = 6 then (if 1 < s then 1 else s) else s
open Go Go.Sl
abbrev Slo := Int × Int
def sloC (p : Slo) : V := .agg [iV p.1, iV p.2]
def sloV (l : List Slo) : List V := l.map sloC
def slI (i : Nat) (l : List Ins) : List Slo := (upTo (setR l) 8).map fun r : Nat => ((i : Int), (r : Int))
def slT : Nat → List (List Ins) → List Slo
 | _, [] => []
 | i, l :: r => slI i l ++ slT (i + 1) r
def slL (n : Nat) : List Slo := (List.range n).map fun i : Nat => (-1, (i : Int))
def slotsT (t : Tst) : List Slo := slT 0 t.ths ++ slL t.locs.length
theorem slT_append : ∀ (i : Nat) (l l' : List (List Ins)), slT i (l ++ l') = slT i l ++ slT (i + l.length) l'
 | i, [], l' => by simp [slT]
 | i, x :: l, l' => by
  have := slT_append (i + 1) l l'
  have e : i + 1 + l.length = i + (l.length + 1) := by omega
  simp only [List.cons_append, slT, this, List.length_cons, e, List.append_assoc]
def slO (t : List (List Ins)) (i : Nat) : List Slo := slT 0 (t.take i)
def slP (t : List (List Ins)) (i : Nat) (l : List Ins) (b : Nat) : List Slo := slO t i ++ ((upTo (setR l) 8).take b).map fun r : Nat => ((i : Int), (r : Int))
def slQ (t : Tst) (b : Nat) : List Slo := slT 0 t.ths ++ slL b
theorem slO_zero (t : List (List Ins)) : slO t 0 = [] := rfl
theorem slO_all (t : Tst) : slO t.ths t.ths.length = slQ t 0 := by unfold slO slQ; rw [List.take_length]; simp [slL]
theorem slP_zero (t : List (List Ins)) (i : Nat) (l : List Ins) : slP t i l 0 = slO t i := by simp [slP]
theorem slP_step {t : List (List Ins)} {i : Nat} {l : List Ins} {b r : Nat} (h : (upTo (setR l) 8)[b]? = some r) : slP t i l (b + 1) = slP t i l b ++ [((i : Int), (r : Int))] := by
 unfold slP; rw [takeAt h]; simp
theorem slP_all {t : List (List Ins)} {i : Nat} {l : List Ins} (h : t[i]? = some l) : slP t i l (upTo (setR l) 8).length = slO t (i + 1) := by
 have hb : (t.take i).length = i := by rw [List.length_take]; have := (List.getElem?_eq_some_iff.1 h).1; omega
 unfold slP slO
 rw [takeAt h, slT_append, hb, List.take_length]
 simp [slT, slI]
theorem slQ_step (t : Tst) (b : Nat) : slQ t (b + 1) = slQ t b ++ [(-1, (b : Int))] := by simp [slQ, slL, List.range_succ]
theorem slQ_all (t : Tst) : slQ t t.locs.length = slotsT t := rfl
theorem slI_len (i : Nat) (l : List Ins) : (slI i l).length ≤ 8 := by unfold slI; rw [List.length_map]; exact upTo_len _ _
theorem slT_len : ∀ (i : Nat) (l : List (List Ins)), (slT i l).length ≤ 8 * l.length
 | _, [] => by simp [slT]
 | i, x :: l => by
  have := slT_len (i + 1) l
  have := slI_len i x
  simp only [slT, List.length_append, List.length_cons]; omega
theorem slotsT_len {t : Tst} (h : t.ths.length ≤ 4) (h' : t.locs.length ≤ 8) : (slotsT t).length ≤ 40 := by
 have := slT_len 0 t.ths
 unfold slotsT slL
 simp; omega
theorem slO_len (t : List (List Ins)) (i : Nat) : (slO t i).length ≤ 8 * t.length := by
 have := slT_len 0 (t.take i)
 rw [List.length_take] at this
 unfold slO; omega
theorem slP_len (t : List (List Ins)) (i : Nat) (l : List Ins) (b : Nat) : (slP t i l b).length ≤ 8 * t.length + 8 := by
 have := slO_len t i
 have h2 := upTo_len (setR l) 8
 unfold slP
 rw [List.length_append, List.length_map, List.length_take]; omega
theorem slQ_len (t : Tst) (b : Nat) : (slQ t b).length ≤ 8 * t.ths.length + b := by
 have := slT_len 0 t.ths
 unfold slQ slL
 simp; omega
@[go_sem] theorem sloV_len (l : List Slo) : (sloV l).length = l.length := List.length_map ..
@[go_sem] theorem sloV_take (l : List Slo) (n : Nat) : (sloV l).take n = sloV (l.take n) := (List.map_take ..).symm
@[go_sem] theorem sloV_get (l : List Slo) (i : Nat) (h : i < (sloV l).length) : (sloV l)[i] = .agg [iV (l[i]'(by simpa [sloV] using h)).1, iV (l[i]'(by simpa [sloV] using h)).2] := by simp [sloV, sloC]
theorem sloV_append (l : List Slo) (a b : Int) : sloV l ++ [V.agg [iV a, iV b]] = sloV (l ++ [(a, b)]) := by simp [sloV, sloC]
theorem sloV_nil : sloV [] = [] := rfl
theorem nl_slo (l : List Slo) : NL (.ro 2 (sloV l)) := .ro fun v hv => by obtain ⟨a, _, rfl⟩ := List.mem_map.1 hv; exact .cons (.val _) (.cons (.val _) .nil)
theorem slT_mem : ∀ {i : Nat} {l : List (List Ins)} {p : Slo}, p ∈ slT i l → ∃ a r : Nat, p = ((a : Int), (r : Int)) ∧ i ≤ a ∧ a < i + l.length ∧ r < 8
 | i, x :: l, p, h => by
  unfold slT at h
  rcases List.mem_append.1 h with h | h
  ·obtain ⟨r, hr, rfl⟩ := List.mem_map.1 h
   have : r < 8 := by unfold upTo at hr; have := (List.mem_filter.1 hr).1; exact List.mem_range.1 this
   exact ⟨i, r, rfl, Nat.le_refl _, by simp, this⟩
  ·obtain ⟨a, r, e, h1, h2, h3⟩ := slT_mem h
   exact ⟨a, r, e, by omega, by simp only [List.length_cons]; omega, h3⟩
theorem slots_mem {t : Tst} {p : Slo} (h : p ∈ slotsT t) : (∃ n : Nat, p = (-1, (n : Int)) ∧ n < t.locs.length) ∨ ∃ a r : Nat, p = ((a : Int), (r : Int)) ∧ a < t.ths.length ∧ r < 8 := by
 rcases List.mem_append.1 h with h | h
 ·obtain ⟨a, r, e, _, h2, h3⟩ := slT_mem h
  exact .inr ⟨a, r, e, by omega, h3⟩
 ·obtain ⟨n, hn, rfl⟩ := List.mem_map.1 h
  exact .inl ⟨n, rfl, List.mem_range.1 hn⟩
def madeN (g : List (Nat → Int)) (f : Nat → Int) (p : Slo) : Int := if p.1 < 0 then f p.2.toNat else (g.getD p.1.toNat fun _ => 0) p.2.toNat
def madeL (t : Tst) (g : List (Nat → Int)) (f : Nat → Int) : List Int := (slotsT t).map (madeN g f)
def padT (l : List Int) : List Int := l ++ List.replicate (40 - l.length) 0
def madeK (t : Tst) (g : List (Nat → Int)) (f : Nat → Int) : List Int := (madeL t g f).length :: padT (madeL t g f)
theorem padT_len {l : List Int} (h : l.length ≤ 40) : (padT l).length = 40 := by unfold padT; simp; omega
theorem madeL_len (t : Tst) (g : List (Nat → Int)) (f : Nat → Int) : (madeL t g f).length = (slotsT t).length := List.length_map ..
theorem padT_step {l : List Int} {i : Nat} {x : Int} (h : l[i]? = some x) (h40 : l.length ≤ 40) : (padT (l.take i)).set i x = padT (l.take (i + 1)) := by
 have hi := (List.getElem?_eq_some_iff.1 h).1
 have hl : (l.take i).length = i := by rw [List.length_take]; omega
 unfold padT
 rw [takeAt h]
 simp only [hl, List.length_append, List.length_singleton]
 rw [List.set_append_right _ _ (by omega), hl, Nat.sub_self, show 40 - i = (40 - (i + 1)) + 1 by omega, List.replicate_succ]
 simp
def usRows (g : List (Nat → Int)) : List V := g.map fun f => .agg (hangC f)
@[go_sem] theorem usRows_len (l : List (Nat → Int)) : (usRows l).length = l.length := List.length_map ..
@[go_sem] theorem usRows_get (l : List (Nat → Int)) (i : Nat) (h : i < (usRows l).length) : (usRows l)[i] = .agg (hangC (l[i]'(by simpa [usRows] using h))) := by simp [usRows]
@[go_sem high] theorem hangC_len (f : Nat → Int) : (hangC f).length = 8 := Eq.trans rfl rfl
@[go_sem high] theorem hangC_fits (f : Nat → Int) : (V.agg (hangC f)).fits 8 = true := Eq.trans rfl rfl
theorem hangC_part (f : Nat → Int) {r : Nat} (h : r < 8) : partV false 1 (hangC f) r = uV (f r) := by rcases lt8 h with rfl | rfl | rfl | rfl | rfl | rfl | rfl | rfl <;> rfl
theorem nl_hang (f : Nat → Int) : NLs (hangC f) := fun v hv => by obtain ⟨a, _, rfl⟩ := List.mem_map.1 hv; exact .val _
theorem nl_usRows (l : List (Nat → Int)) : NL (.ro 8 (usRows l)) := .ro fun v hv => by obtain ⟨a, _, rfl⟩ := List.mem_map.1 hv; exact nl_hang a
theorem put_stV {n : Int} {r : List Int} {i : Nat} {x : Int} (h : i < r.length) : putPart (.agg (iV n :: uVs r)) (1 + i) (uV x) = .agg (iV n :: uVs (r.set i x)) := by
 simp only [putPart, V.cells, splice]
 congr 1
 rw [Nat.add_comm 1 i, List.take_succ_cons]
 simp only [List.length_singleton, List.cons_append, List.drop_succ_cons, List.cons.injEq, true_and]
 unfold uVs
 rw [List.map_set, List.set_eq_take_append_cons_drop, if_pos (by simpa using h)]
 simp
theorem put_stN {n m : Int} {r : List Int} : putPart (.agg (iV n :: uVs r)) 0 (iV m) = .agg (iV m :: uVs r) := by simp [putPart, V.cells, splice]
theorem uVs_zeros40 : uVs (List.replicate 40 0) = List.replicate 40 (uV 0) := by simp [uVs]
theorem us_ones (l : List Int) : (∀ x, x ∈ uVs l → x.one = true) = True := eq_true fun x hx => by obtain ⟨a, _, rfl⟩ := List.mem_map.1 hx; rfl
open Go Go.Sl Go.Proofs.Tryd
set_option maxHeartbeats 4000000 in
theorem slots_pf (t : Tst) (ht : t.ths.length ≤ 1000) (hl : ∀ x ∈ t.ths, x.length ≤ 1000) (hr : ∀ l ∈ t.ths, ∀ x ∈ l, setB x.op = true → 0 ≤ x.rd ∧ x.rd < 8) (hlo : t.locs.length ≤ 1000) : Pf Tryd.prog 17 [.rp t.cs 0] (.ro 2 (sloV (slotsT t))) := by
 refine Pf.of_fz 1 (.cons (nl_rp t) .nil) (nl_slo _) ?_
 refine fn_in T_ok func17 rfl rfl ntmps17 rfl (by simp) ?_
 refine region_k T_ok (by decide) fun K hK => ?_
 simp [go_sem]
 refine hK _ ?_; clear hK K
 refine region_k T_ok (by decide) fun K hK => ?_
 simp [go_sem]
 refine hK _ ?_; clear hK K
 refine seq_k fun K1 hK1 => ?_
 refine region_k T_ok (by decide) fun K hK => ?_
 simp [go_sem, Tst.cs]
 refine hK _ ?_; clear hK K
 refine tr_block ?_
 refine Tr.weaken (Weaker.ghost 3 2 rfl) ?_
 refine loop_p (α := Nat × Nat × Nat) (fun a => ⟨47, [(0, .rp t.cs 0), (11, .ro 1 (thrs t.ths)), (12, iV (t.ths.length : Nat)), (13, iV (a.1 : Nat)), (3, .sl a.2.1 0 (slO t.ths a.1).length)], [(a.2.1, .rows 2 (sloV (slO t.ths a.1)))], a.2.1 + a.2.2 + 1⟩) (fun a => a.1 ≤ t.ths.length) (fun a => t.ths.length - a.1) (0, 0, 0) ?_ ?_ ?_
 ·dsimp only; omega
 ·refine Weaker.fz 1 0 ?_ ?_ ?_
  ·simp [go_sem, slO_zero, Tst.cs]
  ·first | (simp; done) | (simp; omega)
  ·simp [go_sem, slO_zero, sloV_nil]
 rintro ⟨i, r, c⟩ hi
 dsimp only at hi ⊢
 refine region_k T_ok (by decide) fun K hK => ?_
 simp [go_sem]
 refine hK _ ?_; clear hK K
 refine seq_k fun K2 hK2 => ?_
 refine cond_k rfl (fun h => ?_) (fun h => ?_)
 ·simp at h
  have hI := h
  clear h
  have h' : i < (t.ths).length := by omega
  obtain ⟨l, hx, hx'⟩ := getAt h'
  have hi0 : (0 : Int) ≤ (i : Nat) := by omega
  have hlm := List.mem_of_getElem? hx
  have hw : IntKind.i64.wrap ((i : Nat) + 1) = (i : Nat) + 1 := wrap_i64 (by omega) (by omega)
  refine tr_skip ?_
  refine hK2 _ ?_; try clear hK2 K2
  refine seq_k fun K3 hK3 => ?_
  refine tr_block ?_
  refine region_k T_ok (by decide) fun K hK => ?_
  simp [go_sem]
  refine hK _ ?_; clear hK K
  refine region_k T_ok (by decide) fun K hK => ?_
  simp [go_sem]
  refine call_pf (regs_pf t i l hx (hl l hlm) (hr l hlm)) ?_
  simp [go_sem]
  refine hK _ ?_; clear hK K
  refine tr_block ?_
  refine loop_p (α := Nat × Nat × Nat) (fun b => ⟨47, [(0, .rp t.cs 0), (11, .ro 1 (thrs t.ths)), (12, iV (t.ths.length : Nat)), (13, iV (i : Nat)), (4, iV (i : Nat)), (18, .ro 1 (natV (upTo (setR l) 8))), (19, iV ((upTo (setR l) 8).length : Nat)), (20, iV (b.1 : Nat)), (3, .sl b.2.1 0 (slP t.ths i l b.1).length)], [(b.2.1, .rows 2 (sloV (slP t.ths i l b.1)))], b.2.1 + b.2.2 + 1⟩) (fun b => b.1 ≤ (upTo (setR l) 8).length) (fun b => (upTo (setR l) 8).length - b.1) (0, r, c) ?_ ?_ ?_
  ·dsimp only; omega
  ·refine Weaker.fz 1 0 ?_ ?_ ?_
   ·simp [go_sem, slP_zero]
   ·first | (simp; done) | (simp; omega)
   ·simp [go_sem, slP_zero]
  rintro ⟨b, r, c⟩ hib
  dsimp only at hib ⊢
  refine region_k T_ok (by decide) fun K hK => ?_
  simp [go_sem]
  refine hK _ ?_; clear hK K
  refine seq_k fun K4 hK4 => ?_
  refine cond_k rfl (fun h => ?_) (fun h => ?_)
  ·have hul := upTo_len (setR l) 8
   simp at h
   have hI2 := h
   clear h
   have h'2 : b < ((upTo (setR l) 8)).length := by omega
   obtain ⟨m, hx2, hx'2⟩ := getAt h'2
   have hi02 : (0 : Int) ≤ (b : Nat) := by omega
   have hw2 : IntKind.i64.wrap ((b : Nat) + 1) = (b : Nat) + 1 := wrap_i64 (by omega) (by omega)
   have hpl := slP_len t.ths i l b
   refine tr_skip ?_
   refine hK4 _ ?_; try clear hK4 K4
   refine seq_k fun K5 hK5 => ?_
   refine tr_block ?_
   refine region_k T_ok (by decide) fun K hK => ?_
   simp [go_sem, hI2, hx2, hx'2, hi02, h'2]
   refine hK _ ?_; clear hK K
   refine region_e T_ok (by decide) fun K hK => ?_
   simp [go_sem]
   refine ⟨by omega, ?_⟩
   refine hK _ ?_; clear hK K
   refine hK5 _ ?_; try clear hK5 K5
   refine region_e T_ok (by decide) fun K hK => ?_
   simp [go_sem, hw2]
   refine hK _ ?_; clear hK K
   refine ⟨(b + 1, r + c + 2, 0), ?_, ?_, ?_⟩
   ·dsimp only; omega
   ·dsimp only; omega
   ·refine Weaker.fz 1 0 ?_ ?_ ?_
    ·simp [go_sem, slP_step hx2]
    ·first | (simp; done) | (simp; omega)
    simp [go_sem, slP_step hx2, sloV_append]
  ·simp at h
   obtain rfl : b = (upTo (setR l) 8).length := by omega
   refine tr_exit ?_
   refine hK3 _ ?_; try clear hK3 K3
   refine region_e T_ok (by decide) fun K hK => ?_
   simp [go_sem, hw]
   refine hK _ ?_; clear hK K
   refine ⟨(i + 1, r, c), ?_, ?_, ?_⟩
   ·dsimp only; omega
   ·dsimp only; omega
   ·refine Weaker.fz 1 0 ?_ ?_ ?_
    ·simp [go_sem, slP_all hx]
    ·first | (simp; done) | (simp; omega)
    simp [go_sem, slP_all hx]
 ·simp at h
  obtain rfl : i = t.ths.length := by omega
  refine tr_exit ?_
  refine hK1 _ ?_; try clear hK1 K1
  refine seq_k fun K6 hK6 => ?_
  refine region_k T_ok (by decide) fun K hK => ?_
  simp [go_sem, Tst.cs]
  refine hK _ ?_; clear hK K
  refine tr_block ?_
  refine loop_p (α := Nat × Nat × Nat) (fun a => ⟨47, [(0, .rp t.cs 0), (36, iV (t.locs.length : Nat)), (37, iV (a.1 : Nat)), (3, .sl a.2.1 0 (slQ t a.1).length)], [(a.2.1, .rows 2 (sloV (slQ t a.1)))], a.2.1 + a.2.2 + 1⟩) (fun a => a.1 ≤ t.locs.length) (fun a => t.locs.length - a.1) (0, r, c) ?_ ?_ ?_
  ·dsimp only; omega
  ·refine Weaker.fz 1 0 ?_ ?_ ?_
   ·simp [go_sem, slO_all, Tst.cs]
   ·first | (simp; done) | (simp; omega)
   ·simp [go_sem, slO_all]
  rintro ⟨b, r, c⟩ hib
  dsimp only at hib ⊢
  refine region_k T_ok (by decide) fun K hK => ?_
  simp [go_sem]
  refine hK _ ?_; clear hK K
  refine seq_k fun K7 hK7 => ?_
  refine cond_k rfl (fun h => ?_) (fun h => ?_)
  ·simp at h
   have hql := slQ_len t b
   have hw3 : IntKind.i64.wrap ((b : Nat) + 1) = (b : Nat) + 1 := wrap_i64 (by omega) (by omega)
   refine tr_skip ?_
   refine hK7 _ ?_; try clear hK7 K7
   refine seq_k fun K8 hK8 => ?_
   refine tr_block ?_
   refine region_k T_ok (by decide) fun K hK => ?_
   simp [go_sem]
   refine hK _ ?_; clear hK K
   refine region_e T_ok (by decide) fun K hK => ?_
   simp [go_sem]
   refine ⟨by omega, ?_⟩
   refine hK _ ?_; clear hK K
   refine hK8 _ ?_; try clear hK8 K8
   refine region_e T_ok (by decide) fun K hK => ?_
   simp [go_sem, hw3]
   refine hK _ ?_; clear hK K
   refine ⟨(b + 1, r + c + 2, 0), ?_, ?_, ?_⟩
   ·dsimp only; omega
   ·dsimp only; omega
   ·refine Weaker.fz 1 0 ?_ ?_ ?_
    ·simp [go_sem, slQ_step]
    ·first | (simp; done) | (simp; omega)
    simp [go_sem, slQ_step, sloV_append]
  ·simp at h
   obtain rfl : b = t.locs.length := by omega
   refine tr_exit ?_
   refine hK6 _ ?_; try clear hK6 K6
   refine region_k T_ok (by decide) fun K hK => ?_
   simp [go_sem]
   refine hK _ ?_; clear hK K
   refine tr_ret ⟨.inr rfl, ?_⟩
   simp [go_sem, slQ_all, List.take_of_length_le]
set_option maxHeartbeats 4000000 in
theorem made_pf (t : Tst) (ht : t.ths.length ≤ 4) (hl : ∀ x ∈ t.ths, x.length ≤ 1000) (hr : ∀ l ∈ t.ths, ∀ x ∈ l, setB x.op = true → 0 ≤ x.rd ∧ x.rd < 8) (hlo : t.locs.length ≤ 8) (g : List (Nat → Int)) (hg : g.length = t.ths.length) (f : Nat → Int) : Pf Tryd.prog 15 [.rp t.cs 0, .ro 8 (usRows g), .agg (hangC f)] (.agg (stK (madeK t g f))) := by
 refine Pf.of_fz 1 (.cons (nl_rp t) (.cons (nl_usRows g) (.cons (.agg (nl_hang f)) .nil))) (.agg (nl_stK _)) ?_
 have hs40 := slotsT_len ht hlo
 have hml := madeL_len t g f
 have hslots := slots_pf t (by omega) hl hr (by omega)
 refine fn_in T_ok func15 rfl rfl ntmps15 rfl (by simp) ?_
 refine region_k T_ok (by decide) fun K hK => ?_
 simp [go_sem, uVs_zeros40]
 refine hK _ ?_; clear hK K
 refine region_k T_ok (by decide) fun K hK => ?_
 simp [go_sem, uVs_zeros40]
 refine hK _ ?_; clear hK K
 refine seq_k fun K1 hK1 => ?_
 refine region_k T_ok (by decide) fun K hK => ?_
 simp [go_sem]
 refine call_pf hslots ?_
 simp [go_sem]
 refine hK _ ?_; clear hK K
 refine tr_block ?_
 refine loop_p (α := Nat × Nat) (fun a => ⟨46, [(1, .ro 8 (usRows g)), (5, .ptr 0 0 0), (6, .ptr 1 0 0), (7, .ptr 2 0 0), (11, .ro 2 (sloV (slotsT t))), (12, iV ((slotsT t).length : Nat)), (13, iV (a.1 : Nat))], [(2, .rows 41 [.agg (iV (a.1 : Nat) :: uVs (padT ((madeL t g f).take a.1)))]), (0, .rows 8 [.agg (hangC f)]), (1, .rows 41 [.agg (iV 0 :: uVs (List.replicate 40 0))])], a.2⟩) (fun a => a.1 ≤ (slotsT t).length ∧ 2 < a.2) (fun a => (slotsT t).length - a.1) (0, 3) ?_ ?_ ?_
 ·dsimp only; omega
 ·refine Weaker.fzk 1 0 (by first | omega | (dsimp only; omega)) ?_ ?_ ?_
  ·simp [go_sem]
  ·first | (simp; done) | (simp; omega)
  ·simp [go_sem, padT, uVs]
 rintro ⟨i, j⟩ ⟨hi, hj⟩
 dsimp only at hi hj ⊢
 refine region_k T_ok (by decide) fun K hK => ?_
 simp [go_sem]
 refine hK _ ?_; clear hK K
 refine seq_k fun K2 hK2 => ?_
 refine cond_k rfl (fun h => ?_) (fun h => ?_)
 ·simp at h
  have hI := h
  clear h
  have h' : i < (slotsT t).length := by omega
  obtain ⟨p, hx, hx'⟩ := getAt h'
  have hi0 : (0 : Int) ≤ (i : Nat) := by omega
  obtain ⟨a, b⟩ := p
  have hmem := slots_mem (List.mem_of_getElem? hx)
  have hm : (madeL t g f)[i]? = some (madeN g f (a, b)) := by unfold madeL; rw [List.getElem?_map, hx]; rfl
  have hpl : (padT ((madeL t g f).take i)).length = 40 := padT_len (by rw [List.length_take]; omega)
  have hi40 : i < 40 := by omega
  have hI40 : (i : Int) < 40 := by omega
  have hst := padT_step hm (by omega)
  have hw : IntKind.i64.wrap ((i : Nat) + 1) = (i : Nat) + 1 := wrap_i64 (by omega) (by omega)
  have e0 : ¬ j = 0 := by omega
  have eq0 : ¬ 0 = j := by omega
  have e2 : ¬ j = 1 := by omega
  have eq2 : ¬ 1 = j := by omega
  have e4 : ¬ j = 2 := by omega
  have eq4 : ¬ 2 = j := by omega
  refine tr_skip ?_
  refine hK2 _ ?_; try clear hK2 K2
  refine seq_k fun K3 hK3 => ?_
  refine tr_block ?_
  refine region_k T_ok (by decide) fun K hK => ?_
  simp [go_sem, hI, hx, hx', hi0, h', e0, eq0, e2, eq2, e4, eq4]
  refine hK _ ?_; clear hK K
  refine seq_to ⟨46, [(1, .ro 8 (usRows g)), (5, .ptr 0 0 0), (6, .ptr 1 0 0), (7, .ptr 2 0 0), (11, .ro 2 (sloV (slotsT t))), (12, iV ((slotsT t).length : Nat)), (13, iV (i : Nat))], [(2, .rows 41 [.agg (iV (i : Nat) :: uVs (padT ((madeL t g f).take (i + 1))))]), (0, .rows 8 [.agg (hangC f)]), (1, .rows 41 [.agg (iV 0 :: uVs (List.replicate 40 0))])], j + 40⟩ ?_ ?_
  ·skip
   refine region_k T_ok (by decide) fun K hK => ?_
   simp [go_sem, e0, eq0, e2, eq2, e4, eq4]
   refine hK _ ?_; clear hK K
   refine cond_k rfl (fun h => ?_) (fun h => ?_)
   ·have ha : a < 0 := by simpa using h
    obtain ⟨n, hn, hn8⟩ : ∃ n : Nat, b = n ∧ n < 8 := by
     rcases hmem with ⟨n, hn, h2⟩ | ⟨q, r, hn, h2, h3⟩
     ·cases hn; exact ⟨n, rfl, by omega⟩
     ·cases hn; omega
    subst hn
    have hnI : (n : Int) < 8 := by omega
    have hn0 : (0 : Int) ≤ (n : Nat) := by omega
    have hmv : madeN g f (a, (n : Int)) = f n := by simp [madeN, ha]
    rw [hmv] at hst
    refine draw_e T_ok (by kernel_rfl) 7 [[], [0], [], [2], [2, 3], [2, 3, 4], [], [0, 1, 2, 3, 4, 5, 6], [0, 1, 2, 3, 4, 5, 6, 7]] [] (by decide) (by decide) (by decide) fun K hK => ?_
    first | dsimp only [List.take, List.drop] | dsimp [List.take, List.drop]
    simp [go_sem, hnI, hn0, hn8, hangC_part f hn8, hI40, hi40, hi0, hpl, put_stV, hst, e0, eq0, e2, eq2, e4, eq4]
    refine ⟨by omega, by omega, ?_⟩
    refine hK _ ?_; clear hK K
    refine Weaker.fzk 1 0 (by omega) ?_ ?_ ?_
    ·simp [go_sem, e0, eq0, e2, eq2, e4, eq4]
    ·first | (simp; done) | (simp; omega)
    ·simp [go_sem, e0, eq0, e2, eq2, e4, eq4]
   ·have ha : ¬ a < 0 := by simpa using h
    obtain ⟨q, r, hq, hr2, hq2, hr8⟩ : ∃ q r : Nat, a = q ∧ b = r ∧ q < g.length ∧ r < 8 := by
     rcases hmem with ⟨n, hn, h2⟩ | ⟨q, r, hn, h2, h3⟩
     ·cases hn; omega
     ·cases hn; exact ⟨q, r, rfl, rfl, by omega, h3⟩
    subst hq hr2
    obtain ⟨gf, hgf, hgf'⟩ := getAt hq2
    have hrI : (r : Int) < 8 := by omega
    have hr0 : (0 : Int) ≤ (r : Nat) := by omega
    have hqI : (q : Int) < (g.length : Nat) := by omega
    have hq0 : (0 : Int) ≤ (q : Nat) := by omega
    have hmv : madeN g f ((q : Int), (r : Int)) = gf r := by unfold madeN; rw [if_neg ha]; simp [hgf]
    rw [hmv] at hst
    refine draw_e T_ok (by kernel_rfl) 11 [[], [0], [], [], [3], [], [5], [2, 3, 4], [2, 3, 4, 5, 6, 7], [2, 3, 4, 5, 6, 7, 8], [], [0, 1, 2, 3, 4, 5, 6, 7, 8, 9, 10], [0, 1, 2, 3, 4, 5, 6, 7, 8, 9, 10, 11]] [] (by decide) (by decide) (by decide) fun K hK => ?_
    first | dsimp only [List.take, List.drop] | dsimp [List.take, List.drop]
    simp [go_sem, hrI, hr0, hr8, hqI, hq0, hq2, hgf, hgf', hangC_part gf hr8, hI40, hi40, hi0, hpl, put_stV, hst, e0, eq0, e2, eq2, e4, eq4]
    refine ⟨by omega, by omega, ?_⟩
    refine hK _ ?_; clear hK K
    refine Weaker.fzk 1 0 (by omega) ?_ ?_ ?_
    ·simp [go_sem, e0, eq0, e2, eq2, e4, eq4]
    ·first | (simp; done) | (simp; omega)
    ·simp [go_sem, e0, eq0, e2, eq2, e4, eq4]
  ·skip
   refine region_e T_ok (by decide) fun K hK => ?_
   simp [go_sem, hw, put_stN, e0, eq0, e2, eq2, e4, eq4]
   refine hK _ ?_; clear hK K
   refine hK3 _ ?_; try clear hK3 K3
   refine region_e T_ok (by decide) fun K hK => ?_
   simp [go_sem, hw]
   refine hK _ ?_; clear hK K
   refine ⟨(i + 1, j + 100), ?_, ?_, ?_⟩
   ·dsimp only; omega
   ·dsimp only; omega
   ·refine Weaker.fzk 1 0 (by first | omega | (dsimp only; omega)) ?_ ?_ ?_
    ·simp [go_sem, e0, eq0, e2, eq2, e4, eq4]
    ·first | (simp; done) | (simp; omega)
    simp [go_sem, e0, eq0, e2, eq2, e4, eq4]
 ·simp at h
  obtain rfl : i = (slotsT t).length := by omega
  have hpe : (padT (madeL t g f)).length = 40 := padT_len (by omega)
  have htk : (madeL t g f).take (slotsT t).length = madeL t g f := List.take_of_length_le (by omega)
  refine tr_exit ?_
  refine hK1 _ ?_; try clear hK1 K1
  refine region_k T_ok (by decide) fun K hK => ?_
  simp [go_sem, htk, hpe, us_ones, List.take_of_length_le]
  refine hK _ ?_; clear hK K
  refine tr_ret ⟨.inr rfl, ?_⟩
  simp [go_sem, madeK, stK_cons, hml, htk, hpe, uVs_nil, List.take_of_length_le]
open Go Go.Sl Go.Proofs.Tryd
def sortLay_ren : Go.Shelf.Ren := ⟨fun | 14 => 92 | 20 => 104 | 21 => 105 | 22 => 106 | 23 => 107 | 24 => 108 | 25 => 109 | 26 => 110 | 27 => 111 | 46 => 120 | 47 => 121 | 48 => 122 | 49 => 123 | 50 => 124 | 15 => 93 | 57 => 127 | 28 => 112 | 29 => 113 | n => n, fun | 24 => 26 | 22 => 22 | 3 => 3 | 25 => 27 | 4 => 4 | 0 => 0 | 46 => 177 | 45 => 176 | 50 => 137 | 66 => 190 | 39 => 131 | 55 => 23 | 70 => 193 | 76 => 195 | 77 => 196 | 53 => 87 | 5 => 5 | 9 => 9 | n => n, fun | n => n⟩
theorem sortLay : Go.Proofs.SlLaysF0.n14 Tryd.prog sortLay_ren where
 mixed := by kernel_rfl
 f14 := ⟨"slices.pdqsortCmpFunc[ordeal/outcome.State]", by decide, Tryd.func92.trans (congrArg some (by kernel_rfl))⟩
 f15 := Tryd.func93.trans (congrArg some (by kernel_rfl))
 f20 := ⟨"slices.insertionSortCmpFunc[ordeal/outcome.State]", by decide, Tryd.func104.trans (congrArg some (by kernel_rfl))⟩
 f21 := ⟨"slices.heapSortCmpFunc[ordeal/outcome.State]", by decide, Tryd.func105.trans (congrArg some (by kernel_rfl))⟩
 f22 := ⟨"slices.breakPatternsCmpFunc[ordeal/outcome.State]", by decide, Tryd.func106.trans (congrArg some (by kernel_rfl))⟩
 f23 := ⟨"slices.choosePivotCmpFunc[ordeal/outcome.State]", by decide, Tryd.func107.trans (congrArg some (by kernel_rfl))⟩
 f24 := ⟨"slices.reverseRangeCmpFunc[ordeal/outcome.State]", by decide, Tryd.func108.trans (congrArg some (by kernel_rfl))⟩
 f25 := ⟨"slices.partialInsertionSortCmpFunc[ordeal/outcome.State]", by decide, Tryd.func109.trans (congrArg some (by kernel_rfl))⟩
 f26 := ⟨"slices.partitionEqualCmpFunc[ordeal/outcome.State]", by decide, Tryd.func110.trans (congrArg some (by kernel_rfl))⟩
 f27 := ⟨"slices.partitionCmpFunc[ordeal/outcome.State]", by decide, Tryd.func111.trans (congrArg some (by kernel_rfl))⟩
 f28 := Tryd.func112.trans (congrArg some (by kernel_rfl))
 f29 := Tryd.func113.trans (congrArg some (by kernel_rfl))
 f46 := ⟨"slices.siftDownCmpFunc[ordeal/outcome.State]", by decide, Tryd.func120.trans (congrArg some (by kernel_rfl))⟩
 f47 := Tryd.func121.trans (congrArg some (by kernel_rfl))
 f48 := Tryd.func122.trans (congrArg some (by kernel_rfl))
 f49 := ⟨"slices.medianAdjacentCmpFunc[ordeal/outcome.State]", by decide, Tryd.func123.trans (congrArg some (by kernel_rfl))⟩
 f50 := ⟨"slices.medianCmpFunc[ordeal/outcome.State]", by decide, Tryd.func124.trans (congrArg some (by kernel_rfl))⟩
 f57 := ⟨"slices.order2CmpFunc[ordeal/outcome.State]", by decide, Tryd.func127.trans (congrArg some (by kernel_rfl))⟩
 t0 := Tryd.underlying0
 a0 := Tryd.isAgg0
 z0 := Tryd.sizeOf0
 v0 := Tryd.zeroValue0
 t3 := Tryd.underlying3
 a3 := Tryd.isAgg3
 z3 := Tryd.sizeOf3
 v3 := Tryd.zeroValue3
 t4 := Tryd.underlying4
 a4 := Tryd.isAgg4
 z4 := Tryd.sizeOf4
 v4 := Tryd.zeroValue4
 t5 := Tryd.underlying5
 a5 := Tryd.isAgg5
 z5 := Tryd.sizeOf5
 v5 := Tryd.zeroValue5
 t9 := Tryd.underlying9
 a9 := Tryd.isAgg9
 z9 := Tryd.sizeOf9
 v9 := Tryd.zeroValue9
 t22 := Tryd.underlying22
 a22 := Tryd.isAgg22
 z22 := Tryd.sizeOf22
 v22 := Tryd.zeroValue22
 t25 := Tryd.underlying27
 a25 := Tryd.isAgg27
 z25 := Tryd.sizeOf27
 v25 := Tryd.zeroValue27
 t39 := Tryd.underlying131
 a39 := Tryd.isAgg131
 z39 := Tryd.sizeOf131
 v39 := Tryd.zeroValue131
 t45 := Tryd.underlying176
 a45 := Tryd.isAgg176
 z45 := Tryd.sizeOf176
 v45 := Tryd.zeroValue176
 t46 := Tryd.underlying177
 a46 := Tryd.isAgg177
 z46 := Tryd.sizeOf177
 v46 := Tryd.zeroValue177
 t50 := Tryd.underlying137
 a50 := Tryd.isAgg137
 z50 := Tryd.sizeOf137
 v50 := Tryd.zeroValue137
 t53 := Tryd.underlying87
 a53 := Tryd.isAgg87
 z53 := Tryd.sizeOf87
 v53 := Tryd.zeroValue87
 t55 := Tryd.underlying23
 a55 := Tryd.isAgg23
 z55 := Tryd.sizeOf23
 v55 := Tryd.zeroValue23
 t66 := Tryd.underlying190
 a66 := Tryd.isAgg190
 z66 := Tryd.sizeOf190
 v66 := Tryd.zeroValue190
 t70 := Tryd.underlying193
 a70 := Tryd.isAgg193
 z70 := Tryd.sizeOf193
 v70 := Tryd.zeroValue193
 t76 := Tryd.underlying195
 a76 := Tryd.isAgg195
 z76 := Tryd.sizeOf195
 v76 := Tryd.zeroValue195
 t77 := Tryd.underlying196
 a77 := Tryd.isAgg196
 z77 := Tryd.sizeOf196
 v77 := Tryd.zeroValue196
abbrev St41 := {l : List Int // l.length = 41}
instance : Inhabited St41 := ⟨⟨List.replicate 41 0, rfl⟩⟩
def encL : List Int → List Value
 | [] => []
 | n :: r => .int .i64 n :: r.map fun m => .int .u64 m
theorem encL_V (k : List Int) : (encL k).map V.val = stK k := by
 cases k with
 | nil => rfl
 | cons n r => simp only [encL, List.map_cons, List.map_map, stK]; rfl
theorem encL_len (k : List Int) : (encL k).length = k.length := by cases k <;> simp [encL]
def encS (k : St41) : List Value := encL k.1
theorem rowS (k : St41) : rowOf encS k = .agg (stK k.1) := by simp only [rowOf, encS, encL_V]
def stR (l : List (List Int)) : List V := l.map fun k => .agg (stK k)
theorem stR_len (l : List (List Int)) : (stR l).length = l.length := List.length_map ..
theorem stR_attach (l : List (List Int)) (h : ∀ q ∈ l, q.length = 41) : (l.attach.map fun q => (⟨q.1, h q.1 q.2⟩ : St41)).map (rowOf encS) = stR l := by
 rw [List.map_map]
 have : (rowOf encS ∘ fun q : {x // x ∈ l} => (⟨q.1, h q.1 q.2⟩ : St41)) = fun q => V.agg (stK q.1) := funext fun q => rowS _
 rw [this]
 exact List.attach_map_val (f := fun k => V.agg (stK k)) ..
theorem swo_st : Go.Sort.SWO (Go.Proofs.ltOf fun a b : St41 => cmpL a.1 b.1) where
 irrefl x := ltL_irr x.1
 trans x y z := ltL_trans
 ntrans x y z h h' := by
  show ltL x.1 z.1 = false
  cases hxz : ltL x.1 z.1 with
  | false => rfl
  | true =>
   have h1 : ltL x.1 y.1 = false := h
   have h2 : ltL y.1 z.1 = false := h'
   cases hyx : ltL y.1 x.1 with
   | true => rw [ltL_trans hyx hxz] at h2; cases h2
   | false =>
    have := ltL_total h1 hyx
    rw [this, h2] at hxz; cases hxz
theorem rows_setOf {l : List (List Int)} (hn : l.Nodup) {l' : List St41} (hp : (l'.map (·.1)).Perm l) (hs : l'.Pairwise fun a b => Go.Proofs.ltOf (fun a b : St41 => cmpL a.1 b.1) b a = false) : l'.map (rowOf encS) = stR (setOf l) := by
 have e : l'.map (·.1) = setOf l := by
  refine setOf_eq ?_ fun x => hp.mem_iff
  have hnd : (l'.map (·.1)).Nodup := hp.nodup_iff.2 hn
  rw [Rising, List.pairwise_map]
  rw [List.Nodup, List.pairwise_map] at hnd
  refine (hs.and hnd).imp fun {a b} ⟨h1, h2⟩ => ?_
  have h1' : ltL b.1 a.1 = false := h1
  cases h : ltL a.1 b.1 with
  | true => rfl
  | false => exact absurd (ltL_total h h1') h2
 rw [← e, stR, List.map_map]
 exact List.map_congr_left fun q _ => rowS q
theorem bitsLen_pf (n : Nat) (h : n < 4611686018427387904) : Pf Tryd.prog 93 [.val (.int .u64 (n : Nat))] (iV (Go.Lib.bitLen n : Nat)) := by
 refine ⟨⟨_, sortLay.f15, by kernel_rfl, rfl⟩, fun ι O w cargs _ hv => ?_⟩
 rcases hv with _ | ⟨v0, _ | _⟩
 cases v0
 have h' := Go.Proofs.Any.bits_Len (Go.Proofs.SlLaysF0.n15.bits (P := Tryd.prog) (ρ := sortLay_ren) { sortLay with }) (n : Int) w (by omega) (by omega)
 rw [Int.toNat_natCast] at h'
 refine (show Calls Tryd.prog 93 _ w _ from h').mono ?_
 rintro e w' ⟨he, rfl⟩
 exact ⟨_, he, .val _ rfl, rfl, Tp.refl _, rfl, Nat.le_refl _, fun _ _ => rfl⟩
theorem insNil_fn (r k : Nat) : Sl.Fn Tryd.prog 104 [.sl r 0 0, iV 0, iV 0, .fn (.func 9) [] []] [(r, .rows 41 [])] k fun v H' _ => v = .tup [] ∧ H' = [(r, .rows 41 [])] := by
 refine fn_in T_ok func104 rfl rfl ntmps104 rfl (by simp) ?_
 refine region_k T_ok (by decide) fun K hK => ?_
 simp [go_sem]
 refine hK _ ?_; clear hK K
 refine tr_block ?_
 refine loop_p (α := Unit) (fun u => ⟨53, [(8, iV 1), (2, iV 0)], [(r, .rows 41 [])], k⟩) (fun u => True) (fun u => 0) () ?_ ?_ ?_
 ·trivial
 ·refine Weaker.fz 1 0 ?_ ?_ ?_
  ·simp [go_sem]
  ·first | (simp; done) | (simp; omega)
  ·simp [go_sem]
 rintro _ _
 try dsimp only
 refine seq_k fun K1 hK1 => ?_
 refine region_k T_ok (by decide) fun K hK => ?_
 simp [go_sem]
 refine hK _ ?_; clear hK K
 refine cond_k rfl (fun h => ?_) (fun h => ?_)
 ·simp at h
 ·clear h
  refine tr_exit ?_
  refine ⟨.inl rfl, ?_⟩
  simp [go_sem]
theorem pdqNil_fn (r k : Nat) : Sl.Fn Tryd.prog 92 [.sl r 0 0, iV 0, iV (0 : Nat), iV (Go.Lib.bitLen 0 : Nat), .fn (.func 9) [] []] [(r, .rows 41 [])] k fun v H' _ => v = .tup [] ∧ H' = [(r, .rows 41 [])] := by
 refine fn_in T_ok func92 rfl rfl ntmps92 rfl (by simp) ?_
 refine region_k T_ok (by decide) fun K hK => ?_
 simp [go_sem]
 refine hK _ ?_; clear hK K
 refine region_k T_ok (by decide) fun K hK => ?_
 simp [go_sem]
 refine hK _ ?_; clear hK K
 refine tr_block ?_
 refine loop_p (α := Unit) (fun u => ⟨148, [(0, .sl r 0 0), (1, iV 0), (2, iV 0), (4, .fn (.func 9) [] [])], [(r, .rows 41 [])], k⟩) (fun u => True) (fun u => 0) () ?_ ?_ ?_
 ·trivial
 ·refine Weaker.fz 1 0 ?_ ?_ ?_
  ·simp [go_sem]
  ·first | (simp; done) | (simp; omega)
  ·simp [go_sem]
 rintro _ _
 try dsimp only
 refine tr_block ?_
 refine region_k T_ok (by decide) fun K hK => ?_
 simp [go_sem]
 refine hK _ ?_; clear hK K
 refine seq_k fun K1 hK1 => ?_
 refine region_k T_ok (by decide) fun K hK => ?_
 simp [go_sem]
 refine hK _ ?_; clear hK K
 refine cond_k rfl (fun h => ?_) (fun h => ?_)
 ·clear h
  refine region_k T_ok (by decide) fun K hK => ?_
  simp [go_sem]
  refine call_own (insNil_fn r k) rfl (by simp) (by simp [go_sem]) fun k' hk' => ?_
  simp [go_sem, upds]
  refine hK _ ?_; clear hK K
  refine tr_ret ⟨.inr rfl, ?_⟩
  simp [go_sem]
 ·simp at h
theorem pdqSt_fn (l : List (List Int)) (h41 : ∀ q ∈ l, q.length = 41) (hn : l.Nodup) (hl : l.length < 4611686018427387904) (r k : Nat) :
    Sl.Fn Tryd.prog 92 [.sl r 0 l.length, iV 0, iV (l.length : Nat), iV (Go.Lib.bitLen l.length : Nat), .fn (.func 9) [] []] [(r, .rows 41 (stR l))] k fun v H' _ => v = .tup [] ∧ H' = [(r, .rows 41 (stR (setOf l)))] := by
  by_cases he : l = []
  · subst he
    exact pdqNil_fn r k
  · have hb : Go.Lib.bitLen l.length < 4611686018427387904 := Nat.lt_of_le_of_lt (Go.Lib.bitLen_le l.length 62 (by omega) (by omega)) (by omega)
    have := pdq_fn (enc := encS) (K := 41) sortLay Tryd.isAgg26 Tryd.sizeOf26 (fun x => (encL_len x.1).trans x.2) (fun x v hv => by
        obtain ⟨q, hq⟩ := x
        cases q with
        | nil => cases hv
        | cons n q =>
          cases hv with
          | head => rfl
          | tail _ hv => obtain ⟨m, _, rfl⟩ := List.mem_map.1 hv; rfl) (fun a b => cmpL a.1 b.1) swo_st 9 (fun x y => by rw [rowS, rowS]; exact compare_pf x.1 y.1 x.2 y.2) r k
        (l.attach.map fun q => (⟨q.1, h41 q.1 q.2⟩ : St41)) (by simpa using he) (by simpa using hl) _ hb
    rw [stR_attach, List.length_map, List.length_attach] at this
    refine (show Sl.Fn Tryd.prog 92 _ _ k _ from this).mono ?_
    rintro v H' k' ⟨rfl, l', hp, hs, rfl⟩
    refine ⟨rfl, ?_⟩
    rw [rows_setOf hn ?_ hs]
    have := hp.map (·.1)
    rwa [List.map_map, show ((fun x : St41 => x.1) ∘ fun q : {x // x ∈ l} => (⟨q.1, h41 q.1 q.2⟩ : St41)) = fun q => q.1 from rfl, List.attach_map_subtype_val] at this
theorem sortFunc_fn (l : List (List Int)) (h41 : ∀ q ∈ l, q.length = 41) (hn : l.Nodup) (hl : l.length < 4611686018427387904) (r k : Nat) : Sl.Fn Tryd.prog 69 [.sl r 0 l.length, .fn (.func 9) [] []] [(r, .rows 41 (stR l))] k fun v H' _ => v = .tup [] ∧ H' = [(r, .rows 41 (stR (setOf l)))] := by
 have hw : IntKind.u64.wrap (l.length : Int) = (l.length : Nat) := by simp [IntKind.wrap, IntKind.bits, IntKind.signed]; omega
 refine fn_in T_ok func69 rfl rfl ntmps69 rfl (by simp) ?_
 refine region_k T_ok (by decide) fun K hK => ?_
 simp [go_sem]
 refine hK _ ?_; clear hK K
 refine region_e T_ok (by decide) fun K hK => ?_
 simp [go_sem, hw]
 refine call_pf (bitsLen_pf l.length hl) ?_
 simp [go_sem, hw]
 refine call_own (pdqSt_fn l h41 hn hl r k) rfl (by simp) (by simp [go_sem]) fun k' hk' => ?_
 simp [go_sem, upds]
 refine hK _ ?_; clear hK K
 refine ⟨.inl rfl, ?_⟩
 simp [go_sem]
open Go Go.Sl Go.Proofs.Tryd
theorem nodup_len : ∀ (n : Nat) {d : List Nat}, d.Nodup → (∀ i ∈ d, i < n) → d.length ≤ n
 | 0, d, _, h => by cases d with | nil => simp | cons x d => exact absurd (h x (.head _)) (by omega)
 | n + 1, d, hd, h => by
  have h1 := nodup_len n (hd.erase n) fun i hi => by
   have h2 := h i (List.mem_of_mem_erase hi)
   have h3 : i ≠ n := fun e => by subst e; exact (hd.not_mem_erase) hi
   omega
  have h4 : d.length ≤ (d.erase n).length + 1 := by
   by_cases hm : n ∈ d
   ·rw [List.length_erase_of_mem hm]; omega
   ·rw [List.erase_of_not_mem hm]; omega
  omega
def pk (l : List (List Int)) (d : List Nat) : List (List Int) := d.map fun i => l.getD i []
@[simp] theorem pk_len (l : List (List Int)) (d : List Nat) : (pk l d).length = d.length := List.length_map ..
theorem pk_append (l : List (List Int)) (d : List Nat) (i : Nat) : pk l (d ++ [i]) = pk l d ++ [l.getD i []] := by simp [pk]
theorem stR_append (a b : List (List Int)) : stR (a ++ b) = stR a ++ stR b := List.map_append ..
theorem stR_one (a : List Int) : stR [a] = [.agg (stK a)] := rfl
theorem insR_len {x : List Int} : ∀ {l : List (List Int)}, x ∉ l → (insR x l).length = l.length + 1
 | [], _ => rfl
 | y :: l, h => by
  unfold insR
  split
  ·rfl
  ·split
   ·rename_i e; exact absurd (e ▸ .head _) h
   ·rw [List.length_cons, insR_len fun hm => h (.tail _ hm), List.length_cons]
theorem setOf_len : ∀ {l : List (List Int)}, l.Nodup → (setOf l).length = l.length
 | [], _ => rfl
 | x :: l, h => by
  have h' := List.nodup_cons.1 h
  rw [show setOf (x :: l) = insR x (setOf l) from rfl, insR_len fun hm => h'.1 (mem_setOf.1 hm), setOf_len h'.2, List.length_cons]
theorem stK_one (q : List Int) : ∀ x ∈ stK q, x.one = true := by
 intro x hx
 cases q with
 | nil => cases hx
 | cons n r =>
  rw [stK] at hx
  cases hx with
  | head => rfl
  | tail _ h => obtain ⟨m, _, rfl⟩ := List.mem_map.1 h; rfl
theorem stR_pk_nil (l : List (List Int)) : stR (pk l []) = [] := rfl
theorem pk_mem {l : List (List Int)} {d : List Nat} (hd : ∀ i ∈ d, i < l.length) {q : List Int} (h : q ∈ pk l d) : q ∈ l := by
 obtain ⟨i, hi, rfl⟩ := List.mem_map.1 h
 have := hd i hi
 simp [List.getD, this]
theorem pk_all {l : List (List Int)} {d : List Nat} (h : ∀ i, i < l.length → i ∈ d) {q : List Int} (hq : q ∈ l) : q ∈ pk l d := by
 obtain ⟨i, hi, rfl⟩ := List.mem_iff_getElem.1 hq
 exact List.mem_map.2 ⟨i, h i hi, by simp [List.getD, hi]⟩
theorem pk_nodup {l : List (List Int)} (hl : l.Nodup) : ∀ {d : List Nat}, (∀ i ∈ d, i < l.length) → d.Nodup → (pk l d).Nodup
 | [], _, _ => List.nodup_nil
 | i :: d, hd, hn => by
  have hn' := List.nodup_cons.1 hn
  rw [pk, List.map_cons, List.nodup_cons]
  refine ⟨fun h => ?_, pk_nodup hl (fun j hj => hd j (.tail _ hj)) hn'.2⟩
  obtain ⟨j, hj, e⟩ := List.mem_map.1 h
  have h1 := hd i (.head _)
  have h2 := hd j (.tail _ hj)
  simp only [List.getD, List.getElem?_eq_getElem h1, List.getElem?_eq_getElem h2, Option.getD_some] at e
  rw [List.getElem_inj hl] at e
  exact hn'.1 (e ▸ hj)
theorem seenM_get {l : List (List Int)} {i : Nat} {p : V × V} (h : (seenM l)[i]? = some p) : ∃ q, l[i]? = some q ∧ p = (.agg (stK q), bV true) := by
 rw [seenM, List.getElem?_map] at h
 cases hq : l[i]? with
 | none => rw [hq] at h; cases h
 | some q => rw [hq] at h; exact ⟨q, rfl, (Option.some.inj h).symm⟩
set_option maxHeartbeats 4000000 in
theorem of_fn (l : List (List Int)) (h41 : ∀ q ∈ l, q.length = 41) (hn : l.Nodup) (hl : l.length ≤ 400000000000) (n k : Nat) (hnk : n < k) : Sl.Fn Tryd.prog 66 [.map n] [(n, .map (seenM l))] k fun v H _ => v = .ro 41 (stR (setOf l)) ∧ H = [] := by
 refine Fn.view ?_
 have nn50 : ¬ n = k := by omega
 have mm50 : ¬ k = n := by omega
 have nn51 : ¬ n = k + 1 := by omega
 have mm51 : ¬ k + 1 = n := by omega
 refine fn_in T_ok func66 rfl rfl ntmps66 rfl (by simp) ?_
 refine region_k T_ok (by decide) fun K hK => ?_
 simp [go_sem]
 refine hK _ ?_; clear hK K
 refine region_k T_ok (by decide) fun K hK => ?_
 simp [go_sem]
 refine hK _ ?_; clear hK K
 refine seq_k fun K1 hK1 => ?_
 refine region_k T_ok (by decide) fun K hK => ?_
 simp [go_sem, nn50, mm50, nn51, mm51]
 refine hK _ ?_; clear hK K
 refine tr_block ?_
 refine Tr.weaken (Weaker.ghost 3 41 rfl) ?_
 refine loop_p (α := List Nat × Nat) (fun a => ⟨18, [(0, .map n), (6, .ptr k 0 0), (3, .sl a.2 0 a.1.length)], [(n, .map (seenM l)), (k, .iter n a.1 l.length), (a.2, .rows 41 (stR (pk l a.1)))], a.2 + 1⟩) (fun a => a.1.Nodup ∧ (∀ i ∈ a.1, i < l.length) ∧ k < a.2) (fun a => l.length - a.1.length) ([], k + 1) ?_ ?_ ?_
 ·exact ⟨List.nodup_nil, by simp, Nat.lt_succ_self k⟩
 ·refine Weaker.fz 1 0 ?_ ?_ ?_
  ·simp [go_sem, nn50, mm50, nn51, mm51, seenM_len, stR_pk_nil]
  ·first | (simp; done) | (simp; omega)
  ·simp [go_sem, nn50, mm50, nn51, mm51, seenM_len, stR_pk_nil]
 rintro ⟨d, j⟩ ⟨hd, hdl, hkj⟩
 dsimp only at hd hdl hkj ⊢
 have nn0 : ¬ n = k := by omega
 have mm0 : ¬ k = n := by omega
 have nn1 : ¬ n = j := by omega
 have mm1 : ¬ j = n := by omega
 have nn2 : ¬ k = j := by omega
 have mm2 : ¬ j = k := by omega
 have nn3 : ¬ n = j + 1 := by omega
 have mm3 : ¬ j + 1 = n := by omega
 have nn4 : ¬ n = j + 2 := by omega
 have mm4 : ¬ j + 2 = n := by omega
 have nn5 : ¬ n = j + 3 := by omega
 have mm5 : ¬ j + 3 = n := by omega
 have nn6 : ¬ n = j + 4 := by omega
 have mm6 : ¬ j + 4 = n := by omega
 have nn7 : ¬ k = j + 1 := by omega
 have mm7 : ¬ j + 1 = k := by omega
 have nn8 : ¬ k = j + 2 := by omega
 have mm8 : ¬ j + 2 = k := by omega
 have nn9 : ¬ k = j + 3 := by omega
 have mm9 : ¬ j + 3 = k := by omega
 have nn10 : ¬ k = j + 4 := by omega
 have mm10 : ¬ j + 4 = k := by omega
 refine reg_start ?_
 refine reg_next rfl rfl rfl (by decide) k n l.length d (seenM l) (by simp [go_sem, seenM_len, nn0, mm0, nn1, mm1, nn2, mm2, nn3, mm3, nn4, mm4, nn5, mm5, nn6, mm6, nn7, mm7, nn8, mm8, nn9, mm9, nn10, mm10]) (by simp [go_sem, seenM_len, nn0, mm0, nn1, mm1, nn2, mm2, nn3, mm3, nn4, mm4, nn5, mm5, nn6, mm6, nn7, mm7, nn8, mm8, nn9, mm9, nn10, mm10]) (by simp [go_sem, seenM_len, nn0, mm0, nn1, mm1, nn2, mm2, nn3, mm3, nn4, mm4, nn5, mm5, nn6, mm6, nn7, mm7, nn8, mm8, nn9, mm9, nn10, mm10]) (by simp [go_sem, seenM_len, nn0, mm0, nn1, mm1, nn2, mm2, nn3, mm3, nn4, mm4, nn5, mm5, nn6, mm6, nn7, mm7, nn8, mm8, nn9, mm9, nn10, mm10]) ?_ ?_
 ·intro hall
  refine reg_end T_ok (by decide) fun K hK => ?_
  simp [go_sem]
  refine hK _ ?_; clear hK K
  refine seq_k fun K2 hK2 => ?_
  refine cond_k rfl (fun h => ?_) (fun h => ?_)
  ·simp at h
  ·simp at h
   refine tr_exit ?_
   refine hK1 _ ?_; try clear hK1 K1
   refine region_k T_ok (by decide) fun K hK => ?_
   have hdn := nodup_len _ hd hdl
   simp [go_sem, nn0, mm0, nn1, mm1, nn2, mm2, nn3, mm3, nn4, mm4, nn5, mm5, nn6, mm6, nn7, mm7, nn8, mm8, nn9, mm9, nn10, mm10]
   have hs := sortFunc_fn (pk l d) (fun q hq => h41 q (pk_mem hdl hq)) (pk_nodup hn hdl hd) (by simp; omega) j (j + 1)
   rw [pk_len] at hs
   have hso : setOf (pk l d) = setOf l := setOf_congr fun x => ⟨pk_mem hdl, pk_all hall⟩
   rw [hso] at hs
   refine call_own hs rfl (by simp) (by simp [go_sem, nn0, mm0, nn1, mm1, nn2, mm2, nn3, mm3, nn4, mm4, nn5, mm5, nn6, mm6, nn7, mm7, nn8, mm8, nn9, mm9, nn10, mm10]) fun k' hk' => ?_
   simp [go_sem, upds, nn0, mm0, nn1, mm1, nn2, mm2, nn3, mm3, nn4, mm4, nn5, mm5, nn6, mm6, nn7, mm7, nn8, mm8, nn9, mm9, nn10, mm10]
   refine hK _ ?_; clear hK K
   refine region_k T_ok (by decide) fun K hK => ?_
   simp [go_sem]
   refine hK _ ?_; clear hK K
   refine tr_ret ⟨.inr rfl, ?_⟩
   simp [go_sem]
   exact ⟨_, _, (View.freezeAll (sz := 41) (es := stR (setOf l)) (by simp [go_sem, nn0, mm0, nn1, mm1, nn2, mm2, nn3, mm3, nn4, mm4, nn5, mm5, nn6, mm6, nn7, mm7, nn8, mm8, nn9, mm9, nn10, mm10]) (by rw [stR_len, ← hso, setOf_len (pk_nodup hn hdl hd), pk_len])).trans (View.nil _), rfl, rfl⟩
 ·intro i p hp hi
  obtain ⟨q, hq, rfl⟩ := seenM_get hp
  have hil : i < l.length := (List.getElem?_eq_some_iff.1 hq).1
  have hd2 : (d ++ [i]).Nodup := List.nodup_append.2 ⟨hd, by simp, by intro a ha b hb; simp at hb; subst hb; exact fun e => hi (e ▸ ha)⟩
  have hdl2 : ∀ x ∈ d ++ [i], x < l.length := by intro x hx; rcases List.mem_append.1 hx with h | h; exact hdl x h; simp at h; omega
  have hdn := nodup_len _ hd hdl
  have hql : (stK q).length = 41 := (stK_len q).trans (h41 q (List.mem_of_getElem? hq))
  have hqo : ∀ x ∈ stK q, x.one = true := stK_one q
  have hqt : List.take 41 (stK q) = stK q := List.take_of_length_le (by omega)
  have hst : List.take d.length (stR (pk l d)) = stR (pk l d) := List.take_of_length_le (by simp [stR_len])
  refine reg_end T_ok (by decide) fun K hK => ?_
  simp [go_sem]
  refine hK _ ?_; clear hK K
  refine seq_k fun K3 hK3 => ?_
  refine cond_k rfl (fun h => ?_) (fun h => ?_)
  ·simp at h
   refine tr_skip ?_
   refine hK3 _ ?_; try clear hK3 K3
   refine tr_block ?_
   refine region_k T_ok (by decide) fun K hK => ?_
   simp [go_sem, hp, hq, seenM_len, hql, hqo, nn0, mm0, nn1, mm1, nn2, mm2, nn3, mm3, nn4, mm4, nn5, mm5, nn6, mm6, nn7, mm7, nn8, mm8, nn9, mm9, nn10, mm10]
   refine ⟨hqo, ?_⟩
   refine hK _ ?_; clear hK K
   refine region_e T_ok (by decide) fun K hK => ?_
   simp [go_sem, nn0, mm0, nn1, mm1, nn2, mm2, nn3, mm3, nn4, mm4, nn5, mm5, nn6, mm6, nn7, mm7, nn8, mm8, nn9, mm9, nn10, mm10, hql, hqo, hqt, hst, stR_len, pk_len]
   refine ⟨hqo, by omega, ?_⟩
   refine hK _ ?_; clear hK K
   refine ⟨(d ++ [i], j + 3), ?_, ?_, ?_⟩
   ·exact ⟨hd2, hdl2, by omega⟩
   ·have := nodup_len _ hd2 hdl2; simp at this; simp; omega
   ·refine Weaker.fz 1 0 ?_ ?_ ?_
    ·simp [go_sem, nn0, mm0, nn1, mm1, nn2, mm2, nn3, mm3, nn4, mm4, nn5, mm5, nn6, mm6, nn7, mm7, nn8, mm8, nn9, mm9, nn10, mm10]
    ·first | (simp; done) | (simp; omega)
    simp [go_sem, pk_append, stR_append, stR_one, hq, nn0, mm0, nn1, mm1, nn2, mm2, nn3, mm3, nn4, mm4, nn5, mm5, nn6, mm6, nn7, mm7, nn8, mm8, nn9, mm9, nn10, mm10]
  ·simp at h
end Go.Proofs.YtjhnpebgfjefoaaDoor
namespace Go.Sl
abbrev mdF : Md := ⟨False⟩
theorem Pf.lo {P : Program} {f : FuncId} {args : List V} {r : V} (h : Pf P f args r) : @Pf mdF P f args r :=
 @Pf.mk mdF P f args r h.enters fun ι O w cargs h1 h2 => (h.calls ι O w cargs h1 h2).mono fun _ _ ⟨cv, a, b, c, d, e⟩ => ⟨cv, a, b, c, ⟨d.1, fun x => False.elim x⟩, e⟩
section
local instance (priority := 2000) mdG : Md := mdF
def strV (l : List ByteArray) : List V := l.map fun s => .val (.string s)
@[go_sem] theorem strV_len (l : List ByteArray) : (strV l).length = l.length := List.length_map ..
theorem strV_append (l : List ByteArray) (s : ByteArray) : strV l ++ [.val (.string s)] = strV (l ++ [s]) := by simp [strV]
@[go_sem] theorem strV_take (l : List ByteArray) (n : Nat) : (strV l).take n = strV (l.take n) := (List.map_take ..).symm
theorem strV_nil : strV [] = [] := rfl
theorem strV_cells (l : List ByteArray) : (strV l).flatMap V.cells = (l.map Value.string).map V.val := by
 unfold strV
 induction l with
 | nil => rfl
 | cons x l ih => simp [V.cells, ih]
def joinT (l : List ByteArray) (sep : ByteArray) : ByteArray := ⟨(Go.Lib.join (l.map (·.data.toList)) sep.data.toList).toArray⟩
open Go.Proofs Go.RowKit in
theorem join_pf {P : Program} {ρ : Go.Shelf.Ren} (L : Go.Proofs.Lays.n156 P ρ) (X : Builder.Extra P ρ) (hE : Enters P (ρ.f 156)) (l : List ByteArray) (sep : ByteArray) (h1 : l.length ≤ 140737488355328)
    (h2 : (Go.Lib.join (l.map (·.data.toList)) sep.data.toList).length ≤ 140737488355328) : @Pf mdF P (ρ.f 156) [.ro 1 (strV l), .val (.string sep)] (.val (.string (joinT l sep))) := by
  refine ⟨hE, fun ι O w cargs hO hv => ?_⟩
  have fin : ∀ {e : Ending} {w' : World}, e = .returned (.string (joinT l sep)) → Below w.heap.size w w' → ∃ cv, e = .returned cv ∧ VRel ι O w' (.val (.string (joinT l sep))) cv ∧
      w'.os = w.os ∧ @Tp mdF w w' ∧ w'.output = w.output ∧ w.heap.size ≤ w'.heap.size ∧ ∀ b, b < w.heap.size → w'.heap[b]? = w.heap[b]? :=
    fun he b => ⟨_, he, .val _ rfl, b.os, ⟨b.tape, fun d => d.elim⟩, b.output, b.size, b.block⟩
  rcases hv with _ | ⟨v0, _ | ⟨v1, _ | _⟩⟩
  cases v1
  generalize hes : strV l = es at v0
  cases v0 with
  | ro0 =>
    have hl : l = [] := List.map_eq_nil_iff.1 hes
    subst hl
    exact (Any.strings_Join_none L X _ _ sep w).mono fun e w' ⟨he, hw⟩ => fin he (hw ▸ Below.refl _ _)
  | ro hb hO' hw hsz hlen hlc hin hvs hr =>
    rename_i b off len cap c et fr vs
    subst hes hvs
    rw [strV_len] at hlen hin
    rw [strV_cells] at hr
    have hr := vrels_val_eq hr
    subst hlen
    rw [strV_len] at hr
    refine (Any.strings_Join L X b off cap l sep w (fun j x hx => ?_) hb h1 hlc h2).mono fun e w' ⟨he, hw'⟩ => fin he hw'
    have hj := (List.getElem?_eq_some_iff.1 hx).1
    have : (l.map Value.string)[j]? = some (.string x) := by rw [List.getElem?_map, hx]; rfl
    rw [← hr, List.getElem?_take_of_lt (by omega), List.getElem?_drop, Array.getElem?_toList] at this
    simp [World.cell?, hw, this]
end
end Go.Sl
namespace Go.Proofs.YtjhnpebgfjefoaaDoor
open Go Go.Sl
def nmT (t : Tst) (nm : Nat → ByteArray) (p : Slo) : ByteArray := if p.1 < 0 then (t.locs.getD p.2.toNat ⟨ByteArray.empty, 0⟩).name else nm p.1.toNat ++ ⟨#[58, 114]⟩ ++ nm p.2.toNat
def txX (t : Tst) (nm : Nat → ByteArray) (p : Slo) (v : Int) : ByteArray := nmT t nm p ++ ⟨#[61]⟩ ++ nm v.toNat
def txL (t : Tst) (nm : Nat → ByteArray) (r : List Int) : List ByteArray := List.zipWith (txX t nm) (slotsT t) r
theorem txL_at {t : Tst} {nm : Nat → ByteArray} {r : List Int} {i : Nat} {p : Slo} {v : Int} (h : (slotsT t)[i]? = some p) (h' : r[i]? = some v) : (txL t nm r)[i]? = some (txX t nm p v) := by
 unfold txL; rw [List.getElem?_zipWith, h, h']
theorem txL_len {t : Tst} {nm : Nat → ByteArray} {r : List Int} (h : (slotsT t).length ≤ r.length) : (txL t nm r).length = (slotsT t).length := by unfold txL; rw [List.length_zipWith]; omega
theorem nmX_size {t : Tst} {nm : Nat → ByteArray} (hnm : ∀ l ∈ t.locs, l.name.size ≤ 1000000) (hns : ∀ n, (nm n).size ≤ 20) (p : Slo) : (nmT t nm p).size ≤ 1000042 := by
 unfold nmT
 split
 ·by_cases hb : p.2.toNat < t.locs.length
  ·have := hnm _ (List.getElem_mem hb)
   simp [List.getD, hb]; omega
  ·simp [List.getD, List.getElem?_eq_none (Nat.not_lt.1 hb)]
 ·have h1 := hns p.1.toNat
  have h2 := hns p.2.toNat
  have : (ByteArray.mk #[58, 114]).size = 2 := rfl
  simp only [ByteArray.size_append]; omega
theorem txL_size {t : Tst} {nm : Nat → ByteArray} {r : List Int} (hnm : ∀ l ∈ t.locs, l.name.size ≤ 1000000) (hns : ∀ n, (nm n).size ≤ 20) {x : ByteArray} (hx : x ∈ txL t nm r) : x.size ≤ 10000000 := by
 unfold txL at hx
 obtain ⟨k, hk, rfl⟩ := List.mem_iff_getElem.1 hx
 rw [List.getElem_zipWith]
 rw [List.length_zipWith] at hk
 unfold txX
 have h1 := nmX_size hnm hns ((slotsT t)[k]'(by omega))
 have h2 := hns (r[k]'(by omega)).toNat
 have : (ByteArray.mk #[61]).size = 1 := rfl
 simp only [ByteArray.size_append]; omega
theorem joinT_len : ∀ (l : List (List UInt8)) (sep : List UInt8) (m : Nat), (∀ x ∈ l, x.length + sep.length ≤ m) → (Go.Lib.join l sep).length ≤ l.length * m
 | [], sep, m, _ => by simp [Go.Lib.join_nil]
 | x :: r, sep, m, h => by
  rw [Go.Lib.join_cons]
  have hx := h x (.head _)
  have : ∀ r : List (List UInt8), (∀ x ∈ r, x.length + sep.length ≤ m) → (Go.Lib.joinTail sep r).length ≤ r.length * m := fun r => by
   induction r with
   | nil => intro _; simp [Go.Lib.joinTail]
   | cons y r ih =>
    intro h
    have := ih fun x hx => h x (.tail _ hx)
    have hy := h y (.head _)
    unfold Go.Lib.joinTail at this ⊢
    simp only [List.map_cons, List.flatten_cons, List.length_append, List.length_cons, Nat.succ_mul]
    omega
  have := this r fun x hx => h x (.tail _ hx)
  rw [List.length_append, List.length_cons, Nat.succ_mul]; omega
open Go Go.Sl Go.Proofs.Tryd
local instance (priority := 2000) mdH : Md := mdF
def joinRen : Go.Shelf.Ren := ⟨fun | 156 => 62 | 165 => 88 | 166 => 89 | 169 => 90 | 240 => 102 | 241 => 103 | 276 => 118 | 277 => 119 | n => n, fun | 31 => 127 | 9 => 9 | 3 => 3 | 4 => 4 | 0 => 0 | 20 => 20 | 72 => 157 | 76 => 161 | 70 => 155 | 37 => 80 | 75 => 160 | 127 => 174 | 164 => 187 | 5 => 5 | 80 => 85 | n => n, fun | n => n⟩
theorem joinLay : Go.Proofs.Lays.n156 Tryd.prog joinRen := {
 mixed := by kernel_rfl
 f156 := Tryd.func62.trans (congrArg some (by kernel_rfl))
 f165 := Tryd.func88.trans (congrArg some (by kernel_rfl))
 f166 := Tryd.func89.trans (congrArg some (by kernel_rfl))
 f169 := Tryd.func90.trans (congrArg some (by kernel_rfl))
 f240 := Tryd.func102.trans (congrArg some (by kernel_rfl))
 f241 := Tryd.func103.trans (congrArg some (by kernel_rfl))
 f276 := Tryd.func118.trans (congrArg some (by kernel_rfl))
 f277 := Tryd.func119.trans (congrArg some (by kernel_rfl))
 t0 := Tryd.underlying0
 a0 := Tryd.isAgg0
 z0 := Tryd.sizeOf0
 v0 := Tryd.zeroValue0
 t3 := Tryd.underlying3
 a3 := Tryd.isAgg3
 z3 := Tryd.sizeOf3
 v3 := Tryd.zeroValue3
 t4 := Tryd.underlying4
 a4 := Tryd.isAgg4
 z4 := Tryd.sizeOf4
 v4 := Tryd.zeroValue4
 t9 := Tryd.underlying9
 a9 := Tryd.isAgg9
 z9 := Tryd.sizeOf9
 v9 := Tryd.zeroValue9
 t20 := Tryd.underlying20
 a20 := Tryd.isAgg20
 z20 := Tryd.sizeOf20
 v20 := Tryd.zeroValue20
 t31 := Tryd.underlying127
 a31 := Tryd.isAgg127
 z31 := Tryd.sizeOf127
 v31 := Tryd.zeroValue127
 t37 := Tryd.underlying80
 a37 := Tryd.isAgg80
 z37 := Tryd.sizeOf80
 v37 := Tryd.zeroValue80
 t70 := Tryd.underlying155
 a70 := Tryd.isAgg155
 z70 := Tryd.sizeOf155
 v70 := Tryd.zeroValue155
 t72 := Tryd.underlying157
 a72 := Tryd.isAgg157
 z72 := Tryd.sizeOf157
 v72 := Tryd.zeroValue157
 t75 := Tryd.underlying160
 a75 := Tryd.isAgg160
 z75 := Tryd.sizeOf160
 v75 := Tryd.zeroValue160
 t76 := Tryd.underlying161
 a76 := Tryd.isAgg161
 z76 := Tryd.sizeOf161
 v76 := Tryd.zeroValue161
 t127 := Tryd.underlying174
 a127 := Tryd.isAgg174
 z127 := Tryd.sizeOf174
 v127 := Tryd.zeroValue174
 t164 := Tryd.underlying187
 a164 := Tryd.isAgg187
 z164 := Tryd.sizeOf187
 v164 := Tryd.zeroValue187 }
theorem joinX : Go.Proofs.Builder.Extra Tryd.prog joinRen := {
 sizeBuilder := by kernel_rfl
 liesBuilder := by kernel_rfl
 t5 := Tryd.underlying5
 a5 := Tryd.isAgg5
 z5 := Tryd.sizeOf5
 v5 := Tryd.zeroValue5
 infoByte := by kernel_rfl
 cellsByte := by kernel_rfl
 sizeByte := by kernel_rfl
 neB5 := by decide }
theorem joinP (l : List ByteArray) (h0 : l.length ≤ 1000) (h : ∀ x ∈ l, x.size ≤ 10000000) : Pf Tryd.prog 62 [.ro 1 (strV l), .val (.string ⟨#[32]⟩)] (.val (.string (joinT l ⟨#[32]⟩))) := by
 refine join_pf joinLay joinX ⟨_, Tryd.func62, rfl, rfl⟩ l _ (by omega) ?_
 refine Nat.le_trans (joinT_len _ _ 10000001 fun x hx => ?_) ?_
 ·obtain ⟨y, hy, rfl⟩ := List.mem_map.1 hx
  have := h y hy
  have e : y.data.toList.length = y.size := Array.length_toList
  rw [e]
  show y.size + 1 ≤ _
  omega
 ·rw [List.length_map]; omega
set_option maxHeartbeats 4000000 in
theorem text_pf (t : Tst) (ht : t.ths.length ≤ 4) (hl : ∀ x ∈ t.ths, x.length ≤ 1000) (hrd : ∀ l ∈ t.ths, ∀ x ∈ l, setB x.op = true → 0 ≤ x.rd ∧ x.rd < 8) (hlo : t.locs.length ≤ 8) (hnm : ∀ l ∈ t.locs, l.name.size ≤ 1000000)
    (nm : Nat → ByteArray) (hns : ∀ n, (nm n).size ≤ 20) (m : Int) (r : List Int) (hr : r.length = 40) (hit : ∀ n : Nat, n < 8 → Pf Tryd.prog 60 [iV n] (.val (.string (nm n)))) (hfu : ∀ v ∈ r, Pf Tryd.prog 61 [uV v, iV 10] (.val (.string (nm v.toNat)))) : Pf Tryd.prog 21 [.rp t.cs 0, .agg (iV m :: uVs r)] (.val (.string (joinT (txL t nm r) ⟨#[32]⟩))) := by
  refine Pf.of_fz 1 (.cons (nl_rp t) (.cons (.agg (nl_stK (m :: r))) .nil)) (.val _) ?_
  have hs40 := slotsT_len ht hlo
  have hslots := slots_pf t (by omega) hl hrd (by omega)
  have htl : (txL t nm r).length = (slotsT t).length := txL_len (by omega)
  refine fn_in T_ok func21 rfl rfl ntmps21 rfl (by simp) ?_
  refine region_k T_ok (by decide) fun K hK => ?_
  simp [go_sem, hr, us_ones]
  refine hK _ ?_; clear hK K
  refine region_k T_ok (by decide) fun K hK => ?_
  simp [go_sem]
  refine hK _ ?_; clear hK K
  refine seq_k fun K1 hK1 => ?_
  refine region_k T_ok (by decide) fun K hK => ?_
  simp [go_sem]
  refine call_pf hslots.lo ?_
  simp [go_sem]
  refine hK _ ?_; clear hK K
  refine tr_block ?_
  refine Tr.weaken (Weaker.ghost 5 1 rfl) ?_
  refine loop_p (α := Nat × Nat) (fun a => ⟨51, [(0, .rp t.cs 0), (3, .ptr 0 0 0), (10, .ro 2 (sloV (slotsT t))), (11, iV ((slotsT t).length : Nat)), (12, iV (a.1 : Nat)), (5, .sl a.2 0 a.1)], [(a.2, .rows 1 (strV ((txL t nm r).take a.1))), (0, .rows 41 [.agg (iV m :: uVs r)])], a.2 + 1⟩) (fun a => a.1 ≤ (slotsT t).length ∧ 0 < a.2) (fun a => (slotsT t).length - a.1) (0, 1) ?_ ?_ ?_
  · dsimp only; omega
  · refine Weaker.fzk 1 0 (by first | omega | (dsimp only; omega)) ?_ ?_ ?_
    · simp [go_sem]
    · first | (simp; done) | (simp; omega)
    · simp [go_sem, strV_nil]
  rintro ⟨i, j⟩ ⟨hi, hj⟩
  dsimp only at hi hj ⊢
  refine region_k T_ok (by decide) fun K hK => ?_
  simp [go_sem]
  refine hK _ ?_; clear hK K
  refine seq_k fun K2 hK2 => ?_
  refine cond_k rfl (fun h => ?_) (fun h => ?_)
  · simp at h
    have hI := h
    clear h
    have h' : i < (slotsT t).length := by omega
    obtain ⟨p, hx, hx'⟩ := getAt h'
    have hi0 : (0 : Int) ≤ (i : Nat) := by omega
    obtain ⟨a, b⟩ := p
    have hmem := slots_mem (List.mem_of_getElem? hx)
    have hi40 : i < r.length := by omega
    have hI40 : (i : Int) < 40 := by omega
    obtain ⟨v, hv, hv'⟩ := getAt hi40
    have hst : (txL t nm r).take (i + 1) = (txL t nm r).take i ++ [nmT t nm (a, b) ++ ⟨#[61]⟩ ++ nm v.toNat] := takeAt (txL_at hx hv)
    have hsl : ((txL t nm r).take i).length = i := by rw [List.length_take]; omega
    have hi41 : 1 + i ≤ 40 := by omega
    have hvg : (iV m :: uVs r)[1 + i]?.getD V.any = uV v := by rw [Nat.add_comm]; simp [uVs, hv]
    have hfv := hfu v (List.mem_of_getElem? hv)
    have hvs := hns v.toNat
    have hw : IntKind.i64.wrap ((i : Nat) + 1) = (i : Nat) + 1 := wrap_i64 (by omega) (by omega)
    have e0 : ¬ j = 0 := by omega
    have eq0 : ¬ 0 = j := by omega
    refine tr_skip ?_
    refine hK2 _ ?_; try clear hK2 K2
    refine seq_k fun K3 hK3 => ?_
    refine tr_block ?_
    refine region_k T_ok (by decide) fun K hK => ?_
    simp [go_sem, hI, hx, hx', hi0, h', e0, eq0]
    refine hK _ ?_; clear hK K
    refine region_k T_ok (by decide) fun K hK => ?_
    simp [go_sem, e0, eq0]
    refine hK _ ?_; clear hK K
    refine seq_to ⟨51, [(0, .rp t.cs 0), (3, .ptr 0 0 0), (10, .ro 2 (sloV (slotsT t))), (11, iV ((slotsT t).length : Nat)), (12, iV (i : Nat)), (5, .sl j 0 i), (6, iV (i : Nat)), (8, .val (.string (nmT t nm (a, b))))], [(j, .rows 1 (strV ((txL t nm r).take i))), (0, .rows 41 [.agg (iV m :: uVs r)])], j + 60⟩ ?_ ?_
    · skip
      refine region_k T_ok (by decide) fun K hK => ?_
      simp [go_sem]
      refine hK _ ?_; clear hK K
      refine cond_k rfl (fun h => ?_) (fun h => ?_)
      · have ha : a < 0 := by simpa using h
        obtain ⟨n, hn, hn8⟩ : ∃ n : Nat, b = n ∧ n < t.locs.length := by
          rcases hmem with ⟨n, hn, h2⟩ | ⟨q, r, hn, h2, h3⟩
          · cases hn; exact ⟨n, rfl, by omega⟩
          · cases hn; omega
        subst hn
        have hnI : (n : Int) < (t.locs.length : Nat) := by omega
        have hn0 : (0 : Int) ≤ (n : Nat) := by omega
        obtain ⟨lc, hlc, hlc'⟩ := getAt hn8
        have hnx : nmT t nm (a, (n : Int)) = lc.name := by simp [nmT, ha, hlc]
        refine draw_e T_ok (by kernel_rfl) 6 [[], [0], [0, 1], [0, 1, 2], [], [4], [0, 1, 2, 3, 4, 5], [0, 1, 2, 3, 4, 5, 6], [0, 1, 2, 3, 4, 5, 6, 7], [0, 1, 2, 3, 4, 5, 6, 7, 8]] [] (by decide) (by decide) (by decide) fun K hK => ?_
        first | dsimp only [List.take, List.drop] | dsimp [List.take, List.drop]
        simp [go_sem, hnI, hn0, hn8, hlc, hlc', iniC, Ini.cs, Tst.cs, e0, eq0]
        refine hK _ ?_; clear hK K
        refine Weaker.fzk 1 0 (by omega) ?_ ?_ ?_
        · simp [go_sem, e0, eq0, hnx, Tst.cs]
        · first | (simp; done) | (simp; omega)
        · simp [go_sem, e0, eq0, hnx, Tst.cs]
      · have ha : ¬ a < 0 := by simpa using h
        obtain ⟨q, c, hq, hr2, hq2, hr8⟩ : ∃ q c : Nat, a = q ∧ b = c ∧ q < 8 ∧ c < 8 := by
          rcases hmem with ⟨n, hn, h2⟩ | ⟨q, r, hn, h2, h3⟩
          · cases hn; omega
          · cases hn; exact ⟨q, r, rfl, rfl, by omega, h3⟩
        subst hq hr2
        have hnx : nmT t nm ((q : Int), (c : Int)) = nm q ++ ⟨#[58, 114]⟩ ++ nm c := by
          have hq0 : ¬ ((q : Int) < 0) := by omega
          simp [nmT, hq0]
        have hq3 := hns q
        have hc3 := hns c
        have hs1 : ((nm q).size : Int) + 2 ≤ 9223372036854775807 := by omega
        have hs2 : ((nm q).size : Int) + 2 + ((nm c).size : Nat) ≤ 9223372036854775807 := by omega
        refine draw_e T_ok (by kernel_rfl) 7 [[], [0], [0, 1], [0, 1, 2], [], [4], [0, 1, 2, 4, 5], [0, 1, 2, 3, 4, 5, 6], [0, 1, 2, 3, 4, 5, 6, 7]] [] (by decide) (by decide) (by decide) fun K hK => ?_
        first | dsimp only [List.take, List.drop] | dsimp [List.take, List.drop]
        simp [go_sem, hs1, hs2, e0, eq0]
        refine callD_of (hit q hq2) ?_
        simp [go_sem, hs1, hs2, e0, eq0]
        refine callD_of (hit c hr8) ?_
        simp [go_sem, hs1, hs2, e0, eq0]
        refine hK _ ?_; clear hK K
        refine Weaker.fzk 1 0 (by omega) ?_ ?_ ?_
        · simp [go_sem, e0, eq0, hnx]
        · first | (simp; done) | (simp; omega)
        · simp [go_sem, e0, eq0, hnx]
    · have hnz := nmX_size hnm hns (a, b)
      have hz1 : ((nmT t nm (a, b)).size : Int) + 1 ≤ 9223372036854775807 := by omega
      have hz2 : ((nmT t nm (a, b)).size : Int) + 1 + ((nm v.toNat).size : Nat) ≤ 9223372036854775807 := by omega
      refine region_e T_ok (by decide) fun K hK => ?_
      simp [go_sem, hI40, hi41, hvg, hi0, hz1, hz2, hsl, htl, e0, eq0]
      refine call_pf hfv ?_
      simp [go_sem, hz1, hz2, hsl, htl, e0, eq0]
      refine ⟨by omega, ?_⟩
      refine hK _ ?_; clear hK K
      refine hK3 _ ?_; try clear hK3 K3
      refine region_e T_ok (by decide) fun K hK => ?_
      simp [go_sem, hw]
      refine hK _ ?_; clear hK K
      refine ⟨(i + 1, j + 61), ?_, ?_, ?_⟩
      · dsimp only; omega
      · dsimp only; omega
      · refine Weaker.fzk 1 0 (by first | omega | (dsimp only; omega)) ?_ ?_ ?_
        · simp [go_sem, hst, e0, eq0]
        · first | (simp; done) | (simp; omega)
        simp [go_sem, hst, strV_append, e0, eq0]
        rw [List.take_take, Nat.min_self]
  · simp at h
    obtain rfl : i = (slotsT t).length := by omega
    have htk : (txL t nm r).take (slotsT t).length = txL t nm r := List.take_of_length_le (by omega)
    refine tr_exit ?_
    refine hK1 _ ?_; try clear hK1 K1
    refine region_k T_ok (by decide) fun K hK => ?_
    simp [go_sem, htk]
    refine call_fz [] [.ro 1 (strV (txL t nm r)), .val (.string ⟨#[32]⟩)] 1 0 (joinP (txL t nm r) (by omega) fun x hx => ?_) (by simp [go_sem, htk, htl]) (by simp) (by simp) ?_
    · exact txL_size hnm hns hx
    simp [go_sem]
    refine hK _ ?_; clear hK K
    refine tr_ret ⟨.inr rfl, ?_⟩
    simp [go_sem]
open Go Go.Sl Go.Proofs.Tryd
local instance (priority := 2000) mdI : Md := mdF
def gP : List (Nat → Int) := [fun _ => 0, fun n => if n = 0 then 1 else 0]
def fP (n : Nat) : Int := if n < 2 then 1 else 0
def rP : List Int := padT [1, 0, 1, 1]
theorem madeP : madeK passing gP fP = 4 :: rP := by decide +kernel
def tP : ByteArray := ⟨#[49,58,114,48,61,49,32,49,58,114,49,61,48,32,120,61,49,32,121,61,49]⟩
theorem txt_passing : joinT (txL passing numS rP) ⟨#[32]⟩ = tP := by decide +kernel
theorem uvs_hang (f : Nat → Int) : hangC f = [uV (f 0), uV (f 1), uV (f 2), uV (f 3), uV (f 4), uV (f 5), uV (f 6), uV (f 7)] := rfl
theorem rd_passing : ∀ l ∈ passing.ths, ∀ x ∈ l, setB x.op = true → 0 ≤ x.rd ∧ x.rd < 8 := by decide +kernel
theorem th_passing : ∀ x ∈ passing.ths, x.length ≤ 1000 := by decide +kernel
theorem made_passing : Sl.Pf Tryd.prog 15 [.rp passing.cs 0, .ro 8 (usRows gP), .agg (hangC fP)] (.agg (iV 4 :: uVs rP)) := by
 have := (made_pf passing (by decide +kernel) th_passing rd_passing (by decide +kernel) gP rfl fP).lo
 rw [madeP, stK_cons] at this
 exact this
theorem text_passing : Sl.Pf Tryd.prog 21 [.rp passing.cs 0, .agg (iV 4 :: uVs rP)] (.val (.string tP)) := by
 rw [← txt_passing]
 refine text_pf passing (by decide +kernel) th_passing rd_passing (by decide +kernel) (by decide +kernel) numS (fun n => Nat.le_trans (numS_size n) (by decide)) 4 rP rfl (fun n hn => (itoa_num n (by omega)).lo) fun v hv => ?_
 have h : ∀ v ∈ rP, v = 0 ∨ v = 1 := by decide +kernel
 rcases h v hv with rfl | rfl
 ·exact (fmtUint_num 0 (by decide)).lo
 ·exact (fmtUint_num 1 (by decide)).lo
set_option maxRecDepth 100000 in
set_option maxHeartbeats 8000000 in
theorem awake12  : Sl.Pf Tryd.prog 10 [] (bV true) := by
 refine Pf.of_fn .nil (.val _) ?_
 refine fn_in T_ok func10 rfl rfl ntmps10 rfl (by simp) ?_
 refine region_k T_ok (by decide) fun K hK => ?_
 simp [go_sem]
 refine hK _ ?_; clear hK K
 refine region_k T_ok (by decide) fun K hK => ?_
 simp [go_sem]
 refine call_pf passing_pf.lo ?_
 simp [go_sem, Tst.cs]
 refine hK _ ?_; clear hK K
 refine Tr.weaken (Weaker.fz (H' := []) (t' := [(1, .rp passing.cs 0)]) 1 0 ?_ ?_ ?_) ?_
 ·simp [go_sem, Tst.cs]
 ·simp
 ·simp
 refine region_k T_ok (by decide) fun K hK => ?_
 simp [go_sem]
 refine call_fz [] [.rp passing.cs 0, .ro 8 (usRows gP), .agg (hangC fP)] 1 0 made_passing (by simp [go_sem, usRows, gP, uvs_hang, fP]) (by simp) (by simp) ?_
 have hrl : rP.length = 40 := rfl
 simp [go_sem, hrl, us_ones]
 refine hK _ ?_; clear hK K
 refine region_k T_ok (by decide) fun K hK => ?_
 have hst : List.take 41 (iV 4 :: uVs rP) = iV 4 :: uVs rP := rfl
 simp [go_sem, hst]
 refine call_pf text_passing ?_
 rw [← tP]
 simp [go_sem]
 refine hK _ ?_; clear hK K
 refine tr_ret ⟨.inr rfl, ?_⟩
 simp [go_sem]
end Go.Proofs.YtjhnpebgfjefoaaDoor
namespace Go.Sl
open Go.ChangeShapes Go.RowKit Go.WideShapes
section
local instance (priority := 2000) mdQ : Md := mdF
theorem law_laid {C : Checked} {os : Os} {f : FuncId} {fn : Func} {s : ChangeSpec} {α : Type} {ok : α → Prop} {g : α → List V} {rt : TypeId} {X : World → Prop} (hX : ∀ w w' : World, w.heap = w'.heap → X w → X w') (own : ownKnob C.prog.godebug = none) (started : os.Started) (noInit : C.prog.inits.idxOf? f = none) (hfn : C.prog.funcs[f]? = some fn)
    (hl : laidOutB C.prog = true) (hts : (fn.params.toList.all fun t => C.prog.readableRec t && decide (t < C.prog.types.size)) = true) (hrt : fn.resultTypes = #[rt]) (hbool : C.prog.underlying rt = some .bool) (hvars : s.vars = [])
    (hspec : ∀ (H : Type) (ds : List (DataW H)), ds.length = fn.params.size → s.fn H ds = { results := [.lit (.bool true)], args := ds }) {H : Type} {enc : TypeId × Value → H} {conds : List PathCond}
    (witness : ∃ (w : World) (tape : Tape) (i : Input), w.os = os ∧ (w.forCall tape i).Shaped C.prog ∧ i.vars = [] ∧ Input.okWide C.prog (w.forCall tape i) .any w.heap.size f i ∧
      ((s.pre enc C.prog fn conds false (w.forCall tape i).memory i.args ∧ X (w.forCall tape i).memory) ∧ sizedMet enc C.prog fn (OpenSpec.ofChange s) false (w.forCall tape i).memory i.args) ∧ Assume.holds {} C.prog (lone (Frame.enter C.prog f i.args .normal) [] (w.forCall tape i)))
    (ha : ArgsAs C.prog fn.params.toList ok g) (hp : ∀ a, ok a → Pf C.prog f (g a) (.val (.bool true))) :
    ReturnsInHanded {} C os f .any (fun w args => (s.pre enc C.prog fn conds false w args ∧ X w) ∧ sizedMet enc C.prog fn (OpenSpec.ofChange s) false w args) (s.post enc C.prog fn false true false false) := by
  refine returnsInHanded_of_change_and (X := fun w _ => X w) (fun w w' _ hh h => hX w w' hh h) own started noInit hfn witness ?_
  intro W base args ds gs before hval hW _ _ _ _
  have hW' := hW
  obtain ⟨p, q, hA, hV, rfl, hfz, hnd⟩ := hW
  rw [hvars] at hV
  obtain ⟨rfl, rfl, rfl⟩ := trodVars_none hV
  obtain ⟨a, hok, hv⟩ := ha.imp hA fun j t v h1 h2 => ⟨base, hval j t v (by simpa using h1) (by simpa using h2)⟩
  refine ((hp a hok).calls noN No W args.toList (fun _ h => False.elim h) hv).mono ?_
  rintro e W' ⟨cv, he, hr, h1, h2, h3, h4, h5⟩
  have hcv : cv = .bool true := by cases hr; rfl
  subst hcv
  have bel : Below W.heap.size W W' := ⟨h1, h2.1, h3, h4, fun k hk => h5 k hk⟩
  have hlen := trodAll_length hA
  have hs := hspec H ds (by simpa using hlen)
  refine ⟨_, he, ds, [], p ++ [], [], p, [], hW', ?_, ?_, ?_, bel.frame _, fun h => by cases h⟩
  · rw [hrt, List.append_nil, hs]
    exact trodAll_mk1 (shut_bool hbool _)
  · rw [List.append_nil, hs]
    exact trodAll_stays hl bel hts hA
  · rw [List.append_nil, hs, hvars]
    rfl
end
end Go.Sl
namespace Go.Proofs.YtjhnpebgfjefoaaDoor
open Go Go.Sl Go.Proofs.Tryd
attribute [go_sem] stR_len
@[go_sem] theorem stR_get (l : List (List Int)) (i : Nat) (h : i < (stR l).length) : (stR l)[i] = .agg (stK (l[i]'(by simpa [stR] using h))) := by simp [stR]
@[go_sem] theorem stR_get? (l : List (List Int)) (i : Nat) : (stR l)[i]? = (l[i]?).map fun k => .agg (stK k) := by simp [stR]
theorem nl_stR (l : List (List Int)) : NL (.ro 41 (stR l)) := .ro fun v hv => by obtain ⟨k, _, rfl⟩ := List.mem_map.1 hv; exact nl_stK k
theorem nl_fn (f : Fn) : NL (.fn f [] []) := fun _ _ _ _ _ h => by cases h with | fn h1 h2 => cases h1; cases h2; exact .fn .nil .nil
theorem mid_eq (a b : Nat) (h : a + b < 4611686018427387904) : IntKind.i64.wrap (sr64 (IntKind.u64.wrap (IntKind.i64.wrap ((a : Int) + (b : Int)))) 1) = ((a + b) / 2 : Nat) := by
 rw [wrap_i64 (x := (a : Int) + (b : Int)) (by omega) (by omega), wrap_u64 (x := (a : Int) + (b : Int)) (by omega) (by omega)]
 have : sr64 ((a : Int) + (b : Int)) 1 = ((a + b) / 2 : Nat) := by
  simp only [sr64]
  rw [show (2 : Int) ^ (min (1 : Int).toNat 64) = 2 by rfl, Int.fdiv_eq_ediv_of_nonneg _ (by omega)]
  omega
 rw [this, wrap_i64 (by omega) (by omega)]
def posL (x : List Int) (l : List (List Int)) : Nat := (l.filter fun y => ltL y x).length
theorem posL_of {x : List Int} : ∀ {l : List (List Int)} {n : Nat}, n ≤ l.length → (∀ i q, i < n → l[i]? = some q → ltL q x = true) → (∀ i q, n ≤ i → l[i]? = some q → ltL q x = false) → posL x l = n
 | [], n, hn, _, _ => by simp at hn; subst hn; rfl
 | y :: l, 0, _, _, h => by
  have h0 := h 0 y (Nat.le_refl _) rfl
  have := posL_of (l := l) (n := 0) (Nat.zero_le _) (fun i q hi => absurd hi (by omega)) (fun i q _ hq => h (i + 1) q (Nat.zero_le _) hq)
  simp only [posL, List.filter_cons, h0] at this ⊢
  simpa using this
 | y :: l, n + 1, hn, h1, h => by
  have h0 := h1 0 y (by omega) rfl
  have := posL_of (l := l) (n := n) (by simpa using hn) (fun i q hi hq => h1 (i + 1) q (by omega) hq) (fun i q hi hq => h (i + 1) q (by omega) hq)
  simp only [posL, List.filter_cons, h0] at this ⊢
  simpa using this
theorem rising_lt {l : List (List Int)} (hr : Rising l) {i j : Nat} (hij : i < j) {p q : List Int} (hp : l[i]? = some p) (hq : l[j]? = some q) : ltL p q = true := by
 obtain ⟨h1, rfl⟩ := List.getElem?_eq_some_iff.1 hp
 obtain ⟨h2, rfl⟩ := List.getElem?_eq_some_iff.1 hq
 exact List.pairwise_iff_getElem.1 hr i j h1 h2 hij
theorem found_iff {x : List Int} {l : List (List Int)} (hr : Rising l) {n : Nat} (h1 : ∀ i q, i < n → l[i]? = some q → ltL q x = true) (h2 : ∀ i q, n ≤ i → l[i]? = some q → ltL q x = false) : x ∈ l ↔ l[n]? = some x := by
 constructor
 ·intro h
  obtain ⟨i, hi, rfl⟩ := List.mem_iff_getElem.1 h
  have hg : l[i]? = some l[i] := List.getElem?_eq_getElem hi
  have hni : ¬ i < n := fun hh => by have := h1 i _ hh hg; rw [ltL_irr] at this; cases this
  rcases Nat.lt_or_ge n i with hh | hh
  ·have hn : l[n]? = some (l[n]'(by omega)) := List.getElem?_eq_getElem (by omega)
   have := rising_lt hr hh hn hg
   rw [h2 n _ (Nat.le_refl _) hn] at this; cases this
  ·obtain rfl : i = n := by omega
   exact hg
 ·exact fun h => List.mem_of_getElem? h
def Split (x : List Int) (l : List (List Int)) (a b : Nat) : Prop := a ≤ b ∧ b ≤ l.length ∧ (∀ i q, i < a → l[i]? = some q → ltL q x = true) ∧ (∀ i q, b ≤ i → l[i]? = some q → ltL q x = false)
theorem split_lo {x : List Int} {l : List (List Int)} (hr : Rising l) {a b m : Nat} (h : Split x l a b) (hm : a ≤ m) (hmb : m < b) {q : List Int} (hq : l[m]? = some q) (hlt : ltL q x = true) : Split x l (m + 1) b := by
 refine ⟨hmb, h.2.1, fun i p hi hp => ?_, h.2.2.2⟩
 rcases Nat.lt_or_ge i m with hh | hh
 ·exact ltL_trans (rising_lt hr hh hp hq) hlt
 ·obtain rfl : i = m := by omega
  rw [hp] at hq; cases hq; exact hlt
theorem split_hi {x : List Int} {l : List (List Int)} (hr : Rising l) {a b m : Nat} (h : Split x l a b) (hm : a ≤ m) (hmb : m < b) {q : List Int} (hq : l[m]? = some q) (hlt : ltL q x = false) : Split x l a m := by
 refine ⟨hm, by have := h.2.1; omega, h.2.2.1, fun i p hi hp => ?_⟩
 rcases Nat.lt_or_ge m i with hh | hh
 ·cases hpx : ltL p x with
  | false => rfl
  | true => rw [ltL_trans (rising_lt hr hh hq hp) hpx] at hlt; cases hlt
 ·obtain rfl : i = m := by omega
  rw [hp] at hq; cases hq; exact hlt
theorem split_pos {x : List Int} {l : List (List Int)} {a : Nat} (h : Split x l a a) : posL x l = a := posL_of h.2.1 h.2.2.1 h.2.2.2
theorem split_has {x : List Int} {l : List (List Int)} (hr : Rising l) {a : Nat} (h : Split x l a a) : (x ∈ l) = (l[a]? = some x) := propext (found_iff hr h.2.2.1 h.2.2.2)
set_option maxHeartbeats 4000000 in
theorem search_pf (l : List (List Int)) (h41 : ∀ q ∈ l, q.length = 41) (hr : Rising l) (hl : l.length ≤ 400000000000) (x : List Int) (hx41 : x.length = 41) : Pf Tryd.prog 71 [.ro 41 (stR l), .agg (stK x), .fn (.func 9) [] []] (.tup [iV (posL x l : Nat), bV (decide (x ∈ l))]) := by
 refine Pf.of_fn (.cons (nl_stR l) (.cons (.agg (nl_stK x)) (.cons (nl_fn _) .nil))) (.tup (.cons (.val _) (.cons (.val _) .nil))) ?_
 have hxl : (stK x).length = 41 := (stK_len x).trans hx41
 have hxt : List.take 41 (stK x) = stK x := List.take_of_length_le (by omega)
 have hxo := stK_one x
 refine fn_in T_ok func71 rfl rfl ntmps71 rfl (by simp) ?_
 refine region_k T_ok (by decide) fun K hK => ?_
 simp [go_sem, hxl]
 refine ⟨hxo, ?_⟩
 refine hK _ ?_; clear hK K
 refine region_k T_ok (by decide) fun K hK => ?_
 simp [go_sem]
 refine hK _ ?_; clear hK K
 refine region_k T_ok (by decide) fun K hK => ?_
 simp [go_sem]
 refine hK _ ?_; clear hK K
 refine seq_k fun K1 hK1 => ?_
 refine tr_block ?_
 refine loop_p (α := Nat × Nat × Nat) (fun a => ⟨49, [(0, .ro 41 (stR l)), (2, .fn (.func 9) [] []), (4, .ptr 0 0 0), (8, iV (l.length : Nat)), (9, iV (a.1 : Nat)), (10, iV (a.2.1 : Nat))], [(0, .rows 41 [.agg (stK x)])], a.2.2 + 1⟩) (fun a => Split x l a.1 a.2.1) (fun a => a.2.1 - a.1) (0, l.length, 0) ?_ ?_ ?_
 ·exact ⟨Nat.zero_le _, Nat.le_refl _, fun i q hi => absurd hi (by omega), fun i q hi hq => by rw [List.getElem?_eq_none hi] at hq; cases hq⟩
 ·refine Weaker.fz 1 0 ?_ ?_ ?_
  ·simp [go_sem]
  ·first | (simp; done) | (simp; omega)
  ·simp [go_sem]
 rintro ⟨a, b, j⟩ hsp
 dsimp only at hsp ⊢
 have hsp1 := hsp.1
 have hsp2 := hsp.2.1
 refine seq_k fun K2 hK2 => ?_
 refine region_k T_ok (by decide) fun K hK => ?_
 simp [go_sem]
 refine hK _ ?_; clear hK K
 refine cond_k rfl (fun h => ?_) (fun h => ?_)
 ·simp at h
  have hab : a < b := by omega
  clear h
  have hmid := mid_eq a b (by omega)
  obtain ⟨m, hm⟩ : ∃ m, (a + b) / 2 = m := ⟨_, rfl⟩
  rw [hm] at hmid
  have hm1 : a ≤ m ∧ m < b := by omega
  clear hm
  have hh : m < l.length := by omega
  obtain ⟨q, hq, hq'⟩ := getAt hh
  have hhI : (m : Int) < (l.length : Nat) := by omega
  have hh0 : (0 : Int) ≤ (m : Nat) := by omega
  have hw : IntKind.i64.wrap ((m : Nat) + 1) = (m : Nat) + 1 := wrap_i64 (by omega) (by omega)
  have hql : (stK q).length = 41 := (stK_len q).trans (h41 q (List.mem_of_getElem? hq))
  have hqo : ∀ x ∈ stK q, x.one = true := stK_one q
  have hqt : List.take 41 (stK q) = stK q := List.take_of_length_le (by omega)
  refine tr_skip ?_
  refine hK2 _ ?_; try clear hK2 K2
  refine tr_block ?_
  refine region_k T_ok (by decide) fun K hK => ?_
  simp [go_sem, hmid]
  refine hK _ ?_; clear hK K
  refine draw_k T_ok (by kernel_rfl) 6 [[], [], [], [1, 2], [1, 2, 3], [], [0, 1, 2, 3, 4, 5], [0, 1, 2, 3, 4, 5, 6]] [] (by decide) (by decide) (by decide) fun K hK => ?_
  first | dsimp only [List.take, List.drop] | dsimp [List.take, List.drop]
  simp [go_sem, hq, hq', hhI, hh0, hh, hxl, hxt, hxo, hql, hqt, hqo]
  refine call_pf (compare_pf q x (h41 q (List.mem_of_getElem? hq)) hx41) ?_
  simp [go_sem]
  refine hK _ ?_; clear hK K
  refine cond_k rfl (fun h => ?_) (fun h => ?_)
  ·have hlt : ltL q x = true := by simpa [ltL] using h
   refine region_e T_ok (by decide) fun K hK => ?_
   simp [go_sem, hw]
   refine hK _ ?_; clear hK K
   refine ⟨(m + 1, b, j + 6), ?_, ?_, ?_⟩
   ·dsimp only; exact split_lo hr hsp (by omega) (by omega) hq hlt
   ·dsimp only; omega
   ·refine Weaker.fz 1 0 ?_ ?_ ?_
    ·simp [go_sem]
    ·first | (simp; done) | (simp; omega)
    simp [go_sem]
  ·have hlt : ltL q x = false := by simpa [ltL] using h
   refine region_e T_ok (by decide) fun K hK => ?_
   simp [go_sem]
   refine hK _ ?_; clear hK K
   refine ⟨(a, m, j + 6), ?_, ?_, ?_⟩
   ·dsimp only; exact split_hi hr hsp (by omega) (by omega) hq hlt
   ·dsimp only; omega
   ·refine Weaker.fz 1 0 ?_ ?_ ?_
    ·simp [go_sem]
    ·first | (simp; done) | (simp; omega)
    simp [go_sem]
 ·simp at h
  obtain rfl : a = b := by omega
  refine tr_exit ?_
  refine hK1 _ ?_; try clear hK1 K1
  refine draw_k T_ok (by kernel_rfl) 15 [[], [], [], [1, 2], [1, 2, 3], [1, 2, 3, 4], [1, 2, 3, 4], [1, 2, 3, 4], [1, 2, 3, 4, 6, 7], [1, 2, 3, 4, 6, 7, 8], [1, 2, 3, 4], [1, 2, 3, 4, 5, 6, 7, 8, 9, 10], [1, 2, 3, 4, 5, 6, 7, 8, 9, 10, 11], [1, 2, 3, 4, 5, 6, 7, 8, 9, 10, 11, 12], [0, 1, 2, 3, 4, 5, 6, 7, 8, 9, 10, 11], [0, 1, 2, 3, 4, 5, 6, 7, 8, 9, 10, 11, 12, 13, 14]] [] (by decide) (by decide) (by decide) fun K hK => ?_
  first | dsimp only [List.take, List.drop] | dsimp [List.take, List.drop]
  rcases Nat.lt_or_ge a l.length with hh | hh
  ·obtain ⟨q, hq, hq'⟩ := getAt hh
   have hhI : (a : Int) < (l.length : Nat) := by omega
   have hh0 : (0 : Int) ≤ (a : Nat) := by omega
   have hql : (stK q).length = 41 := (stK_len q).trans (h41 q (List.mem_of_getElem? hq))
   have hqo : ∀ x ∈ stK q, x.one = true := stK_one q
   have hqt : List.take 41 (stK q) = stK q := List.take_of_length_le (by omega)
   simp [go_sem, hq, hq', hhI, hh0, hh, hxl, hxt, hxo, hql, hqt, hqo]
   refine callD_of (compare_pf q x (h41 q (List.mem_of_getElem? hq)) hx41) ?_
   simp [go_sem, hq, hq', hhI, hh0, hh, hxl, hxt, hxo, hql, hqt, hqo]
   refine hK _ ?_; clear hK K
   refine tr_ret ⟨.inr rfl, ?_⟩
   have hc : (cmpL q x == 0) = decide (q = x) := by
    rw [Bool.eq_iff_iff]
    simp
    exact ⟨cmpL_zero, fun h => by rw [h]; exact cmpL_self x⟩
   simp [go_sem, split_pos hsp, split_has hr hsp, hq, hc]
  ·have hhI : ¬ (a : Int) < (l.length : Nat) := by omega
   have hhn : ¬ a < l.length := by omega
   have hq : l[a]? = none := List.getElem?_eq_none hh
   simp [go_sem, hhI, hhn]
   refine hK _ ?_; clear hK K
   refine tr_ret ⟨.inr rfl, ?_⟩
   simp [go_sem, split_pos hsp, split_has hr hsp, hq]
open Go Go.Sl Go.Proofs.Tryd
theorem has_pf (l : List (List Int)) (h41 : ∀ q ∈ l, q.length = 41) (hr : Rising l) (hl : l.length ≤ 400000000000) (x : List Int) (hx41 : x.length = 41) : Pf Tryd.prog 33 [.ro 41 (stR l), .agg (stK x)] (bV (decide (x ∈ l))) := by
 refine Pf.of_fn (.cons (nl_stR l) (.cons (.agg (nl_stK x)) .nil)) (.val _) ?_
 have hxl : (stK x).length = 41 := (stK_len x).trans hx41
 have hxt : List.take 41 (stK x) = stK x := List.take_of_length_le (by omega)
 have hxo := stK_one x
 refine fn_in T_ok func33 rfl rfl ntmps33 rfl (by simp) ?_
 refine region_k T_ok (by decide) fun K hK => ?_
 simp [go_sem, hxl]
 refine ⟨hxo, ?_⟩
 refine hK _ ?_; clear hK K
 refine region_k T_ok (by decide) fun K hK => ?_
 simp [go_sem, hxl, hxt]
 refine call_pf (search_pf l h41 hr hl x hx41) ?_
 simp [go_sem]
 refine hK _ ?_; clear hK K
 refine region_k T_ok (by decide) fun K hK => ?_
 simp [go_sem]
 refine hK _ ?_; clear hK K
 refine tr_ret ⟨.inr rfl, ?_⟩
 simp [go_sem]
theorem within_pf (s : List (List Int)) (hs41 : ∀ q ∈ s, q.length = 41) (hsl : s.length ≤ 400000000000) (l : List (List Int)) (h41 : ∀ q ∈ l, q.length = 41) (hr : Rising l) (hl : l.length ≤ 400000000000) : Pf Tryd.prog 32 [.ro 41 (stR s), .ro 41 (stR l)] (bV (decide (∀ x ∈ s, x ∈ l))) := by
 refine Pf.of_fn (.cons (nl_stR s) (.cons (nl_stR l) .nil)) (.val _) ?_
 refine fn_in T_ok func32 rfl rfl ntmps32 rfl (by simp) ?_
 refine region_k T_ok (by decide) fun K hK => ?_
 simp [go_sem]
 refine hK _ ?_; clear hK K
 refine seq_k fun K1 hK1 => ?_
 refine region_k T_ok (by decide) fun K hK => ?_
 simp [go_sem]
 refine hK _ ?_; clear hK K
 refine tr_block ?_
 refine loop_p (α := Nat × Nat) (fun a => ⟨18, [(1, .ro 41 (stR l)), (7, .ro 41 (stR s)), (8, iV (s.length : Nat)), (9, iV (a.1 : Nat))], [], a.2⟩) (fun a => a.1 ≤ s.length ∧ ∀ i q, i < a.1 → s[i]? = some q → q ∈ l) (fun a => s.length - a.1) (0, 0) ?_ ?_ ?_
 ·exact ⟨Nat.zero_le _, fun i q hi => absurd hi (Nat.not_lt_zero _)⟩
 ·refine Weaker.fz 1 0 ?_ ?_ ?_
  ·simp [go_sem]
  ·first | (simp; done) | (simp; omega)
  ·simp [go_sem]
 rintro ⟨i, j⟩ ⟨hi, hall⟩
 dsimp only at hi hall ⊢
 refine region_k T_ok (by decide) fun K hK => ?_
 simp [go_sem]
 refine hK _ ?_; clear hK K
 refine seq_k fun K2 hK2 => ?_
 refine cond_k rfl (fun h => ?_) (fun h => ?_)
 ·simp at h
  have hI := h
  clear h
  have h' : i < s.length := by omega
  obtain ⟨x, hx, hx'⟩ := getAt h'
  have hi0 : (0 : Int) ≤ (i : Nat) := by omega
  have hw : IntKind.i64.wrap ((i : Nat) + 1) = (i : Nat) + 1 := wrap_i64 (by omega) (by omega)
  have hq41 := hs41 x (List.mem_of_getElem? hx)
  have hxl : (stK x).length = 41 := (stK_len x).trans hq41
  have hxt : List.take 41 (stK x) = stK x := List.take_of_length_le (by omega)
  have hxo := stK_one x
  refine tr_skip ?_
  refine hK2 _ ?_; try clear hK2 K2
  refine seq_k fun K3 hK3 => ?_
  refine tr_block ?_
  refine region_k T_ok (by decide) fun K hK => ?_
  simp [go_sem, hI, hi0, h', hx, hx', hxl, hxt]
  refine ⟨hxo, ?_⟩
  refine hK _ ?_; clear hK K
  refine region_k T_ok (by decide) fun K hK => ?_
  simp [go_sem, hxl, hxt]
  refine call_pf (has_pf l h41 hr hl x hq41) ?_
  simp [go_sem]
  refine hK _ ?_; clear hK K
  refine cond_k rfl (fun h => ?_) (fun h => ?_)
  ·have hm : x ∉ l := by simpa using h
   refine region_k T_ok (by decide) fun K hK => ?_
   simp [go_sem]
   refine hK _ ?_; clear hK K
   refine tr_ret ⟨.inr rfl, ?_⟩
   have hn : ¬ ∀ x ∈ s, x ∈ l := fun h => hm (h x (List.mem_of_getElem? hx))
   simp [go_sem, hn]
  ·have hm : x ∈ l := by simpa using h
   refine tr_skip ?_
   refine hK3 _ ?_; try clear hK3 K3
   refine region_e T_ok (by decide) fun K hK => ?_
   simp [go_sem, hw]
   refine hK _ ?_; clear hK K
   refine ⟨(i + 1, j + 1), ?_, ?_, ?_⟩
   ·dsimp only; exact ⟨by omega, fun i2 q2 h2 hq2 => by rcases Nat.lt_or_ge i2 i with h | h; exact hall i2 q2 h hq2; obtain rfl : i2 = i := (by omega); rw [hx] at hq2; cases hq2; exact hm⟩
   ·dsimp only; omega
   ·refine Weaker.fz 1 0 ?_ ?_ ?_
    ·simp [go_sem]
    ·first | (simp; done) | (simp; omega)
    simp [go_sem]
 ·simp at h
  obtain rfl : i = s.length := by omega
  clear h
  refine tr_exit ?_
  refine hK1 _ ?_; try clear hK1 K1
  refine region_k T_ok (by decide) fun K hK => ?_
  simp [go_sem]
  refine hK _ ?_; clear hK K
  refine tr_ret ⟨.inr rfl, ?_⟩
  have hy : ∀ x ∈ s, x ∈ l := fun x hx => by obtain ⟨i, hi, rfl⟩ := List.mem_iff_getElem.1 hx; exact hall i _ hi (List.getElem?_eq_getElem hi)
  simp [go_sem]
  exact hy
open Go Go.Sl Go.Proofs.Tryd
def okAt (n : Int) (s : List (List Int)) (i : Nat) (m : Int) (r : List Int) : Prop := m = n ∧ 0 ≤ n ∧ n ≤ 40 ∧ (∀ p, 0 < i → s[i - 1]? = some p → cmpL p (m :: r) < 0) ∧ ∀ (k : Nat) (v : Int), n ≤ (k : Int) → r[k]? = some v → v = 0
def goodS (n : Int) (s : List (List Int)) : Prop := ∀ i m r, s[i]? = some (m :: r) → okAt n s i m r
set_option maxHeartbeats 4000000 in
set_option maxRecDepth 100000 in
open Classical in
theorem good_pf (n : Int) (s : List (List Int)) (h41 : ∀ q ∈ s, q.length = 41) (hl : s.length ≤ 400000000000) : Pf Tryd.prog 11 [.ro 41 (stR s), iV n] (bV (decide (goodS n s))) := by
 refine Pf.of_fn (.cons (nl_stR s) (.cons (.val _) .nil)) (.val _) ?_
 refine fn_in T_ok func11 rfl rfl ntmps11 rfl (by simp) ?_
 refine region_k T_ok (by decide) fun K hK => ?_
 simp [go_sem]
 refine hK _ ?_; clear hK K
 refine seq_k fun K1 hK1 => ?_
 refine region_k T_ok (by decide) fun K hK => ?_
 simp [go_sem]
 refine hK _ ?_; clear hK K
 refine tr_block ?_
 refine loop_p (α := Nat × Nat) (fun a => ⟨54, [(0, .ro 41 (stR s)), (1, iV n), (9, .ro 41 (stR s)), (10, iV (s.length : Nat)), (11, iV (a.1 : Nat))], [], a.2⟩) (fun a => a.1 ≤ s.length ∧ ∀ i m r, i < a.1 → s[i]? = some (m :: r) → okAt n s i m r) (fun a => s.length - a.1) (0, 0) ?_ ?_ ?_
 ·exact ⟨Nat.zero_le _, fun i m r hi => absurd hi (Nat.not_lt_zero _)⟩
 ·refine Weaker.fzk 1 0 (by first | omega | (dsimp only; omega)) ?_ ?_ ?_
  ·simp [go_sem]
  ·first | (simp; done) | (simp; omega)
  ·simp [go_sem]
 rintro ⟨i, j⟩ ⟨hi, hall⟩
 dsimp only at hi hall ⊢
 refine region_k T_ok (by decide) fun K hK => ?_
 simp [go_sem]
 refine hK _ ?_; clear hK K
 refine seq_k fun K2 hK2 => ?_
 refine cond_k rfl (fun h => ?_) (fun h => ?_)
 ·simp at h
  have hI := h
  clear h
  have h' : i < s.length := by omega
  obtain ⟨x, hx, hx'⟩ := getAt h'
  have hi0 : (0 : Int) ≤ (i : Nat) := by omega
  have hw : IntKind.i64.wrap ((i : Nat) + 1) = (i : Nat) + 1 := wrap_i64 (by omega) (by omega)
  have hq41 := h41 x (List.mem_of_getElem? hx)
  have hxl : (stK x).length = 41 := (stK_len x).trans hq41
  have hxt : List.take 41 (stK x) = stK x := List.take_of_length_le (by omega)
  have hxo := stK_one x
  refine tr_skip ?_
  refine hK2 _ ?_; try clear hK2 K2
  refine seq_k fun K3 hK3 => ?_
  refine tr_block ?_
  refine region_k T_ok (by decide) fun K hK => ?_
  simp [go_sem, hI, hi0, h', hx, hx', hxl, hxt]
  refine ⟨hxo, ?_⟩
  obtain ⟨m, r, rfl⟩ : ∃ m r, x = m :: r := by cases x with | nil => cases hq41 | cons m r => exact ⟨m, r, rfl⟩
  have hrl : r.length = 40 := by simpa using hq41
  have hrt : List.take 40 r = r := List.take_of_length_le (by omega)
  rw [stK_cons] at hxl hxt hxo ⊢
  refine hK _ ?_; clear hK K
  refine seq_k fun K4 hK4 => ?_
  refine draw_k T_ok (by kernel_rfl) 22 [[], [0], [], [0, 1, 2], [0, 1, 2, 3], [0, 1, 2, 3, 4], [0, 1, 2, 3, 4, 5], [0, 1, 2, 3, 4, 5, 6], [0, 1, 2, 3, 4, 5, 6, 7], [0, 1, 2, 3, 4, 5, 6, 7, 8], [0, 1, 2, 3, 4, 5, 6, 7, 8, 9], [0, 1, 2, 3, 4, 5, 6, 7, 8, 9, 10], [0, 1, 2, 3, 4, 5, 6, 7, 8, 9, 10, 11], [0, 1, 2, 3, 4, 5, 6, 7, 8, 9, 10, 11, 12], [0, 1, 2, 3, 4, 5, 6, 7, 8, 9, 10, 11, 12, 13], [0, 1, 2, 3, 4, 5, 6, 7, 8, 9, 10, 11, 12, 13, 14], [0, 1, 2, 3, 4, 5, 6, 7, 8, 9, 10, 11, 12, 13, 14, 15], [0, 1, 2, 3, 4, 5, 6, 7, 8, 9, 10, 11, 12, 13, 14, 15], [0, 1, 2, 3, 4, 5, 6, 7, 8, 9, 10, 11, 12, 13, 14, 15, 17], [0, 1, 2, 3, 4, 5, 6, 7, 8, 9, 10, 11, 12, 13, 14, 15, 16, 17, 18], [0, 1, 2, 3, 4, 5, 6, 7, 8, 9, 10, 11, 12, 13, 14, 15, 16, 17, 18, 19], [0, 1, 2, 3, 4, 5, 6, 7, 8, 9, 10, 11, 12, 13, 14, 15], [0, 1, 2, 3, 4, 5, 6, 7, 8, 9, 10, 11, 12, 13, 14, 15, 16, 17, 18, 19, 20, 21], [0, 1, 2, 3, 4, 5, 6, 7, 8, 9, 10, 11, 12, 13, 14, 15, 16, 17, 18, 19, 20, 21, 22], [0, 1, 2, 3, 4, 5, 6, 7, 8, 9, 10, 11, 12, 13, 14, 15, 16, 17, 18, 19, 20, 21, 22, 23], [0, 1, 2, 3, 4, 5, 6, 7, 8, 9, 10, 11, 12, 13, 14, 15, 16, 17, 18, 19, 20, 21, 22, 23, 24]] [] (by decide) (by decide) (by decide) fun K hK => ?_
  first | dsimp only [List.take, List.drop] | dsimp [List.take, List.drop]
  have hcase : (m ≠ n) ∨ (m = n ∧ n < 0) ∨ (m = n ∧ 0 ≤ n ∧ 40 < n) ∨ (m = n ∧ 0 ≤ n ∧ n ≤ 40 ∧ i = 0) ∨ (m = n ∧ 0 ≤ n ∧ n ≤ 40 ∧ 0 < i) := by omega
  rcases hcase with h1 | ⟨rfl, h1⟩ | ⟨rfl, h0, h1⟩ | ⟨rfl, h0, h1, h6⟩ | ⟨rfl, h0, h1, h2⟩
  ·simp [go_sem, h1]
   refine hK _ ?_; clear hK K
   refine cond_k rfl (fun h => ?_) (fun h => ?_)
   ·clear h
    refine region_k T_ok (by decide) fun K hK => ?_
    simp [go_sem]
    refine hK _ ?_; clear hK K
    refine tr_ret ⟨.inr rfl, ?_⟩
    have hng : ¬ goodS n s := fun h => h1 (h i m r hx).1
    simp [go_sem, hng]
   ·simp at h
  ·simp [go_sem, h1]
   refine hK _ ?_; clear hK K
   refine cond_k rfl (fun h => ?_) (fun h => ?_)
   ·clear h
    refine region_k T_ok (by decide) fun K hK => ?_
    simp [go_sem]
    refine hK _ ?_; clear hK K
    refine tr_ret ⟨.inr rfl, ?_⟩
    have hng : ¬ goodS m s := fun h => absurd (h i _ r hx).2.1 (by omega)
    simp [go_sem, hng]
   ·simp at h
  ·have h2 : ¬ m < 0 := by omega
   simp [go_sem, h1, h2]
   refine hK _ ?_; clear hK K
   refine cond_k rfl (fun h => ?_) (fun h => ?_)
   ·clear h
    refine region_k T_ok (by decide) fun K hK => ?_
    simp [go_sem]
    refine hK _ ?_; clear hK K
    refine tr_ret ⟨.inr rfl, ?_⟩
    have hng : ¬ goodS m s := fun h => absurd (h i _ r hx).2.2.1 (by omega)
    simp [go_sem, hng]
   ·simp at h
  ·have h2 : ¬ m < 0 := by omega
   have h3 : ¬ 40 < m := by omega
   have h7 : ¬ 0 < i := by omega
   have h5 : ¬ (0 : Int) < (i : Nat) := by omega
   have hprev : ∀ p, 0 < i → s[i - 1]? = some p → cmpL p (m :: r) < 0 := fun p h => absurd h h7
   simp [go_sem, h2, h3, h5, h7]
   refine hK _ ?_; clear hK K
   refine cond_k rfl (fun h => ?_) (fun h => ?_)
   ·simp at h
   ·clear h
    refine tr_skip ?_
    refine hK4 _ ?_; try clear hK4 K4
    refine region_k T_ok (by decide) fun K hK => ?_
    obtain ⟨c, rfl⟩ : ∃ c : Nat, m = c := ⟨m.toNat, by omega⟩
    rcases Nat.lt_or_ge c 40 with hc | hc
    ·have hc1 : (c : Int) ≤ 40 := by omega
     have hc2 : ¬ (c : Int) = 40 := by omega
     have hs1 : List.drop (1 + c) (iV (c : Nat) :: uVs r) = uVs (r.drop c) := by rw [Nat.add_comm, List.drop_succ_cons, uVs_drop]
     have hs2 : List.take (40 - c) (uVs (r.drop c)) = uVs (r.drop c) := List.take_of_length_le (by simp [uVs, hrl])
     have hs4 : 1 + c + (40 - c) ≤ r.length + 1 := by omega
     simp [go_sem, hc1, hc2]
     refine hK _ ?_; clear hK K
     refine tr_block ?_
     refine loop_p (α := Nat) (fun a => ⟨54, [(0, .ro 41 (stR s)), (1, iV (c : Nat)), (9, .ro 41 (stR s)), (10, iV (s.length : Nat)), (11, iV (i : Nat)), (44, .ro 1 (uVs (r.drop c))), (45, iV ((40 - c : Nat))), (46, iV (a : Nat))], [], j + 60⟩) (fun a => a ≤ 40 - c ∧ ∀ k v, k < a → (r.drop c)[k]? = some v → v = 0) (fun a => 40 - c - a) 0 ?_ ?_ ?_
     ·exact ⟨Nat.zero_le _, fun k v hk => absurd hk (Nat.not_lt_zero _)⟩
     ·refine Weaker.fzk 1 0 (by first | omega | (dsimp only; omega)) ?_ ?_ ?_
      ·simp [go_sem, hs1, hs2, hc2, hs4]
      ·first | (simp; done) | (simp; omega)
      ·simp [go_sem, hs1, hs2, hc2, hs4]
     rintro b ⟨hb, hz⟩
     skip
     refine region_k T_ok (by decide) fun K hK => ?_
     simp [go_sem]
     refine hK _ ?_; clear hK K
     refine seq_k fun K5 hK5 => ?_
     refine cond_k rfl (fun h => ?_) (fun h => ?_)
     ·simp at h
      have hbI := h
      clear h
      have hb' : b < 40 - c := by omega
      obtain ⟨v, hv, hv'⟩ := getAt (l := r.drop c) (i := b) (by simp; omega)
      have hv2 := hv
      have hb0 : (0 : Int) ≤ (b : Nat) := by omega
      have hw2 : IntKind.i64.wrap ((b : Nat) + 1) = (b : Nat) + 1 := wrap_i64 (by omega) (by omega)
      refine tr_skip ?_
      refine hK5 _ ?_; try clear hK5 K5
      refine seq_k fun K6 hK6 => ?_
      refine tr_block ?_
      refine region_k T_ok (by decide) fun K hK => ?_
      simp [go_sem, hbI, hb0, hv, hv', hb']
      refine ⟨by omega, ?_⟩
      refine hK _ ?_; clear hK K
      refine region_k T_ok (by decide) fun K hK => ?_
      simp [go_sem]
      refine hK _ ?_; clear hK K
      refine cond_k rfl (fun h => ?_) (fun h => ?_)
      ·have hv0 : ¬ v = 0 := by simpa using h
       refine region_k T_ok (by decide) fun K hK => ?_
       simp [go_sem]
       refine hK _ ?_; clear hK K
       refine tr_ret ⟨.inr rfl, ?_⟩
       have hng : ¬ goodS c s := fun h => hv0 ((h i _ r hx).2.2.2.2 (c + b) v (by omega) (by rw [← List.getElem?_drop]; exact hv2))
       simp [go_sem, hng]
      ·have hv0 : v = 0 := by simpa using h
       refine tr_skip ?_
       refine hK6 _ ?_; try clear hK6 K6
       refine region_e T_ok (by decide) fun K hK => ?_
       simp [go_sem, hw2]
       refine hK _ ?_; clear hK K
       refine ⟨b + 1, ?_, ?_, ?_⟩
       ·exact ⟨by omega, fun k u hk hu => by rcases Nat.lt_or_ge k b with h | h; exact hz k u h hu; obtain rfl : k = b := (by omega); have e := Option.some.inj (hv2.symm.trans hu); rw [← e]; exact hv0⟩
       ·omega
       ·refine Weaker.fzk 1 0 (by first | omega | (dsimp only; omega)) ?_ ?_ ?_
        ·simp [go_sem, hs1, hs2, hc2, hs4]
        ·first | (simp; done) | (simp; omega)
        simp [go_sem, hs1, hs2, hc2, hs4]
     ·simp at h
      obtain rfl : b = 40 - c := by omega
      clear h
      have hok : okAt c s i c r := ⟨rfl, by omega, by omega, hprev, fun k v hk hv => by
       obtain ⟨e, rfl⟩ : ∃ e, k = c + e := ⟨k - c, by omega⟩
       have hk2 := (List.getElem?_eq_some_iff.1 hv).1
       refine hz e v (by omega) ?_
       rw [List.getElem?_drop]; exact hv⟩
      refine tr_exit ?_
      refine hK3 _ ?_; try clear hK3 K3
      refine region_e T_ok (by decide) fun K hK => ?_
      simp [go_sem, hw]
      refine hK _ ?_; clear hK K
      refine ⟨(i + 1, j + 200), ?_, ?_, ?_⟩
      ·dsimp only; exact ⟨by omega, fun i2 m2 r2 h2 hq2 => by rcases Nat.lt_or_ge i2 i with h | h; exact hall i2 m2 r2 h hq2; obtain rfl : i2 = i := (by omega); rw [hx] at hq2; cases hq2; exact hok⟩
      ·dsimp only; omega
      ·refine Weaker.fzk 1 0 (by first | omega | (dsimp only; omega)) ?_ ?_ ?_
       ·simp [go_sem]
       ·first | (simp; done) | (simp; omega)
       simp [go_sem]
    ·have hs4 : True := trivial
     have hc3 : c = 40 := by omega
     have hc1 : (c : Int) ≤ 40 := by omega
     have hc2 : (c : Int) = 40 := by omega
     have hs1 : uVs (r.drop c) = [] := by rw [List.drop_of_length_le (by omega)]; rfl
     have hs2 : 40 - c = 0 := by omega
     simp [go_sem, hc1, hc2]
     refine hK _ ?_; clear hK K
     refine tr_block ?_
     refine loop_p (α := Nat) (fun a => ⟨54, [(0, .ro 41 (stR s)), (1, iV (c : Nat)), (9, .ro 41 (stR s)), (10, iV (s.length : Nat)), (11, iV (i : Nat)), (44, .ro 1 (uVs (r.drop c))), (45, iV ((40 - c : Nat))), (46, iV (a : Nat))], [], j + 60⟩) (fun a => a ≤ 40 - c ∧ ∀ k v, k < a → (r.drop c)[k]? = some v → v = 0) (fun a => 40 - c - a) 0 ?_ ?_ ?_
     ·exact ⟨Nat.zero_le _, fun k v hk => absurd hk (Nat.not_lt_zero _)⟩
     ·refine Weaker.fzk 1 0 (by first | omega | (dsimp only; omega)) ?_ ?_ ?_
      ·simp [go_sem, hs1, hs2, hc2, hs4]
      ·first | (simp; done) | (simp; omega)
      ·simp [go_sem, hs1, hs2, hc2, hs4]
     rintro b ⟨hb, hz⟩
     skip
     refine region_k T_ok (by decide) fun K hK => ?_
     simp [go_sem]
     refine hK _ ?_; clear hK K
     refine seq_k fun K7 hK7 => ?_
     refine cond_k rfl (fun h => ?_) (fun h => ?_)
     ·simp at h
      have hbI := h
      clear h
      have hb' : b < 40 - c := by omega
      obtain ⟨v, hv, hv'⟩ := getAt (l := r.drop c) (i := b) (by simp; omega)
      have hv2 := hv
      have hb0 : (0 : Int) ≤ (b : Nat) := by omega
      have hw2 : IntKind.i64.wrap ((b : Nat) + 1) = (b : Nat) + 1 := wrap_i64 (by omega) (by omega)
      refine tr_skip ?_
      refine hK7 _ ?_; try clear hK7 K7
      refine seq_k fun K8 hK8 => ?_
      refine tr_block ?_
      refine region_k T_ok (by decide) fun K hK => ?_
      simp [go_sem, hbI, hb0, hv, hv', hb']
      refine ⟨by omega, ?_⟩
      refine hK _ ?_; clear hK K
      refine region_k T_ok (by decide) fun K hK => ?_
      simp [go_sem]
      refine hK _ ?_; clear hK K
      refine cond_k rfl (fun h => ?_) (fun h => ?_)
      ·have hv0 : ¬ v = 0 := by simpa using h
       refine region_k T_ok (by decide) fun K hK => ?_
       simp [go_sem]
       refine hK _ ?_; clear hK K
       refine tr_ret ⟨.inr rfl, ?_⟩
       have hng : ¬ goodS c s := fun h => hv0 ((h i _ r hx).2.2.2.2 (c + b) v (by omega) (by rw [← List.getElem?_drop]; exact hv2))
       simp [go_sem, hng]
      ·have hv0 : v = 0 := by simpa using h
       refine tr_skip ?_
       refine hK8 _ ?_; try clear hK8 K8
       refine region_e T_ok (by decide) fun K hK => ?_
       simp [go_sem, hw2]
       refine hK _ ?_; clear hK K
       refine ⟨b + 1, ?_, ?_, ?_⟩
       ·exact ⟨by omega, fun k u hk hu => by rcases Nat.lt_or_ge k b with h | h; exact hz k u h hu; obtain rfl : k = b := (by omega); have e := Option.some.inj (hv2.symm.trans hu); rw [← e]; exact hv0⟩
       ·omega
       ·refine Weaker.fzk 1 0 (by first | omega | (dsimp only; omega)) ?_ ?_ ?_
        ·simp [go_sem, hs1, hs2, hc2, hs4]
        ·first | (simp; done) | (simp; omega)
        simp [go_sem, hs1, hs2, hc2, hs4]
     ·simp at h
      obtain rfl : b = 40 - c := by omega
      clear h
      have hok : okAt c s i c r := ⟨rfl, by omega, by omega, hprev, fun k v hk hv => by
       obtain ⟨e, rfl⟩ : ∃ e, k = c + e := ⟨k - c, by omega⟩
       have hk2 := (List.getElem?_eq_some_iff.1 hv).1
       refine hz e v (by omega) ?_
       rw [List.getElem?_drop]; exact hv⟩
      refine tr_exit ?_
      refine hK3 _ ?_; try clear hK3 K3
      refine region_e T_ok (by decide) fun K hK => ?_
      simp [go_sem, hw]
      refine hK _ ?_; clear hK K
      refine ⟨(i + 1, j + 200), ?_, ?_, ?_⟩
      ·dsimp only; exact ⟨by omega, fun i2 m2 r2 h2 hq2 => by rcases Nat.lt_or_ge i2 i with h | h; exact hall i2 m2 r2 h hq2; obtain rfl : i2 = i := (by omega); rw [hx] at hq2; cases hq2; exact hok⟩
      ·dsimp only; omega
      ·refine Weaker.fzk 1 0 (by first | omega | (dsimp only; omega)) ?_ ?_ ?_
       ·simp [go_sem]
       ·first | (simp; done) | (simp; omega)
       simp [go_sem]
  ·have h4 : ¬ m < 0 := by omega
   have h3 : ¬ 40 < m := by omega
   have h5 : (0 : Int) < (i : Nat) := by omega
   obtain ⟨q, hq⟩ : ∃ q, i - 1 = q := ⟨_, rfl⟩
   have hqs : q < s.length := by omega
   obtain ⟨p, hp, hp'⟩ := getAt hqs
   have hwm : IntKind.i64.wrap ((i : Nat) - 1) = (q : Nat) := by rw [wrap_i64 (by omega) (by omega)]; omega
   have hqI : (q : Int) < (s.length : Nat) := by omega
   have hq0 : (0 : Int) ≤ (q : Nat) := by omega
   have hp41 := h41 p (List.mem_of_getElem? hp)
   have hpl : (stK p).length = 41 := (stK_len p).trans hp41
   have hpt : List.take 41 (stK p) = stK p := List.take_of_length_le (by omega)
   have hpo := stK_one p
   simp [go_sem, h4, h3, h5, h2, hwm, hqI, hq0, hqs, hp, hp', hpl, hpt, hpo, hrl, us_one, hrt]
   refine call_pf (compare_pf p (m :: r) hp41 hq41) ?_
   simp [go_sem, h4, h3, h5, h2, hwm, hqI, hq0, hqs, hp, hp', hpl, hpt, hpo, hrl, us_one, hrt]
   refine hK _ ?_; clear hK K
   refine cond_k rfl (fun h => ?_) (fun h => ?_)
   ·have hc : ¬ cmpL p (m :: r) < 0 := by simpa using h
    refine region_k T_ok (by decide) fun K hK => ?_
    simp [go_sem]
    refine hK _ ?_; clear hK K
    refine tr_ret ⟨.inr rfl, ?_⟩
    have hng : ¬ goodS m s := fun h => hc ((h i m r hx).2.2.2.1 p h2 (by rw [hq]; exact hp))
    simp [go_sem, hng]
   ·have hc : cmpL p (m :: r) < 0 := by simpa using h
    have hprev : ∀ p, 0 < i → s[i - 1]? = some p → cmpL p (m :: r) < 0 := fun p2 _ h => by rw [hq, hp] at h; cases h; exact hc
    refine tr_skip ?_
    refine hK4 _ ?_; try clear hK4 K4
    refine region_k T_ok (by decide) fun K hK => ?_
    obtain ⟨c, rfl⟩ : ∃ c : Nat, m = c := ⟨m.toNat, by omega⟩
    rcases Nat.lt_or_ge c 40 with hc | hc
    ·have hc1 : (c : Int) ≤ 40 := by omega
     have hc2 : ¬ (c : Int) = 40 := by omega
     have hs1 : List.drop (1 + c) (iV (c : Nat) :: uVs r) = uVs (r.drop c) := by rw [Nat.add_comm, List.drop_succ_cons, uVs_drop]
     have hs2 : List.take (40 - c) (uVs (r.drop c)) = uVs (r.drop c) := List.take_of_length_le (by simp [uVs, hrl])
     have hs4 : 1 + c + (40 - c) ≤ r.length + 1 := by omega
     simp [go_sem, hc1, hc2]
     refine hK _ ?_; clear hK K
     refine tr_block ?_
     refine loop_p (α := Nat) (fun a => ⟨54, [(0, .ro 41 (stR s)), (1, iV (c : Nat)), (9, .ro 41 (stR s)), (10, iV (s.length : Nat)), (11, iV (i : Nat)), (44, .ro 1 (uVs (r.drop c))), (45, iV ((40 - c : Nat))), (46, iV (a : Nat))], [], j + 60⟩) (fun a => a ≤ 40 - c ∧ ∀ k v, k < a → (r.drop c)[k]? = some v → v = 0) (fun a => 40 - c - a) 0 ?_ ?_ ?_
     ·exact ⟨Nat.zero_le _, fun k v hk => absurd hk (Nat.not_lt_zero _)⟩
     ·refine Weaker.fzk 1 0 (by first | omega | (dsimp only; omega)) ?_ ?_ ?_
      ·simp [go_sem, hs1, hs2, hc2, hs4]
      ·first | (simp; done) | (simp; omega)
      ·simp [go_sem, hs1, hs2, hc2, hs4]
     rintro b ⟨hb, hz⟩
     skip
     refine region_k T_ok (by decide) fun K hK => ?_
     simp [go_sem]
     refine hK _ ?_; clear hK K
     refine seq_k fun K9 hK9 => ?_
     refine cond_k rfl (fun h => ?_) (fun h => ?_)
     ·simp at h
      have hbI := h
      clear h
      have hb' : b < 40 - c := by omega
      obtain ⟨v, hv, hv'⟩ := getAt (l := r.drop c) (i := b) (by simp; omega)
      have hv2 := hv
      have hb0 : (0 : Int) ≤ (b : Nat) := by omega
      have hw2 : IntKind.i64.wrap ((b : Nat) + 1) = (b : Nat) + 1 := wrap_i64 (by omega) (by omega)
      refine tr_skip ?_
      refine hK9 _ ?_; try clear hK9 K9
      refine seq_k fun K10 hK10 => ?_
      refine tr_block ?_
      refine region_k T_ok (by decide) fun K hK => ?_
      simp [go_sem, hbI, hb0, hv, hv', hb']
      refine ⟨by omega, ?_⟩
      refine hK _ ?_; clear hK K
      refine region_k T_ok (by decide) fun K hK => ?_
      simp [go_sem]
      refine hK _ ?_; clear hK K
      refine cond_k rfl (fun h => ?_) (fun h => ?_)
      ·have hv0 : ¬ v = 0 := by simpa using h
       refine region_k T_ok (by decide) fun K hK => ?_
       simp [go_sem]
       refine hK _ ?_; clear hK K
       refine tr_ret ⟨.inr rfl, ?_⟩
       have hng : ¬ goodS c s := fun h => hv0 ((h i _ r hx).2.2.2.2 (c + b) v (by omega) (by rw [← List.getElem?_drop]; exact hv2))
       simp [go_sem, hng]
      ·have hv0 : v = 0 := by simpa using h
       refine tr_skip ?_
       refine hK10 _ ?_; try clear hK10 K10
       refine region_e T_ok (by decide) fun K hK => ?_
       simp [go_sem, hw2]
       refine hK _ ?_; clear hK K
       refine ⟨b + 1, ?_, ?_, ?_⟩
       ·exact ⟨by omega, fun k u hk hu => by rcases Nat.lt_or_ge k b with h | h; exact hz k u h hu; obtain rfl : k = b := (by omega); have e := Option.some.inj (hv2.symm.trans hu); rw [← e]; exact hv0⟩
       ·omega
       ·refine Weaker.fzk 1 0 (by first | omega | (dsimp only; omega)) ?_ ?_ ?_
        ·simp [go_sem, hs1, hs2, hc2, hs4]
        ·first | (simp; done) | (simp; omega)
        simp [go_sem, hs1, hs2, hc2, hs4]
     ·simp at h
      obtain rfl : b = 40 - c := by omega
      clear h
      have hok : okAt c s i c r := ⟨rfl, by omega, by omega, hprev, fun k v hk hv => by
       obtain ⟨e, rfl⟩ : ∃ e, k = c + e := ⟨k - c, by omega⟩
       have hk2 := (List.getElem?_eq_some_iff.1 hv).1
       refine hz e v (by omega) ?_
       rw [List.getElem?_drop]; exact hv⟩
      refine tr_exit ?_
      refine hK3 _ ?_; try clear hK3 K3
      refine region_e T_ok (by decide) fun K hK => ?_
      simp [go_sem, hw]
      refine hK _ ?_; clear hK K
      refine ⟨(i + 1, j + 200), ?_, ?_, ?_⟩
      ·dsimp only; exact ⟨by omega, fun i2 m2 r2 h2 hq2 => by rcases Nat.lt_or_ge i2 i with h | h; exact hall i2 m2 r2 h hq2; obtain rfl : i2 = i := (by omega); rw [hx] at hq2; cases hq2; exact hok⟩
      ·dsimp only; omega
      ·refine Weaker.fzk 1 0 (by first | omega | (dsimp only; omega)) ?_ ?_ ?_
       ·simp [go_sem]
       ·first | (simp; done) | (simp; omega)
       simp [go_sem]
    ·have hs4 : True := trivial
     have hc3 : c = 40 := by omega
     have hc1 : (c : Int) ≤ 40 := by omega
     have hc2 : (c : Int) = 40 := by omega
     have hs1 : uVs (r.drop c) = [] := by rw [List.drop_of_length_le (by omega)]; rfl
     have hs2 : 40 - c = 0 := by omega
     simp [go_sem, hc1, hc2]
     refine hK _ ?_; clear hK K
     refine tr_block ?_
     refine loop_p (α := Nat) (fun a => ⟨54, [(0, .ro 41 (stR s)), (1, iV (c : Nat)), (9, .ro 41 (stR s)), (10, iV (s.length : Nat)), (11, iV (i : Nat)), (44, .ro 1 (uVs (r.drop c))), (45, iV ((40 - c : Nat))), (46, iV (a : Nat))], [], j + 60⟩) (fun a => a ≤ 40 - c ∧ ∀ k v, k < a → (r.drop c)[k]? = some v → v = 0) (fun a => 40 - c - a) 0 ?_ ?_ ?_
     ·exact ⟨Nat.zero_le _, fun k v hk => absurd hk (Nat.not_lt_zero _)⟩
     ·refine Weaker.fzk 1 0 (by first | omega | (dsimp only; omega)) ?_ ?_ ?_
      ·simp [go_sem, hs1, hs2, hc2, hs4]
      ·first | (simp; done) | (simp; omega)
      ·simp [go_sem, hs1, hs2, hc2, hs4]
     rintro b ⟨hb, hz⟩
     skip
     refine region_k T_ok (by decide) fun K hK => ?_
     simp [go_sem]
     refine hK _ ?_; clear hK K
     refine seq_k fun K11 hK11 => ?_
     refine cond_k rfl (fun h => ?_) (fun h => ?_)
     ·simp at h
      have hbI := h
      clear h
      have hb' : b < 40 - c := by omega
      obtain ⟨v, hv, hv'⟩ := getAt (l := r.drop c) (i := b) (by simp; omega)
      have hv2 := hv
      have hb0 : (0 : Int) ≤ (b : Nat) := by omega
      have hw2 : IntKind.i64.wrap ((b : Nat) + 1) = (b : Nat) + 1 := wrap_i64 (by omega) (by omega)
      refine tr_skip ?_
      refine hK11 _ ?_; try clear hK11 K11
      refine seq_k fun K12 hK12 => ?_
      refine tr_block ?_
      refine region_k T_ok (by decide) fun K hK => ?_
      simp [go_sem, hbI, hb0, hv, hv', hb']
      refine ⟨by omega, ?_⟩
      refine hK _ ?_; clear hK K
      refine region_k T_ok (by decide) fun K hK => ?_
      simp [go_sem]
      refine hK _ ?_; clear hK K
      refine cond_k rfl (fun h => ?_) (fun h => ?_)
      ·have hv0 : ¬ v = 0 := by simpa using h
       refine region_k T_ok (by decide) fun K hK => ?_
       simp [go_sem]
       refine hK _ ?_; clear hK K
       refine tr_ret ⟨.inr rfl, ?_⟩
       have hng : ¬ goodS c s := fun h => hv0 ((h i _ r hx).2.2.2.2 (c + b) v (by omega) (by rw [← List.getElem?_drop]; exact hv2))
       simp [go_sem, hng]
      ·have hv0 : v = 0 := by simpa using h
       refine tr_skip ?_
       refine hK12 _ ?_; try clear hK12 K12
       refine region_e T_ok (by decide) fun K hK => ?_
       simp [go_sem, hw2]
       refine hK _ ?_; clear hK K
       refine ⟨b + 1, ?_, ?_, ?_⟩
       ·exact ⟨by omega, fun k u hk hu => by rcases Nat.lt_or_ge k b with h | h; exact hz k u h hu; obtain rfl : k = b := (by omega); have e := Option.some.inj (hv2.symm.trans hu); rw [← e]; exact hv0⟩
       ·omega
       ·refine Weaker.fzk 1 0 (by first | omega | (dsimp only; omega)) ?_ ?_ ?_
        ·simp [go_sem, hs1, hs2, hc2, hs4]
        ·first | (simp; done) | (simp; omega)
        simp [go_sem, hs1, hs2, hc2, hs4]
     ·simp at h
      obtain rfl : b = 40 - c := by omega
      clear h
      have hok : okAt c s i c r := ⟨rfl, by omega, by omega, hprev, fun k v hk hv => by
       obtain ⟨e, rfl⟩ : ∃ e, k = c + e := ⟨k - c, by omega⟩
       have hk2 := (List.getElem?_eq_some_iff.1 hv).1
       refine hz e v (by omega) ?_
       rw [List.getElem?_drop]; exact hv⟩
      refine tr_exit ?_
      refine hK3 _ ?_; try clear hK3 K3
      refine region_e T_ok (by decide) fun K hK => ?_
      simp [go_sem, hw]
      refine hK _ ?_; clear hK K
      refine ⟨(i + 1, j + 200), ?_, ?_, ?_⟩
      ·dsimp only; exact ⟨by omega, fun i2 m2 r2 h2 hq2 => by rcases Nat.lt_or_ge i2 i with h | h; exact hall i2 m2 r2 h hq2; obtain rfl : i2 = i := (by omega); rw [hx] at hq2; cases hq2; exact hok⟩
      ·dsimp only; omega
      ·refine Weaker.fzk 1 0 (by first | omega | (dsimp only; omega)) ?_ ?_ ?_
       ·simp [go_sem]
       ·first | (simp; done) | (simp; omega)
       simp [go_sem]
 ·simp at h
  obtain rfl : i = s.length := by omega
  clear h
  refine tr_exit ?_
  refine hK1 _ ?_; try clear hK1 K1
  refine region_k T_ok (by decide) fun K hK => ?_
  simp [go_sem]
  refine hK _ ?_; clear hK K
  refine tr_ret ⟨.inr rfl, ?_⟩
  have hy : goodS n s := fun i m r h => hall i m r (List.getElem?_eq_some_iff.1 h).1 h
  simp [go_sem, hy]
open Go Go.Sl Go.Proofs.Tryd
theorem stR_tk (l : List (List Int)) (n : Nat) : (stR l).take n = stR (l.take n) := (List.map_take ..).symm
theorem put_st {z u : List Int} (hz : (stK z).length = 41) (hu : (stK u).length = 41) : putPart (.agg (stK z)) 0 (.agg (stK u)) = .agg (stK u) := by simp [putPart, V.cells, splice, hz, hu]
theorem stR_set (l : List (List Int)) (n : Nat) (u : List Int) : (stR l).set n (.agg (stK u)) = stR (l.set n u) := (List.map_set ..).symm
theorem fits_st {l : List (List Int)} (h : ∀ q ∈ l, q.length = 41) : ∀ v ∈ stR l, v.fits 41 = true := fun v hv => by
 obtain ⟨q, hq, rfl⟩ := List.mem_map.1 hv
 simp only [V.fits, V.cells, Bool.and_eq_true, beq_iff_eq, List.all_eq_true]
 exact ⟨(stK_len q).trans (h q hq), stK_one q⟩
theorem rows_srt {l : List (List Int)} {l' : List St41} (hp : (l'.map (·.1)).Perm l) (hs : l'.Pairwise fun a b => Go.Proofs.ltOf (fun a b : St41 => cmpL a.1 b.1) b a = false) : Srt (l'.map (·.1)) ∧ l'.map (rowOf encS) = stR (l'.map (·.1)) := by
 refine ⟨List.pairwise_map.2 hs, ?_⟩
 rw [stR, List.map_map]
 exact List.map_congr_left fun q _ => rowS q
theorem pdqEx_fn (l : List (List Int)) (h41 : ∀ q ∈ l, q.length = 41) (hl : l.length < 4611686018427387904) (r k : Nat) :
    Sl.Fn Tryd.prog 92 [.sl r 0 l.length, iV 0, iV (l.length : Nat), iV (Go.Lib.bitLen l.length : Nat), .fn (.func 9) [] []] [(r, .rows 41 (stR l))] k fun v H' _ => ∃ l2 : List (List Int), (l2.Perm l ∧ Srt l2) ∧ v = .tup [] ∧ H' = [(r, .rows 41 (stR l2))] := by
  by_cases he : l = []
  · subst he
    exact (pdqNil_fn r k).mono fun v H' k' h => ⟨[], ⟨.refl _, .nil⟩, h.1, h.2⟩
  · have hb : Go.Lib.bitLen l.length < 4611686018427387904 := Nat.lt_of_le_of_lt (Go.Lib.bitLen_le l.length 62 (by omega) (by omega)) (by omega)
    have := pdq_fn (enc := encS) (K := 41) sortLay Tryd.isAgg26 Tryd.sizeOf26 (fun x => (encL_len x.1).trans x.2) (fun x v hv => by
        obtain ⟨q, hq⟩ := x
        cases q with
        | nil => cases hv
        | cons n q =>
          cases hv with
          | head => rfl
          | tail _ hv => obtain ⟨m, _, rfl⟩ := List.mem_map.1 hv; rfl) (fun a b => cmpL a.1 b.1) swo_st 9 (fun x y => by rw [rowS, rowS]; exact compare_pf x.1 y.1 x.2 y.2) r k
        (l.attach.map fun q => (⟨q.1, h41 q.1 q.2⟩ : St41)) (by simpa using he) (by simpa using hl) _ hb
    rw [stR_attach, List.length_map, List.length_attach] at this
    refine (show Sl.Fn Tryd.prog 92 _ _ k _ from this).mono ?_
    rintro v H' k' ⟨rfl, l', hp, hs, rfl⟩
    have hp' := hp.map (·.1)
    rw [List.map_map, show ((fun x : St41 => x.1) ∘ fun q : {x // x ∈ l} => (⟨q.1, h41 q.1 q.2⟩ : St41)) = fun q => q.1 from rfl, List.attach_map_subtype_val] at hp'
    obtain ⟨h1, h2⟩ := rows_srt hp' hs
    exact ⟨l'.map (·.1), ⟨hp', h1⟩, rfl, by rw [h2]⟩
theorem sortEx_fn (l : List (List Int)) (h41 : ∀ q ∈ l, q.length = 41) (hl : l.length < 4611686018427387904) (r k : Nat) : Sl.Fn Tryd.prog 69 [.sl r 0 l.length, .fn (.func 9) [] []] [(r, .rows 41 (stR l))] k fun v H' _ => ∃ l2 : List (List Int), (l2.Perm l ∧ Srt l2) ∧ v = .tup [] ∧ H' = [(r, .rows 41 (stR l2))] := by
 have hw : IntKind.u64.wrap (l.length : Int) = (l.length : Nat) := by simp [IntKind.wrap, IntKind.bits, IntKind.signed]; omega
 refine fn_in T_ok func69 rfl rfl ntmps69 rfl (by simp) ?_
 refine region_k T_ok (by decide) fun K hK => ?_
 simp [go_sem]
 refine hK _ ?_; clear hK K
 refine region_e T_ok (by decide) fun K hK => ?_
 simp [go_sem, hw]
 refine call_pf (bitsLen_pf l.length hl) ?_
 simp [go_sem, hw]
 refine call_ex0 (pdqEx_fn l h41 hl r k) fun k' l2 hk' hI => ?_
 simp [go_sem]
 refine hK _ ?_; clear hK K
 refine ⟨.inl rfl, ?_⟩
 simp [go_sem]
 exact ⟨l2, hI, rfl⟩
theorem clone_fn (s : List (List Int)) (h41 : ∀ q ∈ s, q.length = 41) (hl : s.length ≤ 400000000) (k : Nat) : Sl.Fn Tryd.prog 68 [.ro 41 (stR s)] [] k fun v H' k' => ∃ g, (k ≤ g ∧ g < k') ∧ v = .sl g 0 s.length ∧ H' = [(g, .rows 41 (stR s))] := by
 refine fn_in T_ok func68 rfl rfl ntmps68 rfl (by simp) ?_
 refine region_k T_ok (by decide) fun K hK => ?_
 simp [go_sem]
 refine hK _ ?_; clear hK K
 refine seq_k fun K1 hK1 => ?_
 refine reg_start ?_
 refine reg_mov _ (.inl rfl) rfl rfl (by decide) ?_
 refine reg_roNil _ _ _ _ rfl rfl rfl (by decide) (T_ok _ _ rfl) rfl rfl rfl (fun hnil => ?_) ?_
 ·have hs0 : s = [] := List.map_eq_nil_iff.1 hnil
  refine reg_end T_ok (by decide) fun K hK => ?_
  simp [go_sem]
  refine hK _ ?_; clear hK K
  refine cond_k rfl (fun h => ?_) (fun h => ?_)
  ·clear h
   refine region_k T_ok (by decide) fun K hK => ?_
   simp [go_sem]
   refine hK _ ?_; clear hK K
   refine Tr.weaken (Weaker.ghost 2 41 rfl) ?_
   refine tr_ret ⟨.inr rfl, ?_⟩
   simp [go_sem]
   refine ⟨k, ⟨by omega, by omega⟩, ?_⟩
   rw [hs0]
   simp [stR]
  ·simp at h
 ·skip
  refine reg_end T_ok (by decide) fun K hK => ?_
  simp [go_sem]
  refine hK _ ?_; clear hK K
  refine cond_k rfl (fun h => ?_) (fun h => ?_)
  ·simp at h
  ·clear h
   refine tr_skip ?_
   refine hK1 _ ?_; try clear hK1 K1
   refine region_k T_ok (by decide) fun K hK => ?_
   simp [go_sem, stR_len]
   have hle : s.length * 328 ≤ 140737488355328 := by omega
   first | (refine ⟨fits_stR h41, ?_⟩) | skip
   first | (refine ⟨by omega, ?_⟩) | skip
   refine hK _ ?_; clear hK K
   refine tr_ret ⟨.inr rfl, ?_⟩
   simp [go_sem]
set_option maxHeartbeats 4000000 in
theorem compact_fn (s : List (List Int)) (h41 : ∀ q ∈ s, q.length = 41) (hl : s.length ≤ 400000000) (r k : Nat) : Sl.Fn Tryd.prog 70 [.sl r 0 s.length] [(r, .rows 41 (stR s))] k fun v H' _ => v = .ro 41 (stR (dedP s s.length)) ∧ H' = [] := by
 refine Fn.view ?_
 refine fn_in T_ok func70 rfl rfl ntmps70 rfl (by simp) ?_
 refine region_k T_ok (by decide) fun K hK => ?_
 simp [go_sem]
 refine hK _ ?_; clear hK K
 refine seq_k fun K1 hK1 => ?_
 refine region_k T_ok (by decide) fun K hK => ?_
 simp [go_sem]
 refine hK _ ?_; clear hK K
 refine cond_k rfl (fun h => ?_) (fun h => ?_)
 ·have hs1 : s.length ≤ 1 := by simp at h; omega
  clear h
  have hds : dedP s s.length = s := dedP_short hs1
  refine region_k T_ok (by decide) fun K hK => ?_
  simp [go_sem]
  refine hK _ ?_; clear hK K
  refine tr_ret ⟨.inr rfl, ?_⟩
  simp [go_sem]
  exact ⟨_, _, (View.freezeAll (sz := 41) (es := stR s) (by simp [go_sem]) (by rw [stR_len])).trans (View.nil _), by rw [hds], rfl⟩
 ·have hs1 : 2 ≤ s.length := by simp at h; omega
  clear h
  refine tr_skip ?_
  refine hK1 _ ?_; try clear hK1 K1
  refine seq_k fun K2 hK2 => ?_
  refine region_k T_ok (by decide) fun K hK => ?_
  simp [go_sem]
  refine hK _ ?_; clear hK K
  refine tr_block ?_
  refine loop_p (α := Nat × Nat) (fun a => ⟨61, [(0, .sl r 0 s.length), (3, iV (a.1 : Nat))], [(r, .rows 41 (stR s))], a.2⟩) (fun a => 1 ≤ a.1 ∧ a.1 ≤ s.length ∧ ∀ j, 0 < j → j < a.1 → s[j]? ≠ s[j - 1]?) (fun a => s.length - a.1) (1, k) ?_ ?_ ?_
  ·exact ⟨Nat.le_refl _, by omega, fun j a b => by omega⟩
  ·refine Weaker.fzk 1 0 (by first | omega | (dsimp only; omega)) ?_ ?_ ?_
   ·simp [go_sem]
   ·first | (simp; done) | (simp; omega)
   ·simp [go_sem]
  rintro ⟨i, kk⟩ ⟨hi1, hil, hne⟩
  dsimp only at hi1 hil hne ⊢
  refine seq_k fun K3 hK3 => ?_
  refine region_k T_ok (by decide) fun K hK => ?_
  simp [go_sem]
  refine hK _ ?_; clear hK K
  refine cond_k rfl (fun h => ?_) (fun h => ?_)
  ·have hi2 : i < s.length := by simp at h; omega
   clear h
   obtain ⟨x, hx1, hx'1⟩ := getAt (l := s) (i := i) (by omega)
   have h411 := h41 x (List.mem_of_getElem? hx1)
   have hl1 : (stK x).length = 41 := (stK_len x).trans h411
   have ht1 : List.take 41 (stK x) = stK x := List.take_of_length_le (by omega)
   have ho1 := stK_one x
   obtain ⟨q, hq⟩ : ∃ q, i - 1 = q := ⟨_, rfl⟩
   obtain ⟨y, hx2, hx'2⟩ := getAt (l := s) (i := q) (by omega)
   have h412 := h41 y (List.mem_of_getElem? hx2)
   have hl2 : (stK y).length = 41 := (stK_len y).trans h412
   have ht2 : List.take 41 (stK y) = stK y := List.take_of_length_le (by omega)
   have ho2 := stK_one y
   have hwm : IntKind.i64.wrap ((i : Nat) - 1) = (q : Nat) := by rw [wrap_i64 (by omega) (by omega)]; omega
   have hiI : (i : Int) < (s.length : Nat) := by omega
   have hi0 : (0 : Int) ≤ (i : Nat) := by omega
   have hqI : (q : Int) < (s.length : Nat) := by omega
   have hq0 : (0 : Int) ≤ (q : Nat) := by omega
   have hql : q < s.length := by omega
   have hw : IntKind.i64.wrap ((i : Nat) + 1) = (i : Nat) + 1 := wrap_i64 (by omega) (by omega)
   have he : eqCells [EK.int, EK.int, EK.int, EK.int, EK.int, EK.int, EK.int, EK.int, EK.int, EK.int, EK.int, EK.int, EK.int, EK.int, EK.int, EK.int, EK.int, EK.int, EK.int, EK.int, EK.int, EK.int, EK.int, EK.int, EK.int, EK.int, EK.int, EK.int, EK.int, EK.int, EK.int, EK.int, EK.int, EK.int, EK.int, EK.int, EK.int, EK.int, EK.int, EK.int, EK.int] (stK x) (stK y) = _ := eq_stK h411 h412
   refine tr_skip ?_
   refine hK3 _ ?_; try clear hK3 K3
   refine seq_k fun K4 hK4 => ?_
   refine tr_block ?_
   refine draw_k T_ok (by kernel_rfl) 9 [[], [], [0, 1], [0, 1, 2], [], [], [5], [4, 5, 6], [4, 5, 6, 7], [0, 1, 2, 3, 4, 5, 6, 7, 8]] [] (by decide) (by decide) (by decide) fun K hK => ?_
   first | dsimp only [List.take, List.drop] | dsimp [List.take, List.drop]
   simp [go_sem, hx1, hx'1, hl1, ht1, hx2, hx'2, hl2, ht2, hwm, hiI, hi0, hqI, hq0, hql, he, hi2]
   first | (refine ⟨hot_, ?_⟩) | skip
   refine hK _ ?_; clear hK K
   refine cond_k rfl (fun h => ?_) (fun h => ?_)
   ·obtain rfl : x = y := by simpa using h
    clear h
    have hd0 : dedP s (i + 1) = s.take i := by rw [dedP_same (by omega) hx1 (by rw [hq]; exact hx2), dedP_none (fun j a b => hne j a (by omega)) (by omega)]
    have hmin : min i s.length = i := by omega
    refine region_k T_ok (by decide) fun K hK => ?_
    simp [go_sem, hi2, hiI, hi0]
    refine ⟨by omega, ?_⟩
    refine hK _ ?_; clear hK K
    refine seq_k fun K5 hK5 => ?_
    refine region_k T_ok (by decide) fun K hK => ?_
    simp [go_sem]
    refine hK _ ?_; clear hK K
    refine tr_block ?_
    refine loop_p (α := Nat × Nat) (fun a => ⟨61, [(0, .sl r 0 s.length), (3, iV ((dedP s (i + a.1)).length : Nat)), (4, .sl r i (s.length - i)), (5, iV (a.1 : Nat))], [(r, .rows 41 (stR (dedP s (i + a.1) ++ s.drop (dedP s (i + a.1)).length)))], a.2⟩) (fun a => 1 ≤ a.1 ∧ i + a.1 ≤ s.length ∧ (dedP s (i + a.1)).length < i + a.1) (fun a => s.length - a.1) (1, kk + 40) ?_ ?_ ?_
    ·exact ⟨Nat.le_refl _, by omega, by rw [hd0, List.length_take]; omega⟩
    ·refine Weaker.fzk 1 0 (by first | omega | (dsimp only; omega)) ?_ ?_ ?_
     ·simp [go_sem, hd0, hmin]
     ·first | (simp; done) | (simp; omega)
     ·simp [go_sem, hd0, hmin]
    rintro ⟨j, kj⟩ ⟨hj1', hjs, hdlt⟩
    dsimp only at hj1' hjs hdlt ⊢
    refine seq_k fun K6 hK6 => ?_
    refine region_k T_ok (by decide) fun K hK => ?_
    simp [go_sem]
    refine hK _ ?_; clear hK K
    refine cond_k rfl (fun h => ?_) (fun h => ?_)
    ·have hj2 : i + j < s.length := by simp at h; omega
     clear h
     obtain ⟨u, hx3, hx'3⟩ := getAt (l := s) (i := i + j) (by omega)
     have h413 := h41 u (List.mem_of_getElem? hx3)
     have hl3 : (stK u).length = 41 := (stK_len u).trans h413
     have ht3 : List.take 41 (stK u) = stK u := List.take_of_length_le (by omega)
     have ho3 := stK_one u
     obtain ⟨p, hp⟩ : ∃ p, i + j - 1 = p := ⟨_, rfl⟩
     obtain ⟨w, hx4, hx'4⟩ := getAt (l := s) (i := p) (by omega)
     have h414 := h41 w (List.mem_of_getElem? hx4)
     have hl4 : (stK w).length = 41 := (stK_len w).trans h414
     have ht4 : List.take 41 (stK w) = stK w := List.take_of_length_le (by omega)
     have ho4 := stK_one w
     obtain ⟨j1, hj1⟩ : ∃ j1, j = j1 + 1 := ⟨j - 1, by omega⟩
     have hwj : IntKind.i64.wrap ((j : Nat) - 1) = (j1 : Nat) := by rw [wrap_i64 (by omega) (by omega)]; omega
     have hpj : i + j1 = p := by omega
     have hjI : (j : Int) < ((s.length - i : Nat) : Int) := by omega
     have hj0 : (0 : Int) ≤ (j : Nat) := by omega
     have hj1I : (j1 : Int) < ((s.length - i : Nat) : Int) := by omega
     have hj10 : (0 : Int) ≤ (j1 : Nat) := by omega
     have hwj2 : IntKind.i64.wrap ((j : Nat) + 1) = (j : Nat) + 1 := wrap_i64 (by omega) (by omega)
     have he2 : eqCells [EK.int, EK.int, EK.int, EK.int, EK.int, EK.int, EK.int, EK.int, EK.int, EK.int, EK.int, EK.int, EK.int, EK.int, EK.int, EK.int, EK.int, EK.int, EK.int, EK.int, EK.int, EK.int, EK.int, EK.int, EK.int, EK.int, EK.int, EK.int, EK.int, EK.int, EK.int, EK.int, EK.int, EK.int, EK.int, EK.int, EK.int, EK.int, EK.int, EK.int, EK.int] (stK u) (stK w) = _ := eq_stK h413 h414
     have hdl := dedP_len s (i + j)
     have hg1 := ded_get hdl hx3 (by omega)
     have hg2 := ded_get hdl hx4 (by omega)
     refine tr_skip ?_
     refine hK6 _ ?_; try clear hK6 K6
     refine seq_k fun K7 hK7 => ?_
     refine tr_block ?_
     refine draw_k T_ok (by kernel_rfl) 9 [[], [], [0, 1], [0, 1, 2], [], [], [5], [4, 5, 6], [4, 5, 6, 7], [0, 1, 2, 3, 4, 5, 6, 7, 8]] [] (by decide) (by decide) (by decide) fun K hK => ?_
     first | dsimp only [List.take, List.drop] | dsimp [List.take, List.drop]
     simp [go_sem, hx3, hx'3, hl3, ht3, hx4, hx'4, hl4, ht4, hwj, hjI, hj0, hj1I, hj10, he2, hpj, hg1, hg2]
     refine ⟨by omega, by omega, ?_⟩
     refine hK _ ?_; clear hK K
     refine cond_k rfl (fun h => ?_) (fun h => ?_)
     ·have huw : ¬ u = w := by simpa using h
      clear h
      have hD2 : (dedP s (i + j)).length < s.length := by omega
      obtain ⟨z, hx5, hx'5⟩ := getAt (l := s) (i := (dedP s (i + j)).length) (by omega)
      have h415 := h41 z (List.mem_of_getElem? hx5)
      have hl5 : (stK z).length = 41 := (stK_len z).trans h415
      have ht5 : List.take 41 (stK z) = stK z := List.take_of_length_le (by omega)
      have ho5 := stK_one z
      have hg5 := ded_get (Nat.le_refl _) hx5 (Nat.le_refl _)
      have hdn : dedP s (i + j + 1) = dedP s (i + j) ++ [u] := dedP_next hx3 (fun _ => by rw [hp]; exact hx4) (fun _ => huw)
      have hwd : IntKind.i64.wrap (((dedP s (i + j)).length : Nat) + 1) = ((dedP s (i + j)).length : Nat) + 1 := wrap_i64 (by omega) (by omega)
      refine region_k T_ok (by decide) fun K hK => ?_
      simp [go_sem, hx3, hx'3, hl3, ht3, hjI, hj0, hg1]
      refine ⟨by omega, by omega, by omega, ho3, ?_⟩
      simp only [hg5, Option.map_some, Option.getD_some, put_st hl5 hl3, stR_set, ded_set hD2]
      refine hK _ ?_; clear hK K
      refine region_e T_ok (by decide) fun K hK => ?_
      simp [go_sem, hwd]
      refine hK _ ?_; clear hK K
      refine hK7 _ ?_; try clear hK7 K7
      refine region_e T_ok (by decide) fun K hK => ?_
      simp [go_sem, hwj2]
      refine hK _ ?_; clear hK K
      refine ⟨(j + 1, kj + 40), ?_, ?_, ?_⟩
      ·dsimp only; rw [← Nat.add_assoc, hdn]; exact ⟨by omega, by omega, by rw [List.length_append, List.length_singleton]; omega⟩
      ·dsimp only; omega
      ·refine Weaker.fzk 1 0 (by first | omega | (dsimp only; omega)) ?_ ?_ ?_
       ·simp [go_sem, ← Nat.add_assoc, hdn]
       ·first | (simp; done) | (simp; omega)
       simp [go_sem, ← Nat.add_assoc, hdn]
     ·obtain rfl : u = w := by simpa using h
      clear h
      have hdn : dedP s (i + j + 1) = dedP s (i + j) := dedP_same (by omega) hx3 (by rw [hp]; exact hx4)
      refine tr_skip ?_
      refine hK7 _ ?_; try clear hK7 K7
      refine region_e T_ok (by decide) fun K hK => ?_
      simp [go_sem, hwj2]
      refine hK _ ?_; clear hK K
      refine ⟨(j + 1, kj + 40), ?_, ?_, ?_⟩
      ·dsimp only; rw [← Nat.add_assoc, hdn]; exact ⟨by omega, by omega, by omega⟩
      ·dsimp only; omega
      ·refine Weaker.fzk 1 0 (by first | omega | (dsimp only; omega)) ?_ ?_ ?_
       ·simp [go_sem, ← Nat.add_assoc, hdn]
       ·first | (simp; done) | (simp; omega)
       simp [go_sem, ← Nat.add_assoc, hdn]
    ·have hjl : i + j = s.length := by simp at h; omega
     clear h
     obtain ⟨D, hD⟩ : ∃ D, dedP s (i + j) = D := ⟨_, rfl⟩
     rw [hD] at hdlt ⊢
     obtain ⟨DL, hdL⟩ : ∃ n, D.length = n := ⟨_, rfl⟩
     rw [hdL] at hdlt ⊢
     have hDI : (DL : Int) ≤ (s.length : Nat) := by omega
     have hD0 : (0 : Int) ≤ (DL : Nat) := by omega
     refine tr_exit ?_
     refine hK5 _ ?_; try clear hK5 K5
     refine reg_start ?_
     refine reg_cut T_ok 3 [(0, .sl r 0 s.length), (3, iV (DL : Nat)), (56, .sl r DL (s.length - DL))] [(r, .rows 41 (stR (D ++ s.drop DL)))] (kj) (by decide) ?_ ?_
     ·dsimp only [List.take, List.drop]
      simp [go_sem, hdL, hDI, hD0]
      refine Weaker.fz 1 0 ?_ ?_ ?_
      ·simp [go_sem]
      ·first | (simp; done) | (simp; omega)
      ·simp [go_sem]
     dsimp only [List.take, List.drop]
     refine reg_clear (es := stR (D ++ s.drop DL)) _ _ rfl rfl rfl (T_ok _ _ rfl) rfl (T_ok _ _ rfl) rfl (by simp [go_sem]) ?_ ?_ ?_
     ·rw [stR_len, List.length_append, List.length_drop]; omega
     ·omega
     refine reg_end T_ok (by decide) fun K hK => ?_
     simp [go_sem]
     refine hK _ ?_; clear hK K
     refine region_k T_ok (by decide) fun K hK => ?_
     simp [go_sem]
     refine ⟨by omega, ?_⟩
     refine hK _ ?_; clear hK K
     refine tr_ret ⟨.inr rfl, ?_⟩
     simp [go_sem]
     refine ⟨_, _, (View.freeze (i := 0) (len := DL) (sz := 41) (by simp [go_sem]; rfl) ?_).trans (View.nil _), ?_, rfl⟩
     ·simp [stR_len]; omega
     have e9 : dedP s s.length = D := by rw [← hjl, hD]
     rw [e9, List.drop_zero, List.take_append_of_le_length (by simp [stR_len]; omega), List.take_take, Nat.min_self, stR_tk, List.take_append_of_le_length (by omega), List.take_of_length_le (by omega)]
   ·have hxy : ¬ x = y := by simpa using h
    clear h
    refine tr_skip ?_
    refine hK4 _ ?_; try clear hK4 K4
    refine region_e T_ok (by decide) fun K hK => ?_
    simp [go_sem, hw]
    refine hK _ ?_; clear hK K
    refine ⟨(i + 1, kk + 40), ?_, ?_, ?_⟩
    ·exact ⟨by omega, by omega, fun j a b => by rcases Nat.lt_or_ge j i with h | h; exact hne j a h; obtain rfl : j = i := (by omega); rw [hx1, hq, hx2]; exact fun e => hxy (Option.some.inj e)⟩
    ·dsimp only; omega
    ·refine Weaker.fzk 1 0 (by first | omega | (dsimp only; omega)) ?_ ?_ ?_
     ·simp [go_sem]
     ·first | (simp; done) | (simp; omega)
     simp [go_sem]
  ·obtain rfl : i = s.length := by simp at h; omega
   clear h
   have hds : dedP s s.length = s := by rw [dedP_none hne (Nat.le_refl _), List.take_length]
   refine tr_exit ?_
   refine hK2 _ ?_; try clear hK2 K2
   refine region_k T_ok (by decide) fun K hK => ?_
   simp [go_sem]
   refine hK _ ?_; clear hK K
   refine tr_ret ⟨.inr rfl, ?_⟩
   simp [go_sem]
   exact ⟨_, _, (View.freezeAll (sz := 41) (es := stR s) (by simp [go_sem]) (by rw [stR_len])).trans (View.nil _), by rw [hds], rfl⟩
theorem setWith_pf (s o : List (List Int)) (h41 : ∀ q ∈ s, q.length = 41) (ho41 : ∀ q ∈ o, q.length = 41) (hl : s.length ≤ 100000000) (hlo : o.length ≤ 100000000) : Pf Tryd.prog 31 [.ro 41 (stR s), .ro 41 (stR o)] (.ro 41 (stR (setOf (s ++ o)))) := by
 refine Pf.of_fn (.cons (nl_stR s) (.cons (nl_stR o) .nil)) (nl_stR _) ?_
 have hso : ∀ q ∈ s ++ o, q.length = 41 := fun q hq => (List.mem_append.1 hq).elim (h41 q) (ho41 q)
 refine fn_in T_ok func31 rfl rfl ntmps31 rfl (by simp) ?_
 refine region_k T_ok (by decide) fun K hK => ?_
 simp [go_sem]
 refine hK _ ?_; clear hK K
 refine region_k T_ok (by decide) fun K hK => ?_
 simp [go_sem]
 refine call_exv (clone_fn s h41 (by omega) 0) fun kk g _ hI => ?_
 obtain ⟨_, hgk⟩ := hI
 have n1 : ¬ g = kk := by omega
 have n2 : ¬ kk = g := by omega
 have hsl : List.take s.length (stR s) = stR s := List.take_of_length_le (by rw [stR_len]; omega)
 have hfo : ∀ v ∈ stR o, v.fits 41 = true := fits_st ho41
 simp [go_sem, n1, n2, stR_len, hsl, hfo]
 first | (refine ⟨by omega, ?_⟩) | skip
 refine hK _ ?_; clear hK K
 have hsa : stR s ++ stR o = stR (s ++ o) := (List.map_append ..).symm
 have hse := sortEx_fn (s ++ o) hso (by rw [List.length_append]; omega) kk (kk + 1)
 rw [List.length_append] at hse
 rw [hsa]
 refine region_k T_ok (by decide) fun K hK => ?_
 simp [go_sem]
 refine call_ex0 hse fun k2 l2 hk2 hI => ?_
 obtain ⟨hp, hst⟩ := hI
 have hll : s.length + o.length = l2.length := by rw [← List.length_append]; exact hp.length_eq.symm
 rw [hll]
 simp [go_sem]
 refine hK _ ?_; clear hK K
 refine region_k T_ok (by decide) fun K hK => ?_
 simp [go_sem]
 refine call_exv (α := Unit) (I := fun _ _ => True) (R := fun _ => .ro 41 (stR (dedP l2 l2.length))) (G := fun _ => []) ((compact_fn l2 (fun q hq => hso q (hp.mem_iff.1 hq)) (by omega) kk k2).mono fun v H2 k3 h => ⟨(), trivial, h.1, h.2⟩) fun k3 _ hk3 _ => ?_
 rw [dedP_set hst hp]
 simp [go_sem]
 refine hK _ ?_; clear hK K
 refine tr_ret ⟨.inr rfl, ?_⟩
 simp [go_sem]
open Go Go.Sl
def rowU (l : List (List Int)) : List V := l.map fun r => .ro 1 (uVs r)
@[go_sem] theorem rowU_len (l : List (List Int)) : (rowU l).length = l.length := List.length_map ..
@[go_sem] theorem rowU_at (l : List (List Int)) (i : Nat) : (rowU l)[i]? = l[i]?.map fun r => V.ro 1 (uVs r) := List.getElem?_map ..
@[go_sem] theorem rowU_get (l : List (List Int)) (i : Nat) (h : i < (rowU l).length) : (rowU l)[i] = .ro 1 (uVs (l[i]'(by simpa [rowU] using h))) := by simp [rowU]
@[go_sem] theorem rowU_take (l : List (List Int)) (n : Nat) : (rowU l).take n = rowU (l.take n) := (List.map_take ..).symm
theorem rowU_append (l : List (List Int)) (r : List Int) : rowU l ++ [.ro 1 (uVs r)] = rowU (l ++ [r]) := by simp [rowU]
theorem rowU_nil : rowU [] = [] := rfl
theorem nl_rowU (l : List (List Int)) : NL (.ro 1 (rowU l)) := .ro fun v hv => by obtain ⟨a, _, rfl⟩ := List.mem_map.1 hv; exact .cons (nl_uVs a) .nil
def lessB : List Int → List Int → Bool
 | [], _ => false
 | _, [] => false
 | a :: r, b :: s => if a = b then lessB r s else decide (a < b)
theorem lessB_at {a b : List Int} {i : Nat} {x y : Int} (h : a[i]? = some x) (h' : b[i]? = some y) : lessB (a.drop i) (b.drop i) = if x = y then lessB (a.drop (i + 1)) (b.drop (i + 1)) else decide (x < y) := by
 have h1 := (List.getElem?_eq_some_iff.1 h)
 have h2 := (List.getElem?_eq_some_iff.1 h')
 obtain ⟨h1, rfl⟩ := h1
 obtain ⟨h2, rfl⟩ := h2
 rw [List.drop_eq_getElem_cons h1, List.drop_eq_getElem_cons h2, lessB]
theorem lessB_end (a b : List Int) : lessB (a.drop a.length) b = false := by rw [List.drop_length]; rfl
theorem lessB_cmp : ∀ {a b : List Int} (z : List Int), a.length = b.length → lessB a b = decide (cmpL (a ++ z) (b ++ z) < 0)
 | [], [], z, _ => by simp [lessB, cmpL_self]
 | [], _ :: _, _, h => by cases h
 | _ :: _, [], _, h => by cases h
 | a :: r, b :: s, z, h => by
  have ih := lessB_cmp (a := r) (b := s) z (by simpa using h)
  simp only [lessB, List.cons_append, cmpL]
  by_cases e : a = b
  ·subst e; simp [cmpI_self, ih]
  ·rw [if_neg e, if_neg (fun h => e (cmpI_zero.1 h))]
   rw [Bool.eq_iff_iff, decide_eq_true_eq, decide_eq_true_eq, cmpI_neg]
def wP (l : List (List Int)) (x : List Int) : Nat → List (List Int) × Bool
 | 0 => ([], false)
 | i + 1 => if (wP l x i).2 = false ∧ lessB x (l.getD i []) = true then ((wP l x i).1 ++ [x] ++ [l.getD i []], true) else ((wP l x i).1 ++ [l.getD i []], (wP l x i).2)
def wE (l : List (List Int)) (x : List Int) : List (List Int) := if (wP l x l.length).2 = true then (wP l x l.length).1 else (wP l x l.length).1 ++ [x]
def withR (l : List (List Int)) (x : List Int) : List (List Int) := if x ∈ l then l else wE l x
theorem wP_len (l : List (List Int)) (x : List Int) : ∀ i, (wP l x i).1.length ≤ 2 * i
 | 0 => Nat.le_refl _
 | i + 1 => by
  have := wP_len l x i
  unfold wP
  split <;> simp <;> omega
def staN (n : Nat) (r : List Int) : List Int := (n : Int) :: padT r
theorem staN_len {n : Nat} {r : List Int} (h : r.length ≤ 40) : (staN n r).length = 41 := by unfold staN; rw [List.length_cons, padT_len h]
def sgN (n : Nat) (l : List Int) (i : Nat) : List Int := (l.drop (i * n)).take n
theorem sgN_len {n : Nat} {l : List Int} {i : Nat} (h : (i + 1) * n ≤ l.length) : (sgN n l i).length = n := by
 unfold sgN
 rw [List.length_take, List.length_drop]
 rw [Nat.add_mul] at h
 omega
def seenG (n : Nat) (l : List Int) : Nat → List (List Int)
 | 0 => []
 | i + 1 => if staN n (sgN n l i) ∈ seenG n l i then seenG n l i else seenG n l i ++ [staN n (sgN n l i)]
def docG (n : Nat) (l : List Int) : Nat → List (List Int)
 | 0 => []
 | i + 1 => withR (docG n l i) (sgN n l i)
theorem seenG_mem {n : Nat} {l : List Int} {x : List Int} : ∀ {i}, x ∈ seenG n l i → ∃ j, j < i ∧ x = staN n (sgN n l j)
 | 0, h => absurd h (List.not_mem_nil)
 | i + 1, h => by
  unfold seenG at h
  split at h
  ·obtain ⟨j, h1, h2⟩ := seenG_mem h
   exact ⟨j, by omega, h2⟩
  ·rcases List.mem_append.1 h with h | h
   ·obtain ⟨j, h1, h2⟩ := seenG_mem h
    exact ⟨j, by omega, h2⟩
   ·exact ⟨i, by omega, List.mem_singleton.1 h⟩
theorem seenG_nodup (n : Nat) (l : List Int) : ∀ i, (seenG n l i).Nodup
 | 0 => List.nodup_nil
 | i + 1 => by
  unfold seenG
  split
  ·exact seenG_nodup n l i
  ·rename_i h
   exact List.nodup_append.2 ⟨seenG_nodup n l i, by simp, fun a ha b hb e => by rw [List.mem_singleton.1 hb] at e; exact h (e ▸ ha)⟩
theorem seenG_len (n : Nat) (l : List Int) : ∀ i, (seenG n l i).length ≤ i
 | 0 => Nat.le_refl _
 | i + 1 => by
  have := seenG_len n l i
  unfold seenG
  split
  ·omega
  ·rw [List.length_append, List.length_singleton]; omega
theorem withR_mem {l : List (List Int)} {x z : List Int} (h : z ∈ withR l x) : z = x ∨ z ∈ l := by
 have key : ∀ i, i ≤ l.length → ∀ z ∈ (wP l x i).1, z = x ∨ z ∈ l := fun i => by
  induction i with
  | zero => intro _ z hz; exact absurd hz (List.not_mem_nil)
  | succ i ih =>
   intro hi z hz
   have hg : l.getD i [] ∈ l := by simp [List.getD, List.getElem?_eq_getElem (show i < l.length by omega)]
   unfold wP at hz
   split at hz
   ·simp only [List.mem_append, List.mem_singleton] at hz
    rcases hz with (hz | hz) | hz
    ·exact ih (by omega) z hz
    ·exact .inl hz
    ·exact .inr (hz ▸ hg)
   ·simp only [List.mem_append, List.mem_singleton] at hz
    rcases hz with hz | hz
    ·exact ih (by omega) z hz
    ·exact .inr (hz ▸ hg)
 unfold withR at h
 split at h
 ·exact .inr h
 ·unfold wE at h
  split at h
  ·exact key _ (Nat.le_refl _) z h
  ·rcases List.mem_append.1 h with h | h
   ·exact key _ (Nat.le_refl _) z h
   ·exact .inl (List.mem_singleton.1 h)
theorem wE_len (l : List (List Int)) (x : List Int) : (withR l x).length ≤ 2 * l.length + 1 := by
 have := wP_len l x l.length
 unfold withR
 split
 ·omega
 ·unfold wE; split <;> simp <;> omega
theorem docG_len (n : Nat) (l : List Int) : ∀ i, i ≤ 12 → (docG n l i).length + 1 ≤ 2 ^ i
 | 0, _ => Nat.le_refl _
 | i + 1, hi => by
  have := docG_len n l i (by omega)
  have h2 := wE_len (docG n l i) (sgN n l i)
  unfold docG
  rw [Nat.pow_succ]; omega
theorem docG_row {n : Nat} {l : List Int} : ∀ {i}, i * n ≤ l.length → ∀ x ∈ docG n l i, x.length = n
 | 0, _, x, hx => absurd hx (List.not_mem_nil)
 | i + 1, h, x, hx => by
  have h' : i * n ≤ l.length := Nat.le_trans (Nat.mul_le_mul_right _ (Nat.le_succ _)) h
  unfold docG at hx
  rcases withR_mem hx with rfl | hx
  ·exact sgN_len h
  ·exact docG_row h' x hx
open Go Go.Sl Go.Proofs.Tryd
theorem lessU_pf (a b : List Int) (hl : a.length ≤ b.length) (hm : b.length ≤ 1000000) : Pf Tryd.prog 67 [.ro 1 (uVs a), .ro 1 (uVs b)] (bV (lessB a b)) := by
 refine Pf.of_fn (.cons (nl_uVs a) (.cons (nl_uVs b) .nil)) (.val _) ?_
 refine fn_in T_ok func67 rfl rfl ntmps67 rfl (by simp) ?_
 refine region_k T_ok (by decide) fun K hK => ?_
 simp [go_sem]
 refine hK _ ?_; clear hK K
 refine seq_k fun K1 hK1 => ?_
 refine region_k T_ok (by decide) fun K hK => ?_
 simp [go_sem]
 refine hK _ ?_; clear hK K
 refine tr_block ?_
 refine loop_p (α := Nat × Nat) (fun q => ⟨30, [(0, .ro 1 (uVs a)), (1, .ro 1 (uVs b)), (7, iV (a.length : Nat)), (8, iV (q.1 : Nat))], [], q.2⟩) (fun q => q.1 ≤ a.length ∧ lessB a b = lessB (a.drop q.1) (b.drop q.1)) (fun q => a.length - q.1) (0, 0) ?_ ?_ ?_
 ·exact ⟨Nat.zero_le _, by rw [List.drop_zero, List.drop_zero]⟩
 ·refine Weaker.fzk 1 0 (by first | omega | (dsimp only; omega)) ?_ ?_ ?_
  ·simp [go_sem]
  ·first | (simp; done) | (simp; omega)
  ·simp [go_sem]
 rintro ⟨i, j⟩ ⟨hi, hlb⟩
 dsimp only at hi hlb ⊢
 refine region_k T_ok (by decide) fun K hK => ?_
 simp [go_sem]
 refine hK _ ?_; clear hK K
 refine seq_k fun K2 hK2 => ?_
 refine cond_k rfl (fun h => ?_) (fun h => ?_)
 ·have hia : i < a.length := by simp at h; omega
  clear h
  have hn1 : i < a.length := by omega
  obtain ⟨x, hx1, hx'1⟩ := getAt hn1
  have hI1 : (i : Int) < (a.length : Nat) := by omega
  have hn2 : i < b.length := by omega
  obtain ⟨y, hx2, hx'2⟩ := getAt hn2
  have hI2 : (i : Int) < (b.length : Nat) := by omega
  have hi0 : (0 : Int) ≤ (i : Nat) := by omega
  have hw : IntKind.i64.wrap ((i : Nat) + 1) = (i : Nat) + 1 := wrap_i64 (by omega) (by omega)
  refine tr_skip ?_
  refine hK2 _ ?_; try clear hK2 K2
  refine seq_k fun K3 hK3 => ?_
  refine tr_block ?_
  refine region_k T_ok (by decide) fun K hK => ?_
  simp [go_sem]
  refine hK _ ?_; clear hK K
  refine draw_k T_ok (by kernel_rfl) 8 [[], [], [0, 1], [0, 1, 2], [], [], [4, 5], [4, 5, 6], [0, 1, 2, 3, 4, 5, 6, 7]] [] (by decide) (by decide) (by decide) fun K hK => ?_
  first | dsimp only [List.take, List.drop] | dsimp [List.take, List.drop]
  simp [go_sem, hn1, hx1, hx'1, hI1, hn2, hx2, hx'2, hI2, hi0]
  refine hK _ ?_; clear hK K
  refine cond_k rfl (fun h => ?_) (fun h => ?_)
  ·have hxy : ¬ x = y := by simpa using h
   clear h
   have hv : lessB a b = decide (x < y) := by rw [hlb, lessB_at hx1 hx2, if_neg hxy]
   refine draw_k T_ok (by kernel_rfl) 8 [[], [], [0, 1], [0, 1, 2], [], [], [4, 5], [4, 5, 6], [0, 1, 2, 3, 4, 5, 6, 7], [0, 1, 2, 3, 4, 5, 6, 7, 8]] [] (by decide) (by decide) (by decide) fun K hK => ?_
   first | dsimp only [List.take, List.drop] | dsimp [List.take, List.drop]
   simp [go_sem, hn1, hx1, hx'1, hI1, hn2, hx2, hx'2, hI2, hi0]
   refine hK _ ?_; clear hK K
   refine tr_ret ⟨.inr rfl, ?_⟩
   simp [go_sem, hv]
  ·have hxy : x = y := by simpa using h
   clear h
   refine tr_skip ?_
   refine hK3 _ ?_; try clear hK3 K3
   refine region_e T_ok (by decide) fun K hK => ?_
   simp [go_sem, hw]
   refine hK _ ?_; clear hK K
   refine ⟨(i + 1, j + 40), ?_, ?_, ?_⟩
   ·dsimp only; exact ⟨by omega, by rw [hlb, lessB_at hx1 hx2, if_pos hxy]⟩
   ·dsimp only; omega
   ·refine Weaker.fzk 1 0 (by first | omega | (dsimp only; omega)) ?_ ?_ ?_
    ·simp [go_sem]
    ·first | (simp; done) | (simp; omega)
    simp [go_sem]
 ·obtain rfl : i = a.length := by simp at h; omega
  clear h
  have hf : lessB a b = false := by rw [hlb, lessB_end]
  refine tr_exit ?_
  refine hK1 _ ?_; try clear hK1 K1
  refine region_k T_ok (by decide) fun K hK => ?_
  simp [go_sem]
  refine hK _ ?_; clear hK K
  refine tr_ret ⟨.inr rfl, ?_⟩
  simp [go_sem, hf]
theorem same_pf (a b : List Int) (ha : a.length ≤ 1000000) (hm : b.length ≤ 1000000) : Pf Tryd.prog 19 [.ro 1 (uVs a), .ro 1 (uVs b)] (bV (decide (a = b))) := by
 refine Pf.of_fn (.cons (nl_uVs a) (.cons (nl_uVs b) .nil)) (.val _) ?_
 refine fn_in T_ok func19 rfl rfl ntmps19 rfl (by simp) ?_
 refine region_k T_ok (by decide) fun K hK => ?_
 simp [go_sem]
 refine hK _ ?_; clear hK K
 refine seq_k fun K1 hK1 => ?_
 refine region_k T_ok (by decide) fun K hK => ?_
 simp [go_sem]
 refine hK _ ?_; clear hK K
 refine cond_k rfl (fun h => ?_) (fun h => ?_)
 ·have hne : ¬ a.length = b.length := by simp at h; omega
  clear h
  have hf : ¬ a = b := fun e => hne (by rw [e])
  refine region_k T_ok (by decide) fun K hK => ?_
  simp [go_sem]
  refine hK _ ?_; clear hK K
  refine tr_ret ⟨.inr rfl, ?_⟩
  simp [go_sem, hf]
 ·have heq : a.length = b.length := by simp at h; omega
  clear h
  refine tr_skip ?_
  refine hK1 _ ?_; try clear hK1 K1
  refine seq_k fun K2 hK2 => ?_
  refine region_k T_ok (by decide) fun K hK => ?_
  simp [go_sem]
  refine hK _ ?_; clear hK K
  refine tr_block ?_
  refine loop_p (α := Nat × Nat) (fun q => ⟨26, [(0, .ro 1 (uVs a)), (1, .ro 1 (uVs b)), (12, iV (a.length : Nat)), (13, iV (q.1 : Nat))], [], q.2⟩) (fun q => q.1 ≤ a.length ∧ ∀ k, k < q.1 → a[k]? = b[k]?) (fun q => a.length - q.1) (0, 0) ?_ ?_ ?_
  ·exact ⟨Nat.zero_le _, fun k hk => absurd hk (Nat.not_lt_zero _)⟩
  ·refine Weaker.fzk 1 0 (by first | omega | (dsimp only; omega)) ?_ ?_ ?_
   ·simp [go_sem]
   ·first | (simp; done) | (simp; omega)
   ·simp [go_sem]
  rintro ⟨i, j⟩ ⟨hi, hlb⟩
  dsimp only at hi hlb ⊢
  refine region_k T_ok (by decide) fun K hK => ?_
  simp [go_sem]
  refine hK _ ?_; clear hK K
  refine seq_k fun K3 hK3 => ?_
  refine cond_k rfl (fun h => ?_) (fun h => ?_)
  ·have hia : i < a.length := by simp at h; omega
   clear h
   have hn1 : i < a.length := by omega
   obtain ⟨x, hx1, hx'1⟩ := getAt hn1
   have hI1 : (i : Int) < (a.length : Nat) := by omega
   have hn2 : i < b.length := by omega
   obtain ⟨y, hx2, hx'2⟩ := getAt hn2
   have hI2 : (i : Int) < (b.length : Nat) := by omega
   have hi0 : (0 : Int) ≤ (i : Nat) := by omega
   have hw : IntKind.i64.wrap ((i : Nat) + 1) = (i : Nat) + 1 := wrap_i64 (by omega) (by omega)
   refine tr_skip ?_
   refine hK3 _ ?_; try clear hK3 K3
   refine seq_k fun K4 hK4 => ?_
   refine tr_block ?_
   refine region_k T_ok (by decide) fun K hK => ?_
   simp [go_sem]
   refine hK _ ?_; clear hK K
   refine draw_k T_ok (by kernel_rfl) 8 [[], [], [0, 1], [0, 1, 2], [], [], [4, 5], [4, 5, 6], [0, 1, 2, 3, 4, 5, 6, 7]] [] (by decide) (by decide) (by decide) fun K hK => ?_
   first | dsimp only [List.take, List.drop] | dsimp [List.take, List.drop]
   simp [go_sem, hn1, hx1, hx'1, hI1, hn2, hx2, hx'2, hI2, hi0]
   refine hK _ ?_; clear hK K
   refine cond_k rfl (fun h => ?_) (fun h => ?_)
   ·have hxy : ¬ x = y := by simpa using h
    clear h
    have hf : ¬ a = b := fun e => hxy (by rw [e, hx2] at hx1; exact (Option.some.inj hx1).symm)
    refine region_k T_ok (by decide) fun K hK => ?_
    simp [go_sem]
    refine hK _ ?_; clear hK K
    refine tr_ret ⟨.inr rfl, ?_⟩
    simp [go_sem, hf]
   ·have hxy : x = y := by simpa using h
    clear h
    refine tr_skip ?_
    refine hK4 _ ?_; try clear hK4 K4
    refine region_e T_ok (by decide) fun K hK => ?_
    simp [go_sem, hw]
    refine hK _ ?_; clear hK K
    refine ⟨(i + 1, j + 40), ?_, ?_, ?_⟩
    ·dsimp only; exact ⟨by omega, fun k hk => by rcases Nat.lt_or_ge k i with h | h; exact hlb k h; obtain rfl : k = i := (by omega); rw [hx1, hx2, hxy]⟩
    ·dsimp only; omega
    ·refine Weaker.fzk 1 0 (by first | omega | (dsimp only; omega)) ?_ ?_ ?_
     ·simp [go_sem]
     ·first | (simp; done) | (simp; omega)
     simp [go_sem]
  ·obtain rfl : i = a.length := by simp at h; omega
   clear h
   have hf : a = b := List.ext_getElem? fun k => by
    rcases Nat.lt_or_ge k a.length with h | h
    ·exact hlb k h
    ·rw [List.getElem?_eq_none h, List.getElem?_eq_none (by omega)]
   refine tr_exit ?_
   refine hK2 _ ?_; try clear hK2 K2
   refine region_k T_ok (by decide) fun K hK => ?_
   simp [go_sem]
   refine hK _ ?_; clear hK K
   refine tr_ret ⟨.inr rfl, ?_⟩
   simp [go_sem, hf]
theorem toldS_pf (c : Nat) (hc : c ≤ 40) (r : List Int) (hr : r.length = 40) : Pf Tryd.prog 20 [.agg (iV (c : Nat) :: uVs r)] (.ro 1 (uVs (r.take c))) := by
 refine Pf.of_fz 1 (.cons (.agg (nl_stK ((c : Int) :: r))) .nil) (nl_uVs _) ?_
 have hc0 : (0 : Int) ≤ (c : Nat) := by omega
 have hc40 : (c : Int) ≤ 40 := by omega
 have hm1 : ¬ (c : Int) < 0 := by omega
 have hm2 : ¬ (40 : Int) < (c : Nat) := by omega
 refine fn_in T_ok func20 rfl rfl ntmps20 rfl (by simp) ?_
 refine region_k T_ok (by decide) fun K hK => ?_
 simp [go_sem, hr, us_ones]
 refine hK _ ?_; clear hK K
 refine region_k T_ok (by decide) fun K hK => ?_
 simp [go_sem, hc0, hc40, hm1, hm2]
 refine hK _ ?_; clear hK K
 refine region_k T_ok (by decide) fun K hK => ?_
 simp [go_sem]
 refine hK _ ?_; clear hK K
 refine seq_k fun K1 hK1 => ?_
 refine region_k T_ok (by decide) fun K hK => ?_
 simp [go_sem]
 refine hK _ ?_; clear hK K
 refine tr_block ?_
 refine loop_p (α := Nat × Nat) (fun q => ⟨24, [(1, .ptr 0 0 0), (3, iV (c : Nat)), (4, .sl q.2 0 q.1), (5, iV (q.1 : Nat))], [(q.2, .rows 1 (uVs (r.take q.1))), (0, .rows 41 [.agg (iV (c : Nat) :: uVs r)])], q.2 + 1⟩) (fun q => q.1 ≤ c ∧ 0 < q.2) (fun q => c - q.1) (0, 1) ?_ ?_ ?_
 ·dsimp only; omega
 ·refine Weaker.fzk 1 0 (by first | omega | (dsimp only; omega)) ?_ ?_ ?_
  ·simp [go_sem]
  ·first | (simp; done) | (simp; omega)
  ·simp [go_sem, uVs]
 rintro ⟨i, j⟩ ⟨hi, hj⟩
 dsimp only at hi hj ⊢
 refine seq_k fun K2 hK2 => ?_
 refine region_k T_ok (by decide) fun K hK => ?_
 simp [go_sem]
 refine hK _ ?_; clear hK K
 refine cond_k rfl (fun h => ?_) (fun h => ?_)
 ·have hic : i < c := by simp at h; omega
  clear h
  have hn1 : i < r.length := by omega
  obtain ⟨v, hx1, hx'1⟩ := getAt hn1
  have hI1 : (i : Int) < (r.length : Nat) := by omega
  have hi41 : 1 + i ≤ 40 := by omega
  have hI40 : (i : Int) < 40 := by omega
  have hi0 : (0 : Int) ≤ (i : Nat) := by omega
  have hvg : (iV (c : Nat) :: uVs r)[1 + i]?.getD V.any = uV v := by rw [Nat.add_comm]; simp [uVs, hx1]
  have n1 : ¬ j = 0 := by omega
  have n2 : ¬ 0 = j := by omega
  have hts : r.take (i + 1) = r.take i ++ [v] := takeAt hx1
  have htl : (r.take i).length = i := by rw [List.length_take]; omega
  have hw : IntKind.i64.wrap ((i : Nat) + 1) = (i : Nat) + 1 := wrap_i64 (by omega) (by omega)
  refine tr_skip ?_
  refine hK2 _ ?_; try clear hK2 K2
  refine seq_k fun K3 hK3 => ?_
  refine tr_block ?_
  refine region_e T_ok (by decide) fun K hK => ?_
  simp [go_sem, hI40, hi41, hvg, hi0, n1, n2, htl]
  first | (refine ⟨by omega, ?_⟩) | skip
  refine hK _ ?_; clear hK K
  refine hK3 _ ?_; try clear hK3 K3
  refine region_e T_ok (by decide) fun K hK => ?_
  simp [go_sem, hw]
  refine hK _ ?_; clear hK K
  refine ⟨(i + 1, j + 2), ?_, ?_, ?_⟩
  ·dsimp only; omega
  ·dsimp only; omega
  ·refine Weaker.fzk 1 0 (by first | omega | (dsimp only; omega)) ?_ ?_ ?_
   ·simp [go_sem, n1, n2]
   ·first | (simp; done) | (simp; omega)
   simp [go_sem, n1, n2, hts]
   rw [List.take_take, Nat.min_self, uVs_append]
 ·obtain rfl : i = c := by simp at h; omega
  clear h
  have htc : (r.take i).length = i := by rw [List.length_take]; omega
  refine tr_exit ?_
  refine hK1 _ ?_; try clear hK1 K1
  refine region_k T_ok (by decide) fun K hK => ?_
  simp [go_sem]
  refine hK _ ?_; clear hK K
  refine tr_ret ⟨.inr rfl, ?_⟩
  simp [go_sem, htc]
  rw [List.take_take, Nat.min_self]
set_option maxHeartbeats 4000000 in
theorem withR_pf (l : List (List Int)) (x : List Int) (hr : ∀ r ∈ l, r.length = x.length) (hx : x.length ≤ 1000000) (hl : l.length ≤ 1000000) : Pf Tryd.prog 29 [.ro 1 (rowU l), .ro 1 (uVs x)] (.ro 1 (rowU (withR l x))) := by
 refine Pf.of_fz 1 (.cons (nl_rowU l) (.cons (nl_uVs x) .nil)) (nl_rowU _) ?_
 refine fn_in T_ok func29 rfl rfl ntmps29 rfl (by simp) ?_
 refine region_k T_ok (by decide) fun K hK => ?_
 simp [go_sem]
 refine hK _ ?_; clear hK K
 refine seq_k fun K1 hK1 => ?_
 refine region_k T_ok (by decide) fun K hK => ?_
 simp [go_sem]
 refine hK _ ?_; clear hK K
 refine tr_block ?_
 refine loop_p (α := Nat × Nat) (fun q => ⟨52, [(0, .ro 1 (rowU l)), (1, .ro 1 (uVs x)), (11, .ro 1 (rowU l)), (12, iV (l.length : Nat)), (13, iV (q.1 : Nat))], [], q.2⟩) (fun q => q.1 ≤ l.length ∧ ∀ k, k < q.1 → l[k]? ≠ some x) (fun q => l.length - q.1) (0, 0) ?_ ?_ ?_
 ·exact ⟨Nat.zero_le _, fun k hk => absurd hk (Nat.not_lt_zero _)⟩
 ·refine Weaker.fzk 1 0 (by first | omega | (dsimp only; omega)) ?_ ?_ ?_
  ·simp [go_sem]
  ·first | (simp; done) | (simp; omega)
  ·simp [go_sem]
 rintro ⟨i, kk⟩ ⟨hi, hne⟩
 dsimp only at hi hne ⊢
 refine region_k T_ok (by decide) fun K hK => ?_
 simp [go_sem]
 refine hK _ ?_; clear hK K
 refine seq_k fun K2 hK2 => ?_
 refine cond_k rfl (fun h => ?_) (fun h => ?_)
 ·have hil : i < l.length := by simp at h; omega
  clear h
  have hn1 : i < l.length := by omega
  obtain ⟨y, hx1, hx'1⟩ := getAt hn1
  have hI1 : (i : Int) < (l.length : Nat) := by omega
  have hi0 : (0 : Int) ≤ (i : Nat) := by omega
  have hw : IntKind.i64.wrap ((i : Nat) + 1) = (i : Nat) + 1 := wrap_i64 (by omega) (by omega)
  have hyl := hr y (List.mem_of_getElem? hx1)
  refine tr_skip ?_
  refine hK2 _ ?_; try clear hK2 K2
  refine seq_k fun K3 hK3 => ?_
  refine tr_block ?_
  refine region_k T_ok (by decide) fun K hK => ?_
  simp [go_sem, hn1, hx1, hx'1, hI1, hi0]
  refine hK _ ?_; clear hK K
  refine region_k T_ok (by decide) fun K hK => ?_
  simp [go_sem]
  refine call_pf (same_pf y x (by omega) hx) ?_
  simp [go_sem]
  refine hK _ ?_; clear hK K
  refine cond_k rfl (fun h => ?_) (fun h => ?_)
  ·have hxy : y = x := by simpa using h
   clear h
   have hwr : withR l x = l := if_pos (hxy ▸ List.mem_of_getElem? hx1)
   refine region_k T_ok (by decide) fun K hK => ?_
   simp [go_sem]
   refine hK _ ?_; clear hK K
   refine tr_ret ⟨.inr rfl, ?_⟩
   simp [go_sem, hwr]
  ·have hxy : ¬ y = x := by simpa using h
   clear h
   refine tr_skip ?_
   refine hK3 _ ?_; try clear hK3 K3
   refine region_e T_ok (by decide) fun K hK => ?_
   simp [go_sem, hw]
   refine hK _ ?_; clear hK K
   refine ⟨(i + 1, kk + 40), ?_, ?_, ?_⟩
   ·dsimp only; exact ⟨by omega, fun k hk => by rcases Nat.lt_or_ge k i with h | h; exact hne k h; obtain rfl : k = i := (by omega); rw [hx1]; exact fun e => hxy (Option.some.inj e)⟩
   ·dsimp only; omega
   ·refine Weaker.fzk 1 0 (by first | omega | (dsimp only; omega)) ?_ ?_ ?_
    ·simp [go_sem]
    ·first | (simp; done) | (simp; omega)
    simp [go_sem]
 ·obtain rfl : i = l.length := by simp at h; omega
  clear h
  have hno : x ∉ l := fun hm => by
   obtain ⟨k, hk, e⟩ := List.mem_iff_getElem.1 hm
   exact hne k hk (by rw [List.getElem?_eq_getElem hk, e])
  refine tr_exit ?_
  refine hK1 _ ?_; try clear hK1 K1
  refine region_k T_ok (by decide) fun K hK => ?_
  simp [go_sem]
  refine hK _ ?_; clear hK K
  refine region_k T_ok (by decide) fun K hK => ?_
  simp [go_sem]
  refine hK _ ?_; clear hK K
  refine seq_k fun K4 hK4 => ?_
  refine region_k T_ok (by decide) fun K hK => ?_
  simp [go_sem]
  refine hK _ ?_; clear hK K
  refine tr_block ?_
  refine loop_p (α := Nat × Nat) (fun q => ⟨52, [(0, .ro 1 (rowU l)), (1, .ro 1 (uVs x)), (7, .sl q.2 0 (wP l x q.1).1.length), (8, bV (wP l x q.1).2), (23, .ro 1 (rowU l)), (24, iV (l.length : Nat)), (25, iV (q.1 : Nat))], [(q.2, .rows 1 (rowU (wP l x q.1).1))], q.2 + 1⟩) (fun q => q.1 ≤ l.length) (fun q => l.length - q.1) (0, kk) ?_ ?_ ?_
  ·exact Nat.zero_le _
  ·refine Weaker.fzk 1 0 (by first | omega | (dsimp only; omega)) ?_ ?_ ?_
   ·simp [go_sem, wP]
   ·first | (simp; done) | (simp; omega)
   ·simp [go_sem, wP, rowU_nil]
  rintro ⟨i, j⟩ hi2
  dsimp only at hi2 ⊢
  refine region_k T_ok (by decide) fun K hK => ?_
  simp [go_sem]
  refine hK _ ?_; clear hK K
  refine seq_k fun K5 hK5 => ?_
  refine cond_k rfl (fun h => ?_) (fun h => ?_)
  ·have hil : i < l.length := by simp at h; omega
   clear h
   have hn2 : i < l.length := by omega
   obtain ⟨y, hx2, hx'2⟩ := getAt hn2
   have hI2 : (i : Int) < (l.length : Nat) := by omega
   have hi0 : (0 : Int) ≤ (i : Nat) := by omega
   have hw : IntKind.i64.wrap ((i : Nat) + 1) = (i : Nat) + 1 := wrap_i64 (by omega) (by omega)
   have hyl := hr y (List.mem_of_getElem? hx2)
   have hwl := wP_len l x i
   have hg : l.getD i [] = y := by simp [List.getD, hx2]
   obtain ⟨o, ho⟩ : ∃ o, (wP l x i).1 = o := ⟨_, rfl⟩
   obtain ⟨d, hd⟩ : ∃ d, (wP l x i).2 = d := ⟨_, rfl⟩
   rw [ho] at hwl ⊢
   rw [hd]
   have n1 : ¬ j = j + 1 := by omega
   have n2 : ¬ j + 1 = j := by omega
   have n3 : ¬ j + 2 = j + 3 := by omega
   have n4 : ¬ j + 3 = j + 2 := by omega
   refine tr_skip ?_
   refine hK5 _ ?_; try clear hK5 K5
   refine seq_k fun K6 hK6 => ?_
   refine tr_block ?_
   refine region_k T_ok (by decide) fun K hK => ?_
   simp [go_sem, hn2, hx2, hx'2, hI2, hi0]
   refine hK _ ?_; clear hK K
   refine seq_k fun K7 hK7 => ?_
   refine region_k T_ok (by decide) fun K hK => ?_
   cases d
   rotate_left
   ·simp [go_sem]
    refine hK _ ?_; clear hK K
    refine cond_k rfl (fun h => ?_) (fun h => ?_)
    ·simp at h
    ·clear h
     have hwn : wP l x (i + 1) = (o ++ [y], true) := by rw [wP, hd, ho, hg]; simp
     refine tr_skip ?_
     refine hK7 _ ?_; try clear hK7 K7
     refine region_e T_ok (by decide) fun K hK => ?_
     simp [go_sem, n1, n2, n3, n4]
     refine ⟨by omega, ?_⟩
     refine hK _ ?_; clear hK K
     refine hK6 _ ?_; try clear hK6 K6
     refine region_e T_ok (by decide) fun K hK => ?_
     simp [go_sem, hw]
     refine hK _ ?_; clear hK K
     refine ⟨(i + 1, j + 2), ?_, ?_, ?_⟩
     ·dsimp only; omega
     ·dsimp only; omega
     ·refine Weaker.fzk 1 0 (by first | omega | (dsimp only; omega)) ?_ ?_ ?_
      ·simp [go_sem, hwn]
      ·first | (simp; done) | (simp; omega)
      simp [go_sem, hwn, rowU_append, List.take_of_length_le]
   ·simp [go_sem]
    refine call_pf (lessU_pf x y (by omega) (by omega)) ?_
    simp [go_sem]
    refine hK _ ?_; clear hK K
    refine cond_k rfl (fun h => ?_) (fun h => ?_)
    ·have hls : lessB x y = true := by simpa using h
     clear h
     have hwn : wP l x (i + 1) = (o ++ [x] ++ [y], true) := by rw [wP, hd, ho, hg]; simp [hls]
     refine region_k T_ok (by decide) fun K hK => ?_
     simp [go_sem, n1, n2]
     refine ⟨by omega, ?_⟩
     refine hK _ ?_; clear hK K
     refine region_e T_ok (by decide) fun K hK => ?_
     simp [go_sem]
     refine hK _ ?_; clear hK K
     refine hK7 _ ?_; try clear hK7 K7
     refine region_e T_ok (by decide) fun K hK => ?_
     simp [go_sem, n1, n2, n3, n4]
     refine ⟨by omega, ?_⟩
     refine hK _ ?_; clear hK K
     refine hK6 _ ?_; try clear hK6 K6
     refine region_e T_ok (by decide) fun K hK => ?_
     simp [go_sem, hw]
     refine hK _ ?_; clear hK K
     refine ⟨(i + 1, j + 4), ?_, ?_, ?_⟩
     ·dsimp only; omega
     ·dsimp only; omega
     ·refine Weaker.fzk 1 0 (by first | omega | (dsimp only; omega)) ?_ ?_ ?_
      ·simp [go_sem, hwn]
      ·first | (simp; done) | (simp; omega)
      simp [go_sem, hwn, rowU_append, List.take_of_length_le]
    ·have hls : lessB x y = false := by simpa using h
     clear h
     have hwn : wP l x (i + 1) = (o ++ [y], false) := by rw [wP, hd, ho, hg]; simp [hls]
     refine tr_skip ?_
     refine hK7 _ ?_; try clear hK7 K7
     refine region_e T_ok (by decide) fun K hK => ?_
     simp [go_sem, n1, n2, n3, n4]
     refine ⟨by omega, ?_⟩
     refine hK _ ?_; clear hK K
     refine hK6 _ ?_; try clear hK6 K6
     refine region_e T_ok (by decide) fun K hK => ?_
     simp [go_sem, hw]
     refine hK _ ?_; clear hK K
     refine ⟨(i + 1, j + 2), ?_, ?_, ?_⟩
     ·dsimp only; omega
     ·dsimp only; omega
     ·refine Weaker.fzk 1 0 (by first | omega | (dsimp only; omega)) ?_ ?_ ?_
      ·simp [go_sem, hwn]
      ·first | (simp; done) | (simp; omega)
      simp [go_sem, hwn, rowU_append, List.take_of_length_le]
  ·obtain rfl : i = l.length := by simp at h; omega
   clear h
   have hwl := wP_len l x l.length
   obtain ⟨o, ho⟩ : ∃ o, (wP l x l.length).1 = o := ⟨_, rfl⟩
   obtain ⟨d, hd⟩ : ∃ d, (wP l x l.length).2 = d := ⟨_, rfl⟩
   rw [ho] at hwl ⊢
   rw [hd]
   have hwr : withR l x = if d = true then o else o ++ [x] := by unfold withR wE; rw [if_neg hno, ho, hd]
   have n1 : ¬ j = j + 1 := by omega
   have n2 : ¬ j + 1 = j := by omega
   refine tr_exit ?_
   refine hK4 _ ?_; try clear hK4 K4
   refine seq_k fun K8 hK8 => ?_
   refine region_k T_ok (by decide) fun K hK => ?_
   simp [go_sem]
   refine hK _ ?_; clear hK K
   refine cond_k rfl (fun h => ?_) (fun h => ?_)
   ·have hdf : d = false := by simpa using h
    clear h
    refine region_e T_ok (by decide) fun K hK => ?_
    simp [go_sem, n1, n2]
    refine ⟨by omega, ?_⟩
    refine hK _ ?_; clear hK K
    refine hK8 _ ?_; try clear hK8 K8
    refine region_k T_ok (by decide) fun K hK => ?_
    simp [go_sem]
    refine hK _ ?_; clear hK K
    refine tr_ret ⟨.inr rfl, ?_⟩
    simp [go_sem, hwr, hdf, rowU_append, List.take_of_length_le]
   ·have hdt : d = true := by simpa using h
    clear h
    refine tr_skip ?_
    refine hK8 _ ?_; try clear hK8 K8
    refine region_k T_ok (by decide) fun K hK => ?_
    simp [go_sem]
    refine hK _ ?_; clear hK K
    refine tr_ret ⟨.inr rfl, ?_⟩
    simp [go_sem, hwr, hdt, List.take_of_length_le]
open Go Go.Sl Go.Proofs.Tryd
def nnG (n : Int) : Nat := ((n.tmod 7 + 7).tmod 7).toNat
theorem nnG_spec (n : Int) : (n.tmod 7 + 7).tmod 7 = (nnG n : Nat) ∧ nnG n ≤ 6 ∧ -7 < n.tmod 7 ∧ n.tmod 7 < 7 := by
 have h1 : -7 < n.tmod 7 ∧ n.tmod 7 < 7 := ⟨Int.lt_tmod_of_pos n (by decide), Int.tmod_lt_of_pos n (by decide)⟩
 have h2 := Int.tmod_eq_emod_of_nonneg (a := n.tmod 7 + 7) (b := 7) (by omega)
 unfold nnG
 omega
def cntG (n : Nat) (l : List Int) : Nat := if n = 0 then 0 else min 12 (l.length / n)
theorem cntG_end {n i : Nat} {l : List Int} (h1 : i ≤ 12) (h2 : i * n ≤ l.length) (h3 : i = 0 ∨ 0 < n) (h : ¬ (i < 12 ∧ 0 < n ∧ (i + 1) * n ≤ l.length)) : i = cntG n l := by
 unfold cntG
 split
 ·omega
 ·have hn : 0 < n := by omega
  have h4 : i ≤ l.length / n := (Nat.le_div_iff_mul_le hn).2 h2
  rcases Nat.lt_or_ge i 12 with h5 | h5
  ·have h6 : ¬ (i + 1) * n ≤ l.length := fun h7 => h ⟨h5, hn, h7⟩
   have h7 : ¬ i + 1 ≤ l.length / n := fun h8 => h6 ((Nat.le_div_iff_mul_le hn).1 h8)
   omega
  ·omega
def z40 : List Int := List.replicate 40 0
theorem uVs_z40 : uVs z40 = [uV 0, uV 0, uV 0, uV 0, uV 0, uV 0, uV 0, uV 0, uV 0, uV 0, uV 0, uV 0, uV 0, uV 0, uV 0, uV 0, uV 0, uV 0, uV 0, uV 0, uV 0, uV 0, uV 0, uV 0, uV 0, uV 0, uV 0, uV 0, uV 0, uV 0, uV 0, uV 0, uV 0, uV 0, uV 0, uV 0, uV 0, uV 0, uV 0, uV 0] := rfl
theorem cells_uVs (l : List Int) : (uVs l).flatMap V.cells = uVs l := by
 unfold uVs; rw [List.flatMap_map]; exact (List.map_eq_flatMap ..).symm
theorem z40_pad {n : Nat} {r : List Int} (h : r.length = n) (hn : n ≤ 40) (m : Int) : uVs r ++ List.drop (1 + n) (iV m :: uVs z40) = uVs (padT r) := by
 have e : uVs r ++ uVs (List.drop n z40) = uVs (r ++ List.drop n z40) := (List.map_append ..).symm
 rw [Nat.add_comm, List.drop_succ_cons, uVs_drop, e, padT, h, z40, List.drop_replicate]
theorem z40_len : z40.length = 40 := rfl
def toldL (q : List Int) : List Int := (q.drop 1).take (q.getD 0 0).toNat
theorem toldL_c (c : Nat) (r : List Int) : toldL ((c : Int) :: r) = r.take c := by simp [toldL]
theorem sameS_pf (s l : List (List Int)) (hs : ∀ q ∈ s, ∃ (c : Nat) (r : List Int), q = (c : Int) :: r ∧ c ≤ 40 ∧ r.length = 40) (hl : ∀ r ∈ l, r.length ≤ 1000) (h1 : s.length ≤ 1000000) (h2 : l.length ≤ 1000000) : Pf Tryd.prog 30 [.ro 41 (stR s), .ro 1 (rowU l)] (iV (if s.map toldL = l then 0 else -1)) := by
 refine Pf.of_fn (.cons (nl_stR s) (.cons (nl_rowU l) .nil)) (.val _) ?_
 refine fn_in T_ok func30 rfl rfl ntmps30 rfl (by simp) ?_
 refine region_k T_ok (by decide) fun K hK => ?_
 simp [go_sem]
 refine hK _ ?_; clear hK K
 refine seq_k fun K1 hK1 => ?_
 refine region_k T_ok (by decide) fun K hK => ?_
 simp [go_sem]
 refine hK _ ?_; clear hK K
 refine cond_k rfl (fun h => ?_) (fun h => ?_)
 ·have hne : ¬ s.length = l.length := by simp at h; omega
  clear h
  have hf : ¬ s.map toldL = l := fun e => hne (by rw [← e, List.length_map])
  refine region_k T_ok (by decide) fun K hK => ?_
  simp [go_sem]
  refine hK _ ?_; clear hK K
  refine tr_ret ⟨.inr rfl, ?_⟩
  simp [go_sem, hf]
 ·have heq : s.length = l.length := by simp at h; omega
  clear h
  refine tr_skip ?_
  refine hK1 _ ?_; try clear hK1 K1
  refine seq_k fun K2 hK2 => ?_
  refine region_k T_ok (by decide) fun K hK => ?_
  simp [go_sem]
  refine hK _ ?_; clear hK K
  refine tr_block ?_
  refine loop_p (α := Nat × Nat) (fun q => ⟨28, [(0, .ro 41 (stR s)), (1, .ro 1 (rowU l)), (12, iV (l.length : Nat)), (13, iV (q.1 : Nat))], [], q.2⟩) (fun q => q.1 ≤ l.length ∧ ∀ k, k < q.1 → (s.map toldL)[k]? = l[k]?) (fun q => l.length - q.1) (0, 0) ?_ ?_ ?_
  ·exact ⟨Nat.zero_le _, fun k hk => absurd hk (Nat.not_lt_zero _)⟩
  ·refine Weaker.fzk 1 0 (by first | omega | (dsimp only; omega)) ?_ ?_ ?_
   ·simp [go_sem]
   ·first | (simp; done) | (simp; omega)
   ·simp [go_sem]
  rintro ⟨i, j⟩ ⟨hi, hlb⟩
  dsimp only at hi hlb ⊢
  refine region_k T_ok (by decide) fun K hK => ?_
  simp [go_sem]
  refine hK _ ?_; clear hK K
  refine seq_k fun K3 hK3 => ?_
  refine cond_k rfl (fun h => ?_) (fun h => ?_)
  ·have hia : i < l.length := by simp at h; omega
   clear h
   have hn1 : i < (s).length := by omega
   obtain ⟨x, hx1, hx'1⟩ := getAt hn1
   have hI1 : (i : Int) < ((s).length : Nat) := by omega
   have hn2 : i < (l).length := by omega
   obtain ⟨y, hx2, hx'2⟩ := getAt hn2
   have hI2 : (i : Int) < ((l).length : Nat) := by omega
   have hi0 : (0 : Int) ≤ (i : Nat) := by omega
   have hw : IntKind.i64.wrap ((i : Nat) + 1) = (i : Nat) + 1 := wrap_i64 (by omega) (by omega)
   obtain ⟨c, r, rfl, hc, hr⟩ := hs x (List.mem_of_getElem? hx1)
   have hyl := hl y (List.mem_of_getElem? hx2)
   have hxl : (stK ((c : Int) :: r)).length = 41 := by rw [stK_len]; simp [hr]
   have hxt : List.take 41 (stK ((c : Int) :: r)) = stK ((c : Int) :: r) := List.take_of_length_le (by omega)
   have hmx : (s.map toldL)[i]? = some (r.take c) := by rw [List.getElem?_map, hx1]; exact congrArg some (toldL_c c r)
   have htk : (r.take c).length ≤ 40 := by rw [List.length_take]; omega
   refine tr_skip ?_
   refine hK3 _ ?_; try clear hK3 K3
   refine seq_k fun K4 hK4 => ?_
   refine tr_block ?_
   refine region_k T_ok (by decide) fun K hK => ?_
   simp [go_sem]
   refine hK _ ?_; clear hK K
   refine draw_k T_ok (by kernel_rfl) 9 [[], [], [0, 1], [0, 1, 2], [0, 1, 2, 3], [], [], [5, 6], [5, 6, 7], [0, 1, 2, 3, 4, 5, 6, 7, 8], [0, 1, 2, 3, 4, 5, 6, 7, 8, 9]] [] (by decide) (by decide) (by decide) fun K hK => ?_
   first | dsimp only [List.take, List.drop] | dsimp [List.take, List.drop]
   simp [go_sem, hn1, hx1, hx'1, hI1, hn2, hx2, hx'2, hI2, hi0, hxl, hxt]
   refine callD_of (by rw [stK_cons]; exact toldS_pf c hc r hr) ?_
   simp [go_sem, hn1, hx1, hx'1, hI1, hn2, hx2, hx'2, hI2, hi0, hxl, hxt]
   refine call_pf (same_pf (r.take c) y (by omega) (by omega)) ?_
   simp [go_sem]
   refine hK _ ?_; clear hK K
   refine cond_k rfl (fun h => ?_) (fun h => ?_)
   ·have hxy : ¬ r.take c = y := by simpa using h
    clear h
    have hf : ¬ s.map toldL = l := fun e => hxy (by rw [e, hx2] at hmx; exact (Option.some.inj hmx).symm)
    refine region_k T_ok (by decide) fun K hK => ?_
    simp [go_sem]
    refine hK _ ?_; clear hK K
    refine tr_ret ⟨.inr rfl, ?_⟩
    simp [go_sem, hf]
   ·have hxy : r.take c = y := by simpa using h
    clear h
    refine tr_skip ?_
    refine hK4 _ ?_; try clear hK4 K4
    refine region_e T_ok (by decide) fun K hK => ?_
    simp [go_sem, hw]
    refine hK _ ?_; clear hK K
    refine ⟨(i + 1, j + 60), ?_, ?_, ?_⟩
    ·dsimp only; exact ⟨by omega, fun k hk => by rcases Nat.lt_or_ge k i with h | h; exact hlb k h; obtain rfl : k = i := (by omega); rw [hmx, hx2, hxy]⟩
    ·dsimp only; omega
    ·refine Weaker.fzk 1 0 (by first | omega | (dsimp only; omega)) ?_ ?_ ?_
     ·simp [go_sem]
     ·first | (simp; done) | (simp; omega)
     simp [go_sem]
  ·obtain rfl : i = l.length := by simp at h; omega
   clear h
   have hf : s.map toldL = l := List.ext_getElem? fun k => by
    rcases Nat.lt_or_ge k l.length with h | h
    ·exact hlb k h
    ·rw [List.getElem?_eq_none h, List.getElem?_eq_none (by rw [List.length_map]; omega)]
   refine tr_exit ?_
   refine hK2 _ ?_; try clear hK2 K2
   refine region_k T_ok (by decide) fun K hK => ?_
   simp [go_sem]
   refine hK _ ?_; clear hK K
   refine tr_ret ⟨.inr rfl, ?_⟩
   simp [go_sem, hf]
set_option maxHeartbeats 8000000 in
theorem growG_pf (l : List Int) (hll : l.length ≤ 9223372036854775807) (n0 : Int) : Pf Tryd.prog 28 [.ro 1 (uVs l), iV n0] (.tup [.ro 41 (stR (setOf (seenG (nnG n0) l (cntG (nnG n0) l)))), .ro 1 (rowU (docG (nnG n0) l (cntG (nnG n0) l)))]) := by
 refine Pf.of_fz 1 (.cons (nl_uVs l) (.cons (.val _) .nil)) (.tup (.cons (nl_stR _) (.cons (nl_rowU _) .nil))) ?_
 obtain ⟨hn1, hn6, hn2, hn3⟩ := nnG_spec n0
 obtain ⟨n, hnn⟩ : ∃ n, nnG n0 = n := ⟨_, rfl⟩
 rw [hnn] at hn1 hn6 ⊢
 have hw7 : IntKind.i64.wrap (n0.tmod 7 + 7) = n0.tmod 7 + 7 := wrap_i64 (by omega) (by omega)
 refine fn_in T_ok func28 rfl rfl ntmps28 rfl (by simp) ?_
 refine region_k T_ok (by decide) fun K hK => ?_
 simp [go_sem]
 refine hK _ ?_; clear hK K
 refine region_k T_ok (by decide) fun K hK => ?_
 simp [go_sem, hw7, hn1]
 refine hK _ ?_; clear hK K
 refine region_k T_ok (by decide) fun K hK => ?_
 simp [go_sem]
 refine hK _ ?_; clear hK K
 refine region_k T_ok (by decide) fun K hK => ?_
 simp [go_sem]
 refine hK _ ?_; clear hK K
 refine seq_k fun K1 hK1 => ?_
 refine region_k T_ok (by decide) fun K hK => ?_
 simp [go_sem]
 refine hK _ ?_; clear hK K
 refine tr_block ?_
 refine loop_p (α := Nat × Nat) (fun q => ⟨56, [(0, .ro 1 (uVs l)), (1, iV (n : Nat)), (6, .map 0), (7, .ro 1 (rowU (docG n l q.1))), (8, iV (q.1 : Nat))], [(0, .map (seenM (seenG n l q.1)))], q.2⟩) (fun q => q.1 ≤ 12 ∧ q.1 * n ≤ l.length ∧ (q.1 = 0 ∨ 0 < n) ∧ 0 < q.2) (fun q => 12 - q.1) (0, 2) ?_ ?_ ?_
 ·exact ⟨by omega, by omega, .inl rfl, by omega⟩
 ·refine Weaker.fzk 1 0 (by first | omega | (dsimp only; omega)) ?_ ?_ ?_
  ·simp [go_sem, docG, rowU_nil]
  ·first | (simp; done) | (simp; omega)
  ·simp [go_sem, seenG, seenM]
 rintro ⟨i, j⟩ ⟨hi, hin, hi3, hj⟩
 dsimp only at hi hin hi3 hj ⊢
 refine seq_k fun K2 hK2 => ?_
 obtain ⟨M, hM⟩ : ∃ M, M = (i + 1) * n := ⟨_, rfl⟩
 have hM1 : M ≤ 78 := by rw [hM]; exact Nat.le_trans (Nat.mul_le_mul (show i + 1 ≤ 13 by omega) hn6) (by decide)
 have hmul : IntKind.i64.wrap (((i : Int) + 1) * (n : Int)) = (M : Nat) := by rw [show (((i : Int) + 1) * (n : Int)) = ((M : Nat) : Int) by rw [hM]; simp, wrap_i64 (by omega) (by omega)]
 have hwi : IntKind.i64.wrap ((i : Nat) + 1) = (i : Nat) + 1 := wrap_i64 (by omega) (by omega)
 obtain ⟨g, hg⟩ : ∃ g : Bool, g = (decide ((i : Int) < 12) && (decide (0 < n) && decide ((i + 1) * n ≤ l.length))) := ⟨_, rfl⟩
 rw [← hM] at hg
 refine region_to T_ok (by decide) ⟨56, [(0, .ro 1 (uVs l)), (1, iV (n : Nat)), (6, .map 0), (7, .ro 1 (rowU (docG n l i))), (8, iV (i : Nat)), (30, bV g)], [(0, .map (seenM (seenG n l i)))], j⟩ ?_ ?_
 ·by_cases c1 : (i : Int) < 12
  ·by_cases c2 : 0 < n
   ·by_cases c3 : M ≤ l.length
    ·simp [go_sem, c1, c2, c3, hwi, hmul]
     simp [go_sem, hg, c1, c2, c3, hwi, hmul]
     refine Weaker.fz 1 0 ?_ ?_ ?_
     ·simp [go_sem, c1, c2, c3]
     ·first | (simp; done) | (simp; omega)
     ·simp [go_sem, c1, c2, c3]
    ·simp [go_sem, c1, c2, c3, hwi, hmul]
     simp [go_sem, hg, c1, c2, c3, hwi, hmul]
     refine Weaker.fz 1 0 ?_ ?_ ?_
     ·simp [go_sem, c1, c2, c3]
     ·first | (simp; done) | (simp; omega)
     ·simp [go_sem, c1, c2, c3]
   ·simp [go_sem, c1, c2, hwi, hmul]
    simp [go_sem, hg, c1, c2, hwi, hmul]
    refine Weaker.fz 1 0 ?_ ?_ ?_
    ·simp [go_sem, c1, c2]
    ·first | (simp; done) | (simp; omega)
    ·simp [go_sem, c1, c2]
  ·simp [go_sem, c1, hwi, hmul]
   simp [go_sem, hg, c1, hwi, hmul]
   refine Weaker.fz 1 0 ?_ ?_ ?_
   ·simp [go_sem, c1]
   ·first | (simp; done) | (simp; omega)
   ·simp [go_sem, c1]
 ·skip
  refine cond_k rfl (fun h => ?_) (fun h => ?_)
  ·subst h
   have hg2 := hg.symm
   rw [Bool.and_eq_true, Bool.and_eq_true, decide_eq_true_eq, decide_eq_true_eq, decide_eq_true_eq] at hg2
   obtain ⟨hi12, hn0, hM2⟩ := hg2
   rw [hM] at hM2
   obtain ⟨L0, hL0⟩ : ∃ L0, L0 = i * n := ⟨_, rfl⟩
   have hmu0 : IntKind.i64.wrap ((i : Int) * (n : Int)) = (L0 : Nat) := by rw [show ((i : Int) * (n : Int)) = ((L0 : Nat) : Int) by rw [hL0]; simp, wrap_i64 (by omega) (by omega)]
   have h01 : (L0 : Int) ≤ (M : Nat) := by rw [hM, hL0, Nat.add_mul]; omega
   have h02 : (M : Int) ≤ (l.length : Nat) := by rw [← hM] at hM2; omega
   have h00 : (0 : Int) ≤ (L0 : Nat) := by omega
   have hsl : List.take (M - L0) (List.drop L0 l) = sgN n l i := by unfold sgN; rw [hM, hL0, Nat.add_mul]; congr 1; omega
   have hsn := sgN_len hM2
   have h41 : (staN n (sgN n l i)).length = 41 := staN_len (by omega)
   have hg41 : ∀ q ∈ seenG n l i, q.length = 41 := fun q hq => by obtain ⟨k, hk, rfl⟩ := seenG_mem hq; exact staN_len (by rw [sgN_len (Nat.le_trans (Nat.mul_le_mul_right _ (by omega)) hin)]; omega)
   have he : eqCells [EK.int, EK.int, EK.int, EK.int, EK.int, EK.int, EK.int, EK.int, EK.int, EK.int, EK.int, EK.int, EK.int, EK.int, EK.int, EK.int, EK.int, EK.int, EK.int, EK.int, EK.int, EK.int, EK.int, EK.int, EK.int, EK.int, EK.int, EK.int, EK.int, EK.int, EK.int, EK.int, EK.int, EK.int, EK.int, EK.int, EK.int, EK.int, EK.int, EK.int, EK.int] (stK (staN n (sgN n l i))) (stK (staN n (sgN n l i))) = _ := eq_stK h41 h41
   have hie : insV [EK.int, EK.int, EK.int, EK.int, EK.int, EK.int, EK.int, EK.int, EK.int, EK.int, EK.int, EK.int, EK.int, EK.int, EK.int, EK.int, EK.int, EK.int, EK.int, EK.int, EK.int, EK.int, EK.int, EK.int, EK.int, EK.int, EK.int, EK.int, EK.int, EK.int, EK.int, EK.int, EK.int, EK.int, EK.int, EK.int, EK.int, EK.int, EK.int, EK.int, EK.int] (stK (staN n (sgN n l i))) (bV true) (seenM (seenG n l i)) = _ := ins_seen h41 hg41
   have hn00 : ¬ n = 0 := by omega
   have hmi : min n 40 = n := by omega
   have hst2 : List.take n (sgN n l i) = sgN n l i := List.take_of_length_le (by omega)
   have hpz := z40_pad hsn (by omega) (n : Int)
   have hpl : (padT (sgN n l i)).length = 40 := padT_len (by omega)
   have htd : (padT (sgN n l i)).take n = sgN n l i := by unfold padT; rw [List.take_append_of_le_length (by omega), List.take_of_length_le (by omega)]
   have hdr := docG_row (n := n) (l := l) (i := i) hin
   have hdl := docG_len n l i hi
   have hw : IntKind.i64.wrap ((i : Nat) + 1) = (i : Nat) + 1 := wrap_i64 (by omega) (by omega)
   have hnI : (n : Int) < 41 := by omega
   have e0 : ¬ j = 0 := by omega
   have eq0 : ¬ 0 = j := by omega
   refine tr_skip ?_
   refine hK2 _ ?_; try clear hK2 K2
   refine seq_k fun K3 hK3 => ?_
   refine tr_block ?_
   refine region_to T_ok (by decide) ⟨56, [(0, .ro 1 (uVs l)), (1, iV (n : Nat)), (6, .map 0), (7, .ro 1 (rowU (docG n l i))), (8, iV (i : Nat)), (9, .ptr j 0 0)], [(j, .rows 41 [.agg (iV (n : Nat) :: uVs z40)]), (0, .map (seenM (seenG n l i)))], j + 1⟩ ?_ ?_
   ·simp [go_sem, e0, eq0]
    refine Weaker.fz 1 0 ?_ ?_ ?_
    ·simp [go_sem, uVs_z40, e0, eq0]
    ·first | (simp; done) | (simp; omega)
    ·simp [go_sem, uVs_z40, e0, eq0]
   ·skip
    refine draw_k T_ok (by kernel_rfl) 11 [[], [0], [], [], [], [3, 4], [], [6], [], [6, 7, 8], [2, 3, 4, 5, 6, 7, 8, 9], [0, 1, 2, 3, 4, 5, 6, 7, 8, 9, 10]] [] (by decide) (by decide) (by decide) fun K hK => ?_
    first | dsimp only [List.take, List.drop] | dsimp [List.take, List.drop]
    simp [go_sem, hmu0, hwi, hmul, h00, h01, h02, hsl, hn00, hmi, hst2, hpz, hsn, z40_len, cells_uVs, e0, eq0]
    have hsk : iV (n : Nat) :: uVs (padT (sgN n l i)) = stK (staN n (sgN n l i)) := rfl
    rw [hsk]
    have hkl : (stK (staN n (sgN n l i))).length = 41 := (stK_len _).trans h41
    have hkt : List.take 41 (stK (staN n (sgN n l i))) = stK (staN n (sgN n l i)) := List.take_of_length_le (by omega)
    have hko := stK_one (staN n (sgN n l i))
    refine hK _ ?_; clear hK K
    refine region_k T_ok (by decide) fun K hK => ?_
    simp [go_sem, he, hie, hkl, hkt, e0, eq0]
    refine hK _ ?_; clear hK K
    refine region_e T_ok (by decide) fun K hK => ?_
    simp [go_sem, hkl, hkt, e0, eq0]
    refine call_pf (toldS_pf n (by omega) (padT (sgN n l i)) hpl) ?_
    rw [htd]
    simp [go_sem, e0, eq0]
    refine call_pf (withR_pf (docG n l i) (sgN n l i) (fun r hr => by rw [hdr r hr, hsn]) (by omega) (by have : 2 ^ i ≤ 2 ^ 12 := Nat.pow_le_pow_right (by omega) hi; omega)) ?_
    simp [go_sem, e0, eq0]
    refine hK _ ?_; clear hK K
    refine hK3 _ ?_; try clear hK3 K3
    refine region_e T_ok (by decide) fun K hK => ?_
    simp [go_sem, hw, e0, eq0]
    refine hK _ ?_; clear hK K
    refine ⟨(i + 1, j + 60), ?_, ?_, ?_⟩
    ·exact ⟨by omega, hM2, .inr hn0, by omega⟩
    ·dsimp only; omega
    ·refine Weaker.fzk 1 0 (by first | omega | (dsimp only; omega)) ?_ ?_ ?_
     ·simp [go_sem, docG, e0, eq0]
     ·first | (simp; done) | (simp; omega)
     simp [go_sem, seenG, e0, eq0]
  ·subst h
   have hg2 := hg.symm
   have hend : i = cntG n l := cntG_end hi hin hi3 fun hc => by
    rw [decide_eq_true (show (i : Int) < 12 by omega), decide_eq_true hc.2.1, decide_eq_true (show M ≤ l.length by rw [hM]; exact hc.2.2)] at hg2; cases hg2
   have hg41 : ∀ q ∈ seenG n l i, q.length = 41 := fun q hq => by obtain ⟨k, hk, rfl⟩ := seenG_mem hq; exact staN_len (by rw [sgN_len (Nat.le_trans (Nat.mul_le_mul_right _ (by omega)) hin)]; omega)
   have hgl := seenG_len n l i
   refine tr_exit ?_
   refine hK1 _ ?_; try clear hK1 K1
   refine region_k T_ok (by decide) fun K hK => ?_
   simp [go_sem]
   refine call_exv (α := Unit) (I := fun _ _ => True) (R := fun _ => .ro 41 (stR (setOf (seenG n l i)))) (G := fun _ => []) ((of_fn (seenG n l i) hg41 (seenG_nodup n l i) (by omega) 0 j hj).mono fun v H2 k3 h => ⟨(), trivial, h.1, h.2⟩) fun k3 _ hk3 _ => ?_
   simp [go_sem]
   refine hK _ ?_; clear hK K
   refine tr_ret ⟨.inr rfl, ?_⟩
   simp [go_sem]
   rw [← hend]
   exact ⟨rfl, rfl⟩
open Go Go.Sl Go.Proofs.Tryd
local instance (priority := 2000) mdN : Md := mdF
def G12 (n0 : Int) (l : List Int) : List (List Int) := seenG (nnG n0) l (cntG (nnG n0) l)
theorem cntG_le (n : Nat) (l : List Int) : cntG n l ≤ 12 ∧ cntG n l * n ≤ l.length := by
 unfold cntG
 split
 ·rename_i h; subst h; simp
 ·refine ⟨by omega, Nat.le_trans (Nat.mul_le_mul_right _ (Nat.min_le_right _ _)) (Nat.div_mul_le_self _ _)⟩
theorem G12_form {n0 : Int} {l q : List Int} (h : q ∈ G12 n0 l) : ∃ r : List Int, q = (nnG n0 : Int) :: padT r ∧ r.length = nnG n0 := by
 obtain ⟨j, hj, rfl⟩ := seenG_mem h
 refine ⟨_, rfl, sgN_len (Nat.le_trans (Nat.mul_le_mul_right _ (by omega)) (cntG_le (nnG n0) l).2)⟩
theorem G12_len (n0 : Int) (l : List Int) : (G12 n0 l).length ≤ 12 := Nat.le_trans (seenG_len _ _ _) (cntG_le _ _).1
theorem setOf_le : ∀ l : List (List Int), (setOf l).length ≤ l.length
 | [] => Nat.le_refl _
 | x :: l => by
  have ih := setOf_le l
  have h : ∀ m : List (List Int), (insR x m).length ≤ m.length + 1 := fun m => by
   induction m with
   | nil => exact Nat.le_refl _
   | cons y m ih => unfold insR; split <;> (try split) <;> simp <;> omega
  have := h (setOf l)
  show (insR x (setOf l)).length ≤ _
  rw [List.length_cons]; omega
theorem good_of {n0 : Int} {s : List (List Int)} (hr : Rising s) (hf : ∀ q ∈ s, ∃ r : List Int, q = (nnG n0 : Int) :: padT r ∧ r.length = nnG n0) : goodS (nnG n0 : Nat) s := fun i m r h => by
 obtain ⟨r', e, hl⟩ := hf _ (List.mem_of_getElem? h)
 have h6 := (nnG_spec n0).2.1
 cases e
 refine ⟨rfl, by omega, by omega, fun p hi hp => ?_, fun k v hk hv => ?_⟩
 ·have h1 := (List.getElem?_eq_some_iff.1 h)
  have h2 := (List.getElem?_eq_some_iff.1 hp)
  have := (List.pairwise_iff_getElem.1 hr) (i - 1) i h2.1 h1.1 (by omega)
  rw [h2.2, h1.2] at this
  simpa [ltL] using this
 ·unfold padT at hv
  rw [List.getElem?_append_right (by omega), List.getElem?_replicate] at hv
  split at hv
  ·exact (Option.some.inj hv).symm
  ·cases hv
open Go Go.Sl
theorem lessB_staN {n : Nat} {a b : List Int} (ha : a.length = n) (hb : b.length = n) : lessB a b = ltL (staN n a) (staN n b) := by
 unfold ltL staN padT
 rw [ha, hb, cmpL, if_pos (cmpI_self _), lessB_cmp _ (by rw [ha, hb])]
theorem staN_inj {n : Nat} {a b : List Int} (ha : a.length = n) (hb : b.length = n) (h : staN n a = staN n b) : a = b := by
 have h1 : padT a = padT b := (List.cons.inj h).2
 have h2 := congrArg (List.take n) h1
 unfold padT at h2
 rwa [List.take_append_of_le_length (by omega), List.take_append_of_le_length (by omega), List.take_of_length_le (by omega), List.take_of_length_le (by omega)] at h2
theorem lt_tot {n : Nat} {a b : List Int} (ha : a.length = n) (hb : b.length = n) (h : ltL (staN n a) (staN n b) = false) (hne : a ≠ b) : ltL (staN n b) (staN n a) = true := by
 cases h2 : ltL (staN n b) (staN n a) with
 | true => rfl
 | false => exact absurd (staN_inj ha hb (ltL_total h h2)) hne
def RisN (n : Nat) (l : List (List Int)) : Prop := l.Pairwise fun a b => ltL (staN n a) (staN n b) = true
theorem wP_ris {n : Nat} {l : List (List Int)} {x : List Int} (hR : RisN n l) (hl : ∀ r ∈ l, r.length = n) (hx : x.length = n) (hno : x ∉ l) : ∀ i, i ≤ l.length →
    ((wP l x i).2 = false → (wP l x i).1 = l.take i ∧ ∀ y ∈ l.take i, ltL (staN n y) (staN n x) = true) ∧
    ((wP l x i).2 = true → RisN n (wP l x i).1 ∧ (∀ z, z ∈ (wP l x i).1 ↔ z = x ∨ z ∈ l.take i) ∧ ∀ z ∈ (wP l x i).1, ∀ y ∈ l.drop i, ltL (staN n z) (staN n y) = true)
  | 0, _ => ⟨fun _ => ⟨rfl, fun y hy => absurd hy (List.not_mem_nil)⟩, fun h => by cases h⟩
  | i + 1, hi => by
    obtain ⟨ih1, ih2⟩ := wP_ris hR hl hx hno i (by omega)
    obtain ⟨y, hy⟩ : ∃ y, l[i]? = some y := ⟨_, List.getElem?_eq_getElem (l := l) (i := i) (by omega)⟩
    have hg : l.getD i [] = y := by simp [List.getD, hy]
    have hym := List.mem_of_getElem? hy
    have hyl := hl y hym
    have ht : l.take (i + 1) = l.take i ++ [y] := by rw [List.take_add_one, hy]; rfl
    have hd : l.drop i = y :: l.drop (i + 1) := by
      obtain ⟨h1, rfl⟩ := List.getElem?_eq_some_iff.1 hy
      exact List.drop_eq_getElem_cons h1
    have hsp : RisN n (l.take i ++ y :: l.drop (i + 1)) := by rw [← hd, List.take_append_drop]; exact hR
    obtain ⟨p1, p2, p3⟩ := List.pairwise_append.1 hsp
    obtain ⟨p4, p5⟩ := List.pairwise_cons.1 p2
    have hless : lessB x y = ltL (staN n x) (staN n y) := lessB_staN hx hyl
    unfold wP
    rw [hg]
    by_cases hc : (wP l x i).2 = false ∧ lessB x y = true
    · rw [if_pos hc]
      obtain ⟨e1, e2⟩ := ih1 hc.1
      have hxy : ltL (staN n x) (staN n y) = true := by rw [← hless]; exact hc.2
      refine ⟨fun h => by simp at h, fun _ => ?_⟩
      dsimp only
      rw [e1]
      refine ⟨?_, fun z => ?_, fun z hz w hw => ?_⟩
      · refine List.pairwise_append.2 ⟨List.pairwise_append.2 ⟨p1, List.pairwise_singleton _ _, fun a ha b hb => ?_⟩, List.pairwise_singleton _ _, fun a ha b hb => ?_⟩
        · rw [List.mem_singleton.1 hb]; exact e2 a ha
        · rw [List.mem_singleton.1 hb]
          rcases List.mem_append.1 ha with h | h
          · exact p3 a h y (List.mem_cons_self ..)
          · rw [List.mem_singleton.1 h]; exact hxy
      · rw [ht]
        simp only [List.mem_append, List.mem_singleton]
        constructor
        · rintro ((h | h) | h) <;> simp [h]
        · rintro (h | h | h) <;> simp [h]
      · simp only [List.mem_append, List.mem_singleton] at hz
        rcases hz with (h | h) | h
        · exact p3 z h w (List.mem_cons_of_mem _ hw)
        · subst h; exact ltL_trans hxy (p4 w hw)
        · subst h; exact p4 w hw
    · rw [if_neg hc]
      dsimp only
      refine ⟨fun hf => ?_, fun htr => ?_⟩
      · obtain ⟨e1, e2⟩ := ih1 hf
        have hxy : ltL (staN n x) (staN n y) = false := by
          rw [← hless]
          cases h : lessB x y with
          | false => rfl
          | true => exact absurd ⟨hf, h⟩ hc
        have hyx := lt_tot hx hyl hxy (fun e => hno (e ▸ hym))
        rw [e1, ht]
        refine ⟨rfl, fun z hz => ?_⟩
        rcases List.mem_append.1 hz with h | h
        · exact e2 z h
        · rw [List.mem_singleton.1 h]; exact hyx
      · obtain ⟨e1, e2, e3⟩ := ih2 htr
        rw [hd] at e3
        refine ⟨List.pairwise_append.2 ⟨e1, List.pairwise_singleton _ _, fun a ha b hb => by rw [List.mem_singleton.1 hb]; exact e3 a ha y (List.mem_cons_self ..)⟩, fun z => ?_, fun z hz w hw => ?_⟩
        · rw [List.mem_append, e2, ht, List.mem_append, List.mem_singleton, or_assoc]
        · rcases List.mem_append.1 hz with h | h
          · exact e3 z h w (List.mem_cons_of_mem _ hw)
          · rw [List.mem_singleton.1 h]; exact p4 w hw
theorem withR_ris {n : Nat} {l : List (List Int)} {x : List Int} (hR : RisN n l) (hl : ∀ r ∈ l, r.length = n) (hx : x.length = n) : RisN n (withR l x) ∧ ∀ z, z ∈ withR l x ↔ z = x ∨ z ∈ l := by
 unfold withR
 split
 ·rename_i h; exact ⟨hR, fun z => ⟨.inr, fun h2 => h2.elim (fun e => e ▸ h) id⟩⟩
 ·rename_i hno
  obtain ⟨h1, h2⟩ := wP_ris hR hl hx hno l.length (Nat.le_refl _)
  unfold wE
  split
  ·rename_i hd
   obtain ⟨e1, e2, _⟩ := h2 hd
   rw [List.take_length] at e2
   exact ⟨e1, e2⟩
  ·rename_i hd
   obtain ⟨e1, e2⟩ := h1 (by simpa using hd)
   rw [List.take_length] at e1 e2
   rw [e1]
   exact ⟨List.pairwise_append.2 ⟨hR, List.pairwise_singleton _ _, fun a ha b hb => by rw [List.mem_singleton.1 hb]; exact e2 a ha⟩, fun z => by rw [List.mem_append, List.mem_singleton, or_comm]⟩
structure DocOk (n : Nat) (d : List (List Int)) (s : List (List Int)) : Prop where
 ris : RisN n d
 len : ∀ r ∈ d, r.length = n
 same : d.map (staN n) = s
theorem DocOk.of {n : Nat} {d m : List (List Int)} (hR : RisN n d) (hl : ∀ r ∈ d, r.length = n) (h : ∀ z, z ∈ d.map (staN n) ↔ z ∈ m) : DocOk n d (setOf m) :=
 ⟨hR, hl, setOf_eq (List.pairwise_map.2 hR) h⟩
theorem DocOk.withR {n : Nat} {d s : List (List Int)} (h : DocOk n d s) {x : List Int} (hx : x.length = n) : DocOk n (withR d x) (setOf (s ++ [staN n x])) := by
 obtain ⟨h1, h2⟩ := withR_ris h.ris h.len hx
 refine .of h1 (fun r hr => ((h2 r).1 hr).elim (fun e => e ▸ hx) (h.len r)) fun z => ?_
 rw [← h.same]
 simp only [List.mem_map, List.mem_append, List.mem_singleton, h2]
 constructor
 ·rintro ⟨a, rfl | ha, rfl⟩
  ·exact .inr rfl
  ·exact .inl ⟨a, ha, rfl⟩
 ·rintro (⟨a, ha, rfl⟩ | rfl)
  ·exact ⟨a, .inr ha, rfl⟩
  ·exact ⟨x, .inl rfl, rfl⟩
theorem DocOk.mem {n : Nat} {d s : List (List Int)} (h : DocOk n d s) {x : List Int} (hx : x.length = n) : x ∈ d ↔ staN n x ∈ s := by
 rw [← h.same]
 constructor
 ·intro hm; exact List.mem_map_of_mem hm
 ·intro hm
  obtain ⟨y, hy, e⟩ := List.mem_map.1 hm
  rw [← staN_inj (h.len y hy) hx e]; exact hy
theorem doc_seen {n : Nat} {l : List Int} : ∀ {i}, i * n ≤ l.length → DocOk n (docG n l i) (setOf (seenG n l i))
 | 0, _ => ⟨List.Pairwise.nil, fun r hr => absurd hr (List.not_mem_nil), rfl⟩
 | i + 1, h => by
  have ih := doc_seen (n := n) (l := l) (i := i) (Nat.le_trans (Nat.mul_le_mul_right _ (Nat.le_succ _)) h)
  have := ih.withR (sgN_len h)
  rw [show setOf (setOf (seenG n l i) ++ [staN n (sgN n l i)]) = setOf (seenG n l (i + 1)) from setOf_congr fun x => ?_] at this
  ·exact this
  ·rw [List.mem_append, mem_setOf, List.mem_singleton]
   show _ ↔ x ∈ (if _ then _ else _)
   split
   ·rename_i hm
    exact ⟨fun h => h.elim id fun e => e ▸ hm, .inl⟩
   ·rw [List.mem_append, List.mem_singleton]
theorem wP_len2 (l : List (List Int)) (x : List Int) : ∀ i, (wP l x i).1.length = i + (if (wP l x i).2 = true then 1 else 0)
 | 0 => rfl
 | i + 1 => by
  have ih := wP_len2 l x i
  unfold wP
  split
  ·rename_i h
   rw [h.1] at ih
   simp at ih ⊢; omega
  ·simp only [List.length_append, List.length_singleton, ih]; omega
theorem withR_len (l : List (List Int)) (x : List Int) : (withR l x).length = l.length ↔ x ∈ l := by
 unfold withR
 split
 ·rename_i h; exact ⟨fun _ => h, fun _ => rfl⟩
 ·rename_i h
  refine ⟨fun e => ?_, fun hm => absurd hm h⟩
  have := wP_len2 l x l.length
  unfold wE at e
  split at e
  ·rename_i hd; rw [if_pos hd] at this; omega
  ·rename_i hd; rw [if_neg hd] at this; rw [List.length_append, List.length_singleton] at e; omega
open Go Go.Sl Go.Proofs.Tryd
local instance (priority := 2000) mdO : Md := mdF
theorem told_st {n : Nat} {r : List Int} (hr : r.length = n) : toldL (staN n r) = r := by
 unfold staN
 rw [toldL_c, padT, List.take_append_of_le_length (by omega), List.take_of_length_le (by omega)]
theorem doc_told {n : Nat} {d s : List (List Int)} (h : DocOk n d s) : s.map toldL = d := by
 rw [← h.same, List.map_map]
 exact (List.map_congr_left fun r hr => told_st (h.len r hr)).trans (List.map_id _)
theorem len_withR_le (l : List (List Int)) (x : List Int) : (withR l x).length ≤ l.length + 1 := by
 have := wP_len2 l x l.length
 unfold withR
 split
 ·omega
 ·unfold wE
  split
  ·rename_i hd; rw [if_pos hd] at this; omega
  ·rename_i hd; rw [if_neg hd] at this; rw [List.length_append, List.length_singleton]; omega
def btP (d e : List (List Int)) (i : Nat) : List (List Int) := (e.take i).foldl withR d
theorem btP_step {d e : List (List Int)} {i : Nat} {r : List Int} (h : e[i]? = some r) : btP d e (i + 1) = withR (btP d e i) r := by
 unfold btP; rw [List.take_add_one, h]; simp
theorem btP_ok {n : Nat} {d e s t : List (List Int)} (hd : DocOk n d s) (he : DocOk n e t) : ∀ i, i ≤ e.length → DocOk n (btP d e i) (setOf (s ++ t.take i)) ∧ (btP d e i).length ≤ d.length + i
 | 0, _ => by
  refine ⟨?_, Nat.le_refl _⟩
  have := DocOk.of (m := s) hd.ris hd.len fun z => by rw [hd.same]
  rw [List.take_zero, List.append_nil]; exact this
 | i + 1, hi => by
  obtain ⟨ih, ihl⟩ := btP_ok hd he i (by omega)
  obtain ⟨r, hr⟩ : ∃ r, e[i]? = some r := ⟨_, List.getElem?_eq_getElem (l := e) (i := i) (by omega)⟩
  have hrl := he.len r (List.mem_of_getElem? hr)
  have ht : t[i]? = some (staN n r) := by rw [← he.same, List.getElem?_map, hr]; rfl
  rw [btP_step hr]
  refine ⟨?_, by have := len_withR_le (btP d e i) r; omega⟩
  have := ih.withR hrl
  rw [show setOf (setOf (s ++ t.take i) ++ [staN n r]) = setOf (s ++ t.take (i + 1)) from setOf_congr fun z => ?_] at this
  ·exact this
  ·rw [List.mem_append, mem_setOf, List.take_add_one, ht, List.mem_append, List.mem_append, List.mem_append, or_assoc]; rfl
theorem stR_41c {n : Nat} {r : List Int} (hr : r.length = n) (hn : n ≤ 6) : (staN n r).length = 41 := staN_len (by omega)
set_option maxHeartbeats 16000000 in
set_option maxRecDepth 100000 in
open Classical in
theorem outcomeSets_pf (a b : List Int) (ha : a.length ≤ maxLen) (hb : b.length ≤ maxLen) (n0 : Int) : Sl.Pf Tryd.prog 6 [.ro 1 (uVs a), .ro 1 (uVs b), iV n0] (bV true) := by
 refine Pf.of_fn (.cons (nl_uVs a) (.cons (nl_uVs b) (.cons (.val _) .nil))) (.val _) ?_
 have g1 := (growG_pf a ha n0).lo
 have g2 := (growG_pf b hb n0).lo
 obtain ⟨A, hA⟩ : ∃ A, G12 n0 a = A := ⟨_, rfl⟩
 obtain ⟨B, hB⟩ : ∃ B, G12 n0 b = B := ⟨_, rfl⟩
 obtain ⟨DA, hDA⟩ : ∃ D, docG (nnG n0) a (cntG (nnG n0) a) = D := ⟨_, rfl⟩
 obtain ⟨DB, hDB⟩ : ∃ D, docG (nnG n0) b (cntG (nnG n0) b) = D := ⟨_, rfl⟩
 rw [show seenG (nnG n0) a (cntG (nnG n0) a) = A from hA, hDA] at g1
 rw [show seenG (nnG n0) b (cntG (nnG n0) b) = B from hB, hDB] at g2
 obtain ⟨s, hs⟩ : ∃ s, setOf A = s := ⟨_, rfl⟩
 obtain ⟨t, ht⟩ : ∃ t, setOf B = t := ⟨_, rfl⟩
 obtain ⟨u, hu⟩ : ∃ u, setOf (s ++ t) = u := ⟨_, rfl⟩
 rw [hs] at g1
 rw [ht] at g2
 have fs : ∀ q ∈ s, ∃ r : List Int, q = (nnG n0 : Int) :: padT r ∧ r.length = nnG n0 := fun q hq => G12_form (l := a) (by rw [hA]; exact mem_setOf.1 (by rw [hs]; exact hq))
 have ft : ∀ q ∈ t, ∃ r : List Int, q = (nnG n0 : Int) :: padT r ∧ r.length = nnG n0 := fun q hq => G12_form (l := b) (by rw [hB]; exact mem_setOf.1 (by rw [ht]; exact hq))
 have hmu : ∀ {q}, q ∈ u ↔ q ∈ s ∨ q ∈ t := fun {q} => by rw [← hu, mem_setOf, List.mem_append]
 have fu : ∀ q ∈ u, ∃ r : List Int, q = (nnG n0 : Int) :: padT r ∧ r.length = nnG n0 := fun q hq => (hmu.1 hq).elim (fs q) (ft q)
 have h6 := nnG_spec n0
 have f41 : ∀ {q : List Int}, (∃ r : List Int, q = (nnG n0 : Int) :: padT r ∧ r.length = nnG n0) → q.length = 41 := fun h => by obtain ⟨r, rfl, hr⟩ := h; simp [padT_len (show r.length ≤ 40 by omega)]
 have s41 : ∀ q ∈ s, q.length = 41 := fun q hq => f41 (fs q hq)
 have t41 : ∀ q ∈ t, q.length = 41 := fun q hq => f41 (ft q hq)
 have u41 : ∀ q ∈ u, q.length = 41 := fun q hq => f41 (fu q hq)
 have sR : Rising s := by rw [← hs]; exact rising_setOf _
 have tR : Rising t := by rw [← ht]; exact rising_setOf _
 have uR : Rising u := by rw [← hu]; exact rising_setOf _
 have sl : s.length ≤ 12 := by rw [← hs, ← hA]; exact Nat.le_trans (setOf_le _) (G12_len n0 a)
 have tl : t.length ≤ 12 := by rw [← ht, ← hB]; exact Nat.le_trans (setOf_le _) (G12_len n0 b)
 have ul : u.length ≤ s.length + t.length := by rw [← hu, ← List.length_append]; exact setOf_le _
 have wu := (setWith_pf s t s41 t41 (by omega) (by omega)).lo
 rw [hu] at wu
 have wv := (setWith_pf t s t41 s41 (by omega) (by omega)).lo
 rw [show setOf (t ++ s) = u by rw [← hu]; exact setOf_congr fun x => by rw [List.mem_append, List.mem_append, or_comm]] at wv
 have hn1 := h6.1
 have hw7 : IntKind.i64.wrap (n0.tmod 7 + 7) = n0.tmod 7 + 7 := wrap_i64 (by omega) (by omega)
 have h1u : ∀ x ∈ s, x ∈ u := fun x hx => hmu.2 (.inl hx)
 have h2u : ∀ x ∈ t, x ∈ u := fun x hx => hmu.2 (.inr hx)
 have hlen : ((u.length : Nat) : Int) ≤ (s.length : Nat) + (t.length : Nat) := by omega
 have hgo : goodS (nnG n0 : Nat) u := good_of uR fu
 have hws : IntKind.i64.wrap ((s.length : Nat) + (t.length : Nat)) = (s.length : Nat) + (t.length : Nat) := wrap_i64 (by omega) (by omega)
 have dA : DocOk (nnG n0) DA s := by rw [← hDA, ← hs, ← hA]; exact doc_seen (cntG_le _ _).2
 have dB : DocOk (nnG n0) DB t := by rw [← hDB, ← ht, ← hB]; exact doc_seen (cntG_le _ _).2
 have lA : DA.length = s.length := by rw [← dA.same, List.length_map]
 have lB : DB.length = t.length := by rw [← dB.same, List.length_map]
 have ok3 : ∀ {q : List Int}, (∃ r : List Int, q = (nnG n0 : Int) :: padT r ∧ r.length = nnG n0) → ∃ (c : Nat) (r : List Int), q = (c : Int) :: r ∧ c ≤ 40 ∧ r.length = 40 := fun h => by obtain ⟨r, rfl, hr⟩ := h; exact ⟨_, _, rfl, by omega, padT_len (by omega)⟩
 have m1 := (sameS_pf s DA (fun q hq => ok3 (fs q hq)) (fun r hr => by rw [dA.len r hr]; omega) (by omega) (by omega)).lo
 rw [if_pos (doc_told dA)] at m1
 have m2 := (sameS_pf t DB (fun q hq => ok3 (ft q hq)) (fun r hr => by rw [dB.len r hr]; omega) (by omega) (by omega)).lo
 rw [if_pos (doc_told dB)] at m2
 obtain ⟨dC, lC⟩ := btP_ok dA dB DB.length (Nat.le_refl _)
 rw [List.take_of_length_le (by omega), hu] at dC
 have m3 := (sameS_pf u (btP DA DB DB.length) (fun q hq => ok3 (fu q hq)) (fun r hr => by rw [dC.len r hr]; omega) (by omega) (by omega)).lo
 rw [if_pos (doc_told dC)] at m3
 have hgs : goodS (nnG n0 : Nat) s := good_of sR fs
 have wi := (within_pf s s41 (by omega) t t41 tR (by omega)).lo
 refine fn_in T_ok func6 rfl rfl ntmps6 rfl (by simp) ?_
 refine region_k T_ok (by decide) fun K hK => ?_
 simp [go_sem]
 refine hK _ ?_; clear hK K
 refine region_k T_ok (by decide) fun K hK => ?_
 simp [go_sem]
 refine call_pf g1 ?_
 simp [go_sem]
 refine hK _ ?_; clear hK K
 refine region_k T_ok (by decide) fun K hK => ?_
 simp [go_sem]
 refine call_pf g2 ?_
 simp [go_sem]
 refine hK _ ?_; clear hK K
 refine region_k T_ok (by decide) fun K hK => ?_
 simp [go_sem]
 refine hK _ ?_; clear hK K
 refine region_k T_ok (by decide) fun K hK => ?_
 simp [go_sem]
 refine hK _ ?_; clear hK K
 refine seq_k fun K1 hK1 => ?_
 refine region_k T_ok (by decide) fun K hK => ?_
 simp [go_sem]
 refine hK _ ?_; clear hK K
 refine tr_block ?_
 refine loop_p (α := Nat × Nat) (fun q => ⟨119, [(0, .ro 1 (uVs a)), (1, .ro 1 (uVs b)), (2, iV n0), (7, .ro 41 (stR s)), (8, .ro 1 (rowU DA)), (9, .ro 41 (stR t)), (10, .ro 1 (rowU DB)), (11, .ro 1 (rowU (btP DA DB q.1))), (12, bV true), (32, .ro 1 (rowU DB)), (33, iV (DB.length : Nat)), (34, iV (q.1 : Nat))], [], q.2⟩) (fun q => q.1 ≤ DB.length) (fun q => DB.length - q.1) (0, 0) ?_ ?_ ?_
 ·exact Nat.zero_le _
 ·refine Weaker.fzk 1 0 (by first | omega | (dsimp only; omega)) ?_ ?_ ?_
  ·simp [go_sem, btP]
  ·first | (simp; done) | (simp; omega)
  ·simp [go_sem]
 rintro ⟨i, j⟩ hi
 dsimp only at hi ⊢
 refine region_k T_ok (by decide) fun K hK => ?_
 simp [go_sem]
 refine hK _ ?_; clear hK K
 refine seq_k fun K2 hK2 => ?_
 refine cond_k rfl (fun h => ?_) (fun h => ?_)
 ·have hil : i < DB.length := by simp at h; omega
  clear h
  have hn1 : i < (DB).length := by omega
  obtain ⟨r, hx1, hx'1⟩ := getAt hn1
  have hI1 : (i : Int) < ((DB).length : Nat) := by omega
  have hi0 : (0 : Int) ≤ (i : Nat) := by omega
  have hw : IntKind.i64.wrap ((i : Nat) + 1) = (i : Nat) + 1 := wrap_i64 (by omega) (by omega)
  obtain ⟨dI, lI⟩ := btP_ok dA dB i hi
  have hrl := dB.len r (List.mem_of_getElem? hx1)
  refine tr_skip ?_
  refine hK2 _ ?_; try clear hK2 K2
  refine seq_k fun K3 hK3 => ?_
  refine tr_block ?_
  refine region_k T_ok (by decide) fun K hK => ?_
  simp [go_sem, hn1, hx1, hx'1, hI1, hi0]
  refine hK _ ?_; clear hK K
  refine region_e T_ok (by decide) fun K hK => ?_
  simp [go_sem]
  refine call_pf (withR_pf (btP DA DB i) r (fun z hz => by rw [dI.len z hz, hrl]) (by omega) (by omega)).lo ?_
  simp [go_sem]
  refine hK _ ?_; clear hK K
  refine hK3 _ ?_; try clear hK3 K3
  refine region_e T_ok (by decide) fun K hK => ?_
  simp [go_sem, hw]
  refine hK _ ?_; clear hK K
  refine ⟨(i + 1, j + 40), ?_, ?_, ?_⟩
  ·dsimp only; omega
  ·dsimp only; omega
  ·refine Weaker.fzk 1 0 (by first | omega | (dsimp only; omega)) ?_ ?_ ?_
   ·simp [go_sem, btP_step hx1]
   ·first | (simp; done) | (simp; omega)
   simp [go_sem]
 ·obtain rfl : i = DB.length := by simp at h; omega
  clear h
  refine tr_exit ?_
  refine hK1 _ ?_; try clear hK1 K1
  refine seq_k fun K4 hK4 => ?_
  refine region_k T_ok (by decide) fun K hK => ?_
  simp [go_sem]
  refine hK _ ?_; clear hK K
  refine tr_block ?_
  refine loop_p (α := Nat × Nat × Bool) (fun q => ⟨119, [(0, .ro 1 (uVs a)), (1, .ro 1 (uVs b)), (2, iV n0), (7, .ro 41 (stR s)), (8, .ro 1 (rowU DA)), (9, .ro 41 (stR t)), (10, .ro 1 (rowU DB)), (11, .ro 1 (rowU (btP DA DB DB.length))), (12, bV q.2.2), (42, .ro 1 (rowU DA)), (43, iV (DA.length : Nat)), (44, iV (q.1 : Nat))], [], q.2.1⟩) (fun q => q.1 ≤ DA.length ∧ (q.2.2 = true ↔ ∀ k r, k < q.1 → DA[k]? = some r → r ∈ DB)) (fun q => DA.length - q.1) (0, j, true) ?_ ?_ ?_
  ·exact ⟨Nat.zero_le _, by simp⟩
  ·refine Weaker.fzk 1 0 (by first | omega | (dsimp only; omega)) ?_ ?_ ?_
   ·simp [go_sem]
   ·first | (simp; done) | (simp; omega)
   ·simp [go_sem]
  rintro ⟨i, j, w⟩ ⟨hi, hw1⟩
  dsimp only at hi hw1 ⊢
  refine region_k T_ok (by decide) fun K hK => ?_
  simp [go_sem]
  refine hK _ ?_; clear hK K
  refine seq_k fun K5 hK5 => ?_
  refine cond_k rfl (fun h => ?_) (fun h => ?_)
  ·have hil : i < DA.length := by simp at h; omega
   clear h
   have hn1 : i < (DA).length := by omega
   obtain ⟨r, hx1, hx'1⟩ := getAt hn1
   have hI1 : (i : Int) < ((DA).length : Nat) := by omega
   have hi0 : (0 : Int) ≤ (i : Nat) := by omega
   have hw : IntKind.i64.wrap ((i : Nat) + 1) = (i : Nat) + 1 := wrap_i64 (by omega) (by omega)
   have hrl := dA.len r (List.mem_of_getElem? hx1)
   refine tr_skip ?_
   refine hK5 _ ?_; try clear hK5 K5
   refine seq_k fun K6 hK6 => ?_
   refine tr_block ?_
   refine region_k T_ok (by decide) fun K hK => ?_
   simp [go_sem, hn1, hx1, hx'1, hI1, hi0]
   refine hK _ ?_; clear hK K
   refine region_e T_ok (by decide) fun K hK => ?_
   have hcs : w = false ∨ (w = true ∧ r ∈ DB) ∨ (w = true ∧ ¬ r ∈ DB) := by cases w <;> simp <;> exact Classical.em _
   rcases hcs with c1 | ⟨c1, c2⟩ | ⟨c1, c2⟩
   ·simp [go_sem, c1]
    refine hK _ ?_; clear hK K
    refine hK6 _ ?_; try clear hK6 K6
    refine region_e T_ok (by decide) fun K hK => ?_
    simp [go_sem, hw]
    refine hK _ ?_; clear hK K
    refine ⟨(i + 1, j + 40, false), ?_, ?_, ?_⟩
    ·dsimp only; exact ⟨by omega, ⟨fun h => (by cases h), fun h => absurd (hw1.2 fun k r hk => h k r (by omega)) (by rw [c1]; decide)⟩⟩
    ·dsimp only; omega
    ·refine Weaker.fzk 1 0 (by first | omega | (dsimp only; omega)) ?_ ?_ ?_
     ·simp [go_sem]
     ·first | (simp; done) | (simp; omega)
     simp [go_sem]
   ·have hwl := (withR_len DB r).2 c2
    simp [go_sem, c1]
    refine call_pf (withR_pf DB r (fun z hz => by rw [dB.len z hz, hrl]) (by omega) (by omega)).lo ?_
    simp [go_sem, hwl, c1]
    refine hK _ ?_; clear hK K
    refine hK6 _ ?_; try clear hK6 K6
    refine region_e T_ok (by decide) fun K hK => ?_
    simp [go_sem, hw]
    refine hK _ ?_; clear hK K
    refine ⟨(i + 1, j + 40, true), ?_, ?_, ?_⟩
    ·dsimp only; exact ⟨by omega, ⟨fun _ k r2 hk h2 => (by rcases Nat.lt_or_ge k i with h | h; exact hw1.1 c1 k r2 h h2; obtain rfl : k = i := (by omega); rw [hx1] at h2; cases h2; exact c2), fun _ => rfl⟩⟩
    ·dsimp only; omega
    ·refine Weaker.fzk 1 0 (by first | omega | (dsimp only; omega)) ?_ ?_ ?_
     ·simp [go_sem]
     ·first | (simp; done) | (simp; omega)
     simp [go_sem]
   ·have hwl : ¬ (withR DB r).length = DB.length := fun e => c2 ((withR_len DB r).1 e)
    have hwl2 : ((((withR DB r).length : Nat) : Int) == (DB.length : Nat)) = false := by rw [beq_eq_false_iff_ne]; omega
    simp [go_sem, c1]
    refine call_pf (withR_pf DB r (fun z hz => by rw [dB.len z hz, hrl]) (by omega) (by omega)).lo ?_
    simp [go_sem, hwl2, c1]
    refine hK _ ?_; clear hK K
    refine hK6 _ ?_; try clear hK6 K6
    refine region_e T_ok (by decide) fun K hK => ?_
    simp [go_sem, hw]
    refine hK _ ?_; clear hK K
    refine ⟨(i + 1, j + 40, false), ?_, ?_, ?_⟩
    ·dsimp only; exact ⟨by omega, ⟨fun h => (by cases h), fun h => absurd (h i r (by omega) hx1) c2⟩⟩
    ·dsimp only; omega
    ·refine Weaker.fzk 1 0 (by first | omega | (dsimp only; omega)) ?_ ?_ ?_
     ·simp [go_sem]
     ·first | (simp; done) | (simp; omega)
     simp [go_sem]
  ·obtain rfl : i = DA.length := by simp at h; omega
   clear h
   have hwi : decide (∀ x ∈ s, x ∈ t) = w := by
    rw [Bool.eq_iff_iff, decide_eq_true_eq, hw1]
    constructor
    ·intro h k r hk hr
     refine (dB.mem (dA.len r (List.mem_of_getElem? hr))).2 (h _ ?_)
     rw [← dA.same]; exact List.mem_map_of_mem (List.mem_of_getElem? hr)
    ·intro h x hx
     rw [← dA.same] at hx
     obtain ⟨r, hr, rfl⟩ := List.mem_map.1 hx
     obtain ⟨k, hk, rfl⟩ := List.mem_iff_getElem.1 hr
     exact (dB.mem (dA.len _ hr)).1 (h k _ hk (List.getElem?_eq_getElem hk))
   rw [hwi] at wi
   refine tr_exit ?_
   refine hK4 _ ?_; try clear hK4 K4
   refine seq_k fun K7 hK7 => ?_
   refine region_k T_ok (by decide) fun K hK => ?_
   simp [go_sem]
   refine call_pf awake12 ?_
   simp [go_sem]
   refine call_pf m1 ?_
   simp [go_sem]
   refine call_pf m2 ?_
   simp [go_sem]
   refine call_pf wu ?_
   simp [go_sem]
   refine call_pf m3 ?_
   simp [go_sem]
   refine call_pf wi ?_
   simp [go_sem, hw7, hn1]
   refine call_pf (good_pf (nnG n0 : Nat) s s41 (by omega)).lo ?_
   rw [decide_eq_true hgs]
   simp [go_sem]
   refine hK _ ?_; clear hK K
   refine cond_k rfl (fun h => ?_) (fun h => ?_)
   ·simp at h
   ·clear h
    refine tr_skip ?_
    refine hK7 _ ?_; try clear hK7 K7
    refine seq_k fun K8 hK8 => ?_
    refine region_k T_ok (by decide) fun K hK => ?_
    simp [go_sem]
    refine hK _ ?_; clear hK K
    refine tr_block ?_
    refine loop_p (α := Nat × Nat) (fun q => ⟨119, [(0, .ro 1 (uVs a)), (1, .ro 1 (uVs b)), (2, iV n0), (7, .ro 41 (stR s)), (8, .ro 1 (rowU DA)), (9, .ro 41 (stR t)), (10, .ro 1 (rowU DB)), (11, .ro 1 (rowU (btP DA DB DB.length))), (12, bV w), (97, .ro 41 (stR t)), (98, iV (t.length : Nat)), (99, iV (q.1 : Nat))], [], q.2⟩) (fun q => q.1 ≤ t.length) (fun q => t.length - q.1) (0, j) ?_ ?_ ?_
    ·exact Nat.zero_le _
    ·refine Weaker.fzk 1 0 (by first | omega | (dsimp only; omega)) ?_ ?_ ?_
     ·simp [go_sem]
     ·first | (simp; done) | (simp; omega)
     ·simp [go_sem]
    rintro ⟨i, j2⟩ hi
    dsimp only at hi ⊢
    refine region_k T_ok (by decide) fun K hK => ?_
    simp [go_sem]
    refine hK _ ?_; clear hK K
    refine seq_k fun K9 hK9 => ?_
    refine cond_k rfl (fun h => ?_) (fun h => ?_)
    ·have hil : i < t.length := by simp at h; omega
     clear h
     have hn1 : i < (DB).length := by omega
     obtain ⟨r, hx1, hx'1⟩ := getAt hn1
     have hI1 : (i : Int) < ((DB).length : Nat) := by omega
     have hi0 : (0 : Int) ≤ (i : Nat) := by omega
     have hw : IntKind.i64.wrap ((i : Nat) + 1) = (i : Nat) + 1 := wrap_i64 (by omega) (by omega)
     have hrl := dB.len r (List.mem_of_getElem? hx1)
     have htx : t[i]? = some (staN (nnG n0) r) := by rw [← dB.same, List.getElem?_map, hx1]; rfl
     obtain ⟨htn, htx'⟩ := List.getElem?_eq_some_iff.1 htx
     have htI : (i : Int) < (t.length : Nat) := by omega
     have q41 := stR_41c hrl (by omega)
     have hql : (stK (staN (nnG n0) r)).length = 41 := (stK_len _).trans q41
     have hqt : List.take 41 (stK (staN (nnG n0) r)) = stK (staN (nnG n0) r) := List.take_of_length_le (by omega)
     have hqo := stK_one (staN (nnG n0) r)
     have hwl := withR_len DA r
     rw [dA.mem hrl] at hwl
     refine tr_skip ?_
     refine hK9 _ ?_; try clear hK9 K9
     refine seq_k fun K10 hK10 => ?_
     refine tr_block ?_
     refine region_k T_ok (by decide) fun K hK => ?_
     simp [go_sem, htI, hi0, htn, htx, htx', hql, hqt]
     refine ⟨hqo, ?_⟩
     refine hK _ ?_; clear hK K
     refine draw_k T_ok (by kernel_rfl) 12 [[], [], [0, 1], [], [], [], [4, 5], [4, 5, 6], [0, 1, 2, 3, 4, 5, 6, 7], [0, 1, 2, 3, 4, 5, 6, 7, 8], [], [10], [0, 1, 2, 3, 4, 5, 6, 7, 8, 9, 10, 11], [0, 1, 2, 3, 4, 5, 6, 7, 8, 9, 10, 11, 12]] [] (by decide) (by decide) (by decide) fun K hK => ?_
     first | dsimp only [List.take, List.drop] | dsimp [List.take, List.drop]
     simp [go_sem, hn1, hx1, hx'1, hI1, hi0, hql, hqt]
     refine callD_of (has_pf s s41 sR (by omega) (staN (nnG n0) r) q41).lo ?_
     simp [go_sem, hn1, hx1, hx'1, hI1, hi0, hql, hqt]
     refine callD_of (withR_pf DA r (fun z hz => by rw [dA.len z hz, hrl]) (by omega) (by omega)).lo ?_
     rcases Classical.em (staN (nnG n0) r ∈ s) with hin | hin
     ·have hw5 := hwl.2 hin
      simp [go_sem, hin, hw5, hn1, hx1, hx'1, hI1, hi0, hql, hqt]
      refine hK _ ?_; clear hK K
      refine cond_k rfl (fun h => ?_) (fun h => ?_)
      ·simp at h
      ·clear h
       refine tr_skip ?_
       refine hK10 _ ?_; try clear hK10 K10
       refine region_e T_ok (by decide) fun K hK => ?_
       simp [go_sem, hw]
       refine hK _ ?_; clear hK K
       refine ⟨(i + 1, j2 + 100), ?_, ?_, ?_⟩
       ·dsimp only; omega
       ·dsimp only; omega
       ·refine Weaker.fzk 1 0 (by first | omega | (dsimp only; omega)) ?_ ?_ ?_
        ·simp [go_sem]
        ·first | (simp; done) | (simp; omega)
        simp [go_sem]
     ·have hw5 : ¬ (withR DA r).length = DA.length := fun e => hin (hwl.1 e)
      have hw6 : ((((withR DA r).length : Nat) : Int) == (DA.length : Nat)) = false := by rw [beq_eq_false_iff_ne]; omega
      simp [go_sem, hin, hw6, hn1, hx1, hx'1, hI1, hi0, hql, hqt]
      refine hK _ ?_; clear hK K
      refine cond_k rfl (fun h => ?_) (fun h => ?_)
      ·simp at h
      ·clear h
       refine tr_skip ?_
       refine hK10 _ ?_; try clear hK10 K10
       refine region_e T_ok (by decide) fun K hK => ?_
       simp [go_sem, hw]
       refine hK _ ?_; clear hK K
       refine ⟨(i + 1, j2 + 100), ?_, ?_, ?_⟩
       ·dsimp only; omega
       ·dsimp only; omega
       ·refine Weaker.fzk 1 0 (by first | omega | (dsimp only; omega)) ?_ ?_ ?_
        ·simp [go_sem]
        ·first | (simp; done) | (simp; omega)
        simp [go_sem]
    ·clear h
     refine tr_exit ?_
     refine hK8 _ ?_; try clear hK8 K8
     refine region_k T_ok (by decide) fun K hK => ?_
     simp [go_sem]
     refine hK _ ?_; clear hK K
     refine tr_ret ⟨.inr rfl, ?_⟩
     simp [go_sem]
end Go.Proofs.YtjhnpebgfjefoaaDoor
