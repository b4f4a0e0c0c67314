/- Loops as they are used; what is forgotten at their heads; numbers. -/
import Derived.Test.YtokdphmnlcmbbaaSl17
import Derived.IntWalk
set_option linter.unusedVariables false
set_option linter.unusedSimpArgs false
namespace Go.Sl

theorem get_mem : ∀ (t : List (Nat × V)) (i : Nat), get t i = .any ∨ (i, get t i) ∈ t
  | [], _ => .inl rfl
  | (j, v) :: r, i => by
    by_cases h : i = j
    · subst h; right; simp [get]
    · rcases get_mem r i with h' | h'
      · left; simp [get, h, h']
      · right; simp only [get, h, if_false]; exact List.mem_cons_of_mem _ h'

theorem nodup_of_map {α β : Type} (f : α → β) {l : List α} (h : (l.map f).Nodup) : l.Nodup := (List.pairwise_map.1 h).imp fun {a b} h e => h (congrArg f e)

theorem Weaker.drop {N k : Nat} {t : List (Nat × V)} {H : Heap} : ∀ G : Heap, Weaker ⟨N, t, G ++ H, k⟩ ⟨N, t, H, k⟩
  | [] => Weaker.refl _
  | p :: r => by
    have h := Weaker.del (N := N) (k := k) (t := t) (H := (p :: r) ++ H) p.1
    simp only [List.cons_append, Sl.del, if_true] at h
    exact h.trans (Weaker.drop r)

theorem Weaker.of {N k : Nat} {H H' : Heap} {t t' : List (Nat × V)} (ht : ∀ p ∈ t', get t p.1 = p.2) (hn : (H'.map Prod.fst).Nodup) (hH : ∀ p ∈ H', look p.1 H = some p.2) : Weaker ⟨N, t, H, k⟩ ⟨N, t', H', k⟩ := by
  refine (Weaker.tmps (t' := t') fun i => ?_).trans ⟨fun F ι a w hh => ?_⟩
  · rcases get_mem t' i with h | h
    · exact .inl h
    · exact .inr (ht _ h).symm
  · have hN := hh.rep.names
    simp only [] at hN
    have hnd : H.Nodup := nodup_of_map _ hN
    have hnd' : H'.Nodup := nodup_of_map _ hn
    have p1 : (H.filter fun p => decide (p.1 ∈ H'.map Prod.fst)).Perm H' := by
      rw [List.perm_ext_iff_of_nodup (hnd.filter _) hnd']
      intro p
      simp only [List.mem_filter, decide_eq_true_eq]
      constructor
      · rintro ⟨h1, h2⟩
        obtain ⟨q, hq, he⟩ := List.mem_map.1 h2
        have e1 := hH q hq
        have e2 := look_of_mem (n := p.1) (b := p.2) hN h1
        rw [← he, e1] at e2
        have e3 := Option.some.inj e2
        have : q = p := Prod.ext he e3
        exact this ▸ hq
      · intro h
        exact ⟨look_mem (hH p h), List.mem_map_of_mem h⟩
    have p2 : H.Perm ((H.filter fun p => !decide (p.1 ∈ H'.map Prod.fst)) ++ H') := by
      refine ((List.filter_append_perm (fun p => decide (p.1 ∈ H'.map Prod.fst)) H).symm.trans ?_)
      exact (List.perm_append_comm).trans (p1.append_left _)
    exact ((Weaker.perm p2).trans (Weaker.drop _)).h F ι a w hh

theorem loop_k {P : Program} {c : Code} {Q : Exit → St → Prop} {σ : St} {α : Type} (S : α → St) (μ : α → Nat) (a0 : α) (h0 : Weaker σ (S a0)) (round : ∀ a, Tr P c (Then (fun σ' => ∃ a', μ a' < μ a ∧ Weaker σ' (S a')) Q) (S a)) : Tr P (.loop c) Q σ :=
  tr_loop (fun n σ => ∃ a, μ a = n ∧ Weaker σ (S a)) (μ a0) ⟨a0, rfl, h0⟩ fun n σ ⟨a, ha, hw⟩ =>
    Tr.weaken hw ((round a).mono fun e σ' h => by
      cases e with
      | normal => obtain ⟨a', h1, h2⟩ := h; exact ⟨μ a', by omega, a', rfl, h2⟩
      | _ => exact h)

/-- with what is known at the loop's head -/
theorem loop_p {P : Program} {c : Code} {Q : Exit → St → Prop} {σ : St} {α : Type} (S : α → St) (I : α → Prop) (μ : α → Nat) (a0 : α) (hI : I a0) (h0 : Weaker σ (S a0)) (round : ∀ a, I a → Tr P c (Then (fun σ' => ∃ a', I a' ∧ μ a' < μ a ∧ Weaker σ' (S a')) Q) (S a)) : Tr P (.loop c) Q σ :=
  loop_k (α := { a // I a }) (fun a => S a.1) (fun a => μ a.1) ⟨a0, hI⟩ h0 fun a => (round a.1 a.2).mono fun e σ' h => by
    cases e with
    | normal => obtain ⟨a', h1, h2, h3⟩ := h; exact ⟨⟨a', h1⟩, h2, h3⟩
    | _ => exact h

/-- a region at the end of a piece -/
theorem region_e {P : Program} {T : Tab} {Q : Exit → St → Prop} (hT : TabOk P T) {id : Nat} {l : List Oper} {N k : Nat} {t : List (Nat × V)} {H : Heap} (hN : dstsLt l N = true)
    (h : ∀ K : St → Prop, (∀ σ', Q .normal σ' → K σ') → vcL T P l N l K t H k) : Tr P (.region id l.toArray false) Q ⟨N, t, H, k⟩ := tr_region hT hN (h _ fun _ h => h)

theorem draw_e {P : Program} {T : Tab} {Q : Exit → St → Prop} (hT : TabOk P T) (hm : P.follows .mixedOrders = true) {id : Nat} {l : List Oper} {N k : Nat} {t : List (Nat × V)} {H : Heap} (m : Nat) (tbl : List (List Nat)) (prs : List (Nat × Nat)) (hN : dstsLt l N = true) (hd : drawOk l tbl m = true) (hp : pairsOk l tbl prs m = true)
    (h : ∀ K : St → Prop, (∀ σ', Q .normal σ' → K σ') → vcD T P l N k (l.take m) (fun t' H' lg => confQ prs lg ∧ vcL T P l N (l.drop m) K t' H' (k + m)) t H []) :
    Tr P (.region id l.toArray true) Q ⟨N, t, H, k⟩ := tr_draw hT hm tbl prs hN hd hp (h _ fun _ h => h)

theorem block_k {P : Program} {Q : Exit → St → Prop} {σ : St} {id : Nat} {c : Code} (h : ∀ K : St → Prop, (∀ σ', Q .normal σ' → K σ') → Tr P c (InBlock id fun e => match e with | .normal => K | e => Q e) σ) : Tr P (.block id c) Q σ :=
  tr_block ((h (Q .normal) fun _ h => h).mono fun e σ' h => by
    cases e with
    | exit i => simp only [InBlock] at h ⊢; split <;> simp_all
    | _ => exact h)

/-! ## numbers: below 2 ^ 16 and below 2 ^ 64, as Nat -/

theorem ofInt_nat (w n : Nat) : BitVec.ofInt w (n : Int) = BitVec.ofNat w n := BitVec.ofInt_natCast w n

theorem w16 (n : Nat) (h : n < 65536) : IntKind.u16.wrap (n : Int) = n := IntWalk.u16_in _ (by omega)
theorem w64 (n : Nat) (h : n < 18446744073709551616) : IntKind.u64.wrap (n : Int) = n := IntWalk.u64_in _ (by omega)

section
variable {m n : Nat}
theorem and16 (hm : m < 65536) (hn : n < 65536) : (BitVec.ofInt 16 (m : Int) &&& BitVec.ofInt 16 (n : Int)).toNat = m &&& n := by
  rw [ofInt_nat, ofInt_nat, BitVec.toNat_and, BitVec.toNat_ofNat, BitVec.toNat_ofNat, Nat.mod_eq_of_lt (show m < 2 ^ 16 from hm), Nat.mod_eq_of_lt (show n < 2 ^ 16 from hn)]
theorem or16 (hm : m < 65536) (hn : n < 65536) : (BitVec.ofInt 16 (m : Int) ||| BitVec.ofInt 16 (n : Int)).toNat = m ||| n := by
  rw [ofInt_nat, ofInt_nat, BitVec.toNat_or, BitVec.toNat_ofNat, BitVec.toNat_ofNat, Nat.mod_eq_of_lt (show m < 2 ^ 16 from hm), Nat.mod_eq_of_lt (show n < 2 ^ 16 from hn)]
theorem andNot_bits (w m n : Nat) : BitVec.ofNat w m &&& ~~~BitVec.ofNat w n = BitVec.ofNat w m ^^^ (BitVec.ofNat w m &&& BitVec.ofNat w n) := by
  ext i hi
  simp only [BitVec.getElem_and, BitVec.getElem_not, BitVec.getElem_xor]
  cases (BitVec.ofNat w m)[i] <;> cases (BitVec.ofNat w n)[i] <;> rfl
theorem andNot16 (hm : m < 65536) (hn : n < 65536) : (BitVec.ofInt 16 (m : Int) &&& ~~~BitVec.ofInt 16 (n : Int)).toNat = m ^^^ (m &&& n) := by
  rw [ofInt_nat, ofInt_nat, andNot_bits, BitVec.toNat_xor, BitVec.toNat_and, BitVec.toNat_ofNat, BitVec.toNat_ofNat, Nat.mod_eq_of_lt (show m < 2 ^ 16 from hm), Nat.mod_eq_of_lt (show n < 2 ^ 16 from hn)]
theorem and64 (hm : m < 18446744073709551616) (hn : n < 18446744073709551616) : (BitVec.ofInt 64 (m : Int) &&& BitVec.ofInt 64 (n : Int)).toNat = m &&& n := by
  rw [ofInt_nat, ofInt_nat, BitVec.toNat_and, BitVec.toNat_ofNat, BitVec.toNat_ofNat, Nat.mod_eq_of_lt (show m < 2 ^ 64 from hm), Nat.mod_eq_of_lt (show n < 2 ^ 64 from hn)]
theorem or64 (hm : m < 18446744073709551616) (hn : n < 18446744073709551616) : (BitVec.ofInt 64 (m : Int) ||| BitVec.ofInt 64 (n : Int)).toNat = m ||| n := by
  rw [ofInt_nat, ofInt_nat, BitVec.toNat_or, BitVec.toNat_ofNat, BitVec.toNat_ofNat, Nat.mod_eq_of_lt (show m < 2 ^ 64 from hm), Nat.mod_eq_of_lt (show n < 2 ^ 64 from hn)]
theorem xor64 (hm : m < 18446744073709551616) (hn : n < 18446744073709551616) : (BitVec.ofInt 64 (m : Int) ^^^ BitVec.ofInt 64 (n : Int)).toNat = m ^^^ n := by
  rw [ofInt_nat, ofInt_nat, BitVec.toNat_xor, BitVec.toNat_ofNat, BitVec.toNat_ofNat, Nat.mod_eq_of_lt (show m < 2 ^ 64 from hm), Nat.mod_eq_of_lt (show n < 2 ^ 64 from hn)]
theorem andNot64 (hm : m < 18446744073709551616) (hn : n < 18446744073709551616) : (BitVec.ofInt 64 (m : Int) &&& ~~~BitVec.ofInt 64 (n : Int)).toNat = m ^^^ (m &&& n) := by
  rw [ofInt_nat, ofInt_nat, andNot_bits, BitVec.toNat_xor, BitVec.toNat_and, BitVec.toNat_ofNat, BitVec.toNat_ofNat, Nat.mod_eq_of_lt (show m < 2 ^ 64 from hm), Nat.mod_eq_of_lt (show n < 2 ^ 64 from hn)]
end

/-! ## operations on numbers, as simp takes them: what is asked of the numbers goes to omega -/
section
variable {k : IntKind} {x y : Int} {K : V → Prop}
theorem bi_add : binIV .add k x y K = K (.val (.int k (k.wrap (x + y)))) := rfl
theorem bi_sub : binIV .sub k x y K = K (.val (.int k (k.wrap (x - y)))) := rfl
theorem bi_mul : binIV .mul k x y K = K (.val (.int k (k.wrap (x * y)))) := rfl
theorem bi_quo : binIV .quo k x y K = (y ≠ 0 ∧ K (.val (.int k (k.wrap (x.tdiv y))))) := rfl
theorem bi_rem : binIV .rem k x y K = (y ≠ 0 ∧ K (.val (.int k (x.tmod y)))) := rfl
theorem bi_eql : binIV .eql k x y K = K (.val (.bool (x == y))) := rfl
theorem bi_neq : binIV .neq k x y K = K (.val (.bool (x != y))) := rfl
theorem bi_lss : binIV .lss k x y K = K (.val (.bool (decide (x < y)))) := rfl
theorem bi_leq : binIV .leq k x y K = K (.val (.bool (decide (x ≤ y)))) := rfl
theorem bi_gtr : binIV .gtr k x y K = K (.val (.bool (decide (x > y)))) := rfl
theorem bi_geq : binIV .geq k x y K = K (.val (.bool (decide (x ≥ y)))) := rfl

theorem bi_and16 (h1 : 0 ≤ x) (h2 : x < 65536) (h3 : 0 ≤ y) (h4 : y < 65536) : binIV .and .u16 x y K = K (.val (.int .u16 ((x.toNat &&& y.toNat : Nat) : Int))) := by
  obtain ⟨m, rfl⟩ := Int.eq_ofNat_of_zero_le h1
  obtain ⟨n, rfl⟩ := Int.eq_ofNat_of_zero_le h3
  show K (.val (.int .u16 (IntKind.u16.wrap (((BitVec.ofInt 16 (m : Int) &&& BitVec.ofInt 16 (n : Int)).toNat : Nat) : Int)))) = _
  rw [and16 (by omega) (by omega), w16 _ (Nat.lt_of_le_of_lt Nat.and_le_left (by omega))]; rfl
theorem bi_or16 (h1 : 0 ≤ x) (h2 : x < 65536) (h3 : 0 ≤ y) (h4 : y < 65536) : binIV .or .u16 x y K = K (.val (.int .u16 ((x.toNat ||| y.toNat : Nat) : Int))) := by
  obtain ⟨m, rfl⟩ := Int.eq_ofNat_of_zero_le h1
  obtain ⟨n, rfl⟩ := Int.eq_ofNat_of_zero_le h3
  show K (.val (.int .u16 (IntKind.u16.wrap (((BitVec.ofInt 16 (m : Int) ||| BitVec.ofInt 16 (n : Int)).toNat : Nat) : Int)))) = _
  rw [or16 (by omega) (by omega), w16 _ (Nat.or_lt_two_pow (n := 16) (by omega) (by omega))]; rfl
theorem bi_andNot16 (h1 : 0 ≤ x) (h2 : x < 65536) (h3 : 0 ≤ y) (h4 : y < 65536) : binIV .andNot .u16 x y K = K (.val (.int .u16 ((x.toNat ^^^ (x.toNat &&& y.toNat) : Nat) : Int))) := by
  obtain ⟨m, rfl⟩ := Int.eq_ofNat_of_zero_le h1
  obtain ⟨n, rfl⟩ := Int.eq_ofNat_of_zero_le h3
  show K (.val (.int .u16 (IntKind.u16.wrap (((BitVec.ofInt 16 (m : Int) &&& ~~~BitVec.ofInt 16 (n : Int)).toNat : Nat) : Int)))) = _
  rw [andNot16 (by omega) (by omega), w16 _ (Nat.xor_lt_two_pow (n := 16) (by omega) (Nat.lt_of_le_of_lt Nat.and_le_left (by omega)))]; rfl
theorem bi_sub16 (h1 : 0 ≤ y) (h2 : y ≤ x) (h3 : x < 65536) : binIV .sub .u16 x y K = K (.val (.int .u16 ((x.toNat - y.toNat : Nat) : Int))) := by
  show K (.val (.int .u16 (IntKind.u16.wrap (x - y)))) = _
  rw [show x - y = ((x.toNat - y.toNat : Nat) : Int) by omega, w16 _ (by omega)]
theorem bi_and64 (h1 : 0 ≤ x) (h2 : x < 18446744073709551616) (h3 : 0 ≤ y) (h4 : y < 18446744073709551616) : binIV .and .u64 x y K = K (.val (.int .u64 ((x.toNat &&& y.toNat : Nat) : Int))) := by
  obtain ⟨m, rfl⟩ := Int.eq_ofNat_of_zero_le h1
  obtain ⟨n, rfl⟩ := Int.eq_ofNat_of_zero_le h3
  show K (.val (.int .u64 (IntKind.u64.wrap (((BitVec.ofInt 64 (m : Int) &&& BitVec.ofInt 64 (n : Int)).toNat : Nat) : Int)))) = _
  rw [and64 (by omega) (by omega), w64 _ (Nat.lt_of_le_of_lt Nat.and_le_left (by omega))]; rfl
theorem bi_or64 (h1 : 0 ≤ x) (h2 : x < 18446744073709551616) (h3 : 0 ≤ y) (h4 : y < 18446744073709551616) : binIV .or .u64 x y K = K (.val (.int .u64 ((x.toNat ||| y.toNat : Nat) : Int))) := by
  obtain ⟨m, rfl⟩ := Int.eq_ofNat_of_zero_le h1
  obtain ⟨n, rfl⟩ := Int.eq_ofNat_of_zero_le h3
  show K (.val (.int .u64 (IntKind.u64.wrap (((BitVec.ofInt 64 (m : Int) ||| BitVec.ofInt 64 (n : Int)).toNat : Nat) : Int)))) = _
  rw [or64 (by omega) (by omega), w64 _ (Nat.or_lt_two_pow (n := 64) (by omega) (by omega))]; rfl
theorem bi_xor64 (h1 : 0 ≤ x) (h2 : x < 18446744073709551616) (h3 : 0 ≤ y) (h4 : y < 18446744073709551616) : binIV .xor .u64 x y K = K (.val (.int .u64 ((x.toNat ^^^ y.toNat : Nat) : Int))) := by
  obtain ⟨m, rfl⟩ := Int.eq_ofNat_of_zero_le h1
  obtain ⟨n, rfl⟩ := Int.eq_ofNat_of_zero_le h3
  show K (.val (.int .u64 (IntKind.u64.wrap (((BitVec.ofInt 64 (m : Int) ^^^ BitVec.ofInt 64 (n : Int)).toNat : Nat) : Int)))) = _
  rw [xor64 (by omega) (by omega), w64 _ (Nat.xor_lt_two_pow (n := 64) (by omega) (by omega))]; rfl
theorem bi_andNot64 (h1 : 0 ≤ x) (h2 : x < 18446744073709551616) (h3 : 0 ≤ y) (h4 : y < 18446744073709551616) : binIV .andNot .u64 x y K = K (.val (.int .u64 ((x.toNat ^^^ (x.toNat &&& y.toNat) : Nat) : Int))) := by
  obtain ⟨m, rfl⟩ := Int.eq_ofNat_of_zero_le h1
  obtain ⟨n, rfl⟩ := Int.eq_ofNat_of_zero_le h3
  show K (.val (.int .u64 (IntKind.u64.wrap (((BitVec.ofInt 64 (m : Int) &&& ~~~BitVec.ofInt 64 (n : Int)).toNat : Nat) : Int)))) = _
  rw [andNot64 (by omega) (by omega), w64 _ (Nat.xor_lt_two_pow (n := 64) (by omega) (Nat.lt_of_le_of_lt Nat.and_le_left (by omega)))]; rfl
theorem bi_sub64 (h1 : 0 ≤ y) (h2 : y ≤ x) (h3 : x < 18446744073709551616) : binIV .sub .u64 x y K = K (.val (.int .u64 ((x.toNat - y.toNat : Nat) : Int))) := by
  show K (.val (.int .u64 (IntKind.u64.wrap (x - y)))) = _
  rw [show x - y = ((x.toNat - y.toNat : Nat) : Int) by omega, w64 _ (by omega)]
theorem neg_u64 (h1 : 0 < x) (h2 : x < 18446744073709551616) : IntKind.u64.wrap (0 - x) = ((18446744073709551616 - x.toNat : Nat) : Int) := by
  simp [IntKind.wrap, IntKind.bits, IntKind.signed]; omega
theorem neg_u64' (h1 : 0 < x) (h2 : x < 18446744073709551616) : IntKind.u64.wrap (-x) = ((18446744073709551616 - x.toNat : Nat) : Int) := by
  rw [← neg_u64 h1 h2, Int.zero_sub]

/-- 2 ^ n, not to be looked into -/
def pw (n : Nat) : Nat := 2 ^ n
theorem pw_pos (n : Nat) : 0 < pw n := Nat.two_pow_pos n
theorem pw_lt {n m : Nat} (h : n < m) : pw n < 2 ^ m := Nat.pow_lt_pow_right (by omega) h
theorem testBit_pw (n i : Nat) : (pw n).testBit i = decide (n = i) := Nat.testBit_two_pow
theorem sh_l16 (h1 : 0 ≤ y) (h2 : y < 16) : shIV .shl .u16 1 y K = K (.val (.int .u16 ((pw y.toNat : Nat) : Int))) := by
  unfold pw
  obtain ⟨n, rfl⟩ := Int.eq_ofNat_of_zero_le h1
  have e : min ((n : Int)).toNat IntKind.u16.bits = n := by simp [IntKind.bits]; omega
  show (0 ≤ (n : Int) ∧ K (.val (.int .u16 (IntKind.u16.wrap (1 * 2 ^ (min ((n : Int)).toNat IntKind.u16.bits)))))) = _
  rw [e, Int.one_mul, show ((2 : Int) ^ n) = ((2 ^ n : Nat) : Int) by simp, w16 _ (Nat.pow_lt_pow_right (by omega) (show n < 16 by omega))]
  simp
/-- m without its n lowest bits, not to be looked into -/
def shr (m n : Nat) : Nat := m >>> n
theorem sh_r16 (h1 : 0 ≤ y) (h2 : y < 16) (h3 : 0 ≤ x) : shIV .shr .u16 x y K = K (.val (.int .u16 ((shr x.toNat y.toNat : Nat) : Int))) := by
  unfold shr
  obtain ⟨n, rfl⟩ := Int.eq_ofNat_of_zero_le h1
  obtain ⟨m, rfl⟩ := Int.eq_ofNat_of_zero_le h3
  have e : min ((n : Int)).toNat IntKind.u16.bits = n := by simp [IntKind.bits]; omega
  show (0 ≤ (n : Int) ∧ K (.val (.int .u16 (Int.fdiv (m : Int) (2 ^ (min ((n : Int)).toNat IntKind.u16.bits)))))) = _
  rw [e, Int.toNat_natCast, Int.toNat_natCast, Nat.shiftRight_eq_div_pow, show ((2 : Int) ^ n) = ((2 ^ n : Nat) : Int) by simp, Int.natCast_ediv, Int.fdiv_eq_ediv_of_nonneg _ (Int.natCast_nonneg _)]
  simp

theorem wrap_i64 (h : -9223372036854775808 ≤ x) (h' : x ≤ 9223372036854775807) : IntKind.i64.wrap x = x := IntWalk.i64_in _ ⟨h, h'⟩
theorem wrap_u64 (h : 0 ≤ x) (h' : x < 18446744073709551616) : IntKind.u64.wrap x = x := IntWalk.u64_in _ (by omega)
theorem wrap_u16 (h : 0 ≤ x) (h' : x < 65536) : IntKind.u16.wrap x = x := IntWalk.u16_in _ (by omega)
theorem wrap_u8 (h : 0 ≤ x) (h' : x < 256) : IntKind.u8.wrap x = x := IntWalk.u8_in _ (by omega)
end
/-! ## parts -/
@[go_sem low] theorem partV_one (n : Nat) (cs : List V) (j : Nat) : partV false n cs j = cs.getD j .any := rfl
@[go_sem low] theorem partV_agg (n : Nat) (cs : List V) (j : Nat) : partV true n cs j = .agg (cut j n cs) := rfl

/-! ## what fits one cell -/
@[go_sem] theorem fits_val (v : Value) : V.fits 1 (.val v) = true := rfl
@[go_sem] theorem fits_ptr (n i j : Nat) : V.fits 1 (.ptr n i j) = true := rfl
@[go_sem] theorem fits_sl (n i l : Nat) : V.fits 1 (.sl n i l) = true := rfl
@[go_sem] theorem fits_ro (n : Nat) (l : List V) : V.fits 1 (.ro n l) = true := rfl
@[go_sem] theorem fits_rp (l : List V) (j : Nat) : V.fits 1 (.rp l j) = true := rfl
@[go_sem] theorem fits_map (n : Nat) : V.fits 1 (.map n) = true := rfl

attribute [go_sem ↓] bi_add bi_sub bi_mul bi_quo bi_rem bi_eql bi_neq bi_lss bi_leq bi_gtr bi_geq bi_and16 bi_or16 bi_andNot16 bi_and64 bi_or64 bi_xor64 bi_andNot64 sh_l16 sh_r16
attribute [go_sem] neg_u64 neg_u64' wrap_i64 wrap_u64 wrap_u16 wrap_u8
attribute [go_sem ↓ high] bi_sub16 bi_sub64
end Go.Sl
