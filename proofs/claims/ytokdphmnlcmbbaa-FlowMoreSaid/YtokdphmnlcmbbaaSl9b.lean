/- Pointers checked and compared with nil; new slices of a length. -/
import Derived.Test.YtokdphmnlcmbbaaSl9a
import Derived.Laws.MakeOwn
import Derived.Laws.Pointers
set_option linter.unusedVariables false
set_option linter.unusedSimpArgs false
namespace Go.Sl

/-- an address -/
def V.isAddr : V → Bool
  | .ptr .. | .rp .. => true
  | _ => false

section
variable {fr : Nat → Prop} {F : Nat → Prop} {ι ι' : Names} {O : Nat → Prop} {σ σ' : St} {a a' : Act} {w w' : World} {P : Program} {T : Tab}

theorem VRel.addr {v : V} {x : Value} (h : VRel ι O w v x) (hv : v.isAddr = true) : ∃ ad, x = .pointer (some ad) := by
  cases h <;> simp_all [V.isAddr]

theorem op_nilCheck {o : Oper} {K : V → Heap → Nat → Prop} (x : Operand) (ho : o.op = .nilCheck x) (hx : (evalV σ.t x).isAddr = true) (hk : K (evalV σ.t x) σ.H σ.k) : OpT fr P o σ K :=
  opT_pure hk fun F ι a w hh => by
    have he := hh.eval x
    obtain ⟨ad, e⟩ := he.addr hx
    refine ⟨a.eval x, ?_, he⟩
    unfold execOp; rw [ho]
    simp [e]

theorem op_ptrNil {o : Oper} {K : V → Heap → Nat → Prop} (op : BinOp) (t u : TypeId) (x y : Operand) (ho : o.op = .binOp op t x y u) {ti : TI} (hti : tiOf P t = some ti) {e : TypeId} (hd : ti.d = .pointer e) (hx : (evalV σ.t x).isAddr = true) (hy : evalV σ.t y = .val (.pointer none))
    (h : op = .eql ∧ K (.val (.bool false)) σ.H σ.k ∨ op = .neq ∧ K (.val (.bool true)) σ.H σ.k) : OpT fr P o σ K := by
  obtain ⟨u', i, z, hu, _, _, _, _, h1, _⟩ := tiOf_spec hti
  have hu' : ∃ e', P.underlying t = some (.pointer e') := by rw [hu]; cases u' <;> simp_all [Go.Sl.D.of]
  obtain ⟨e', hu'⟩ := hu'
  have hp : P.underlying t = some (.pointer (P.pointee t)) := by simp [Program.pointee, hu']
  rcases h with ⟨rfl, hk⟩ | ⟨rfl, hk⟩ <;>
  · refine opT_pure hk fun F ι a w hh => ?_
    have he := hh.eval x
    have hi := hh.eval y
    rw [hy] at hi
    have hi := hi.inv_val
    obtain ⟨ad, e⟩ := he.addr hx
    refine ⟨_, ?_, .val _ rfl⟩
    unfold execOp; rw [ho]
    have g : ∀ op : BinOp, (eqGuard op t x y (.pointer (some ad)) (.pointer none)).run P w = .ok () w := fun op => by cases op <;> simp [eqGuard]
    first
      | (simp only [e, hi, Sem.run_bind, g, Result.andThen_ok, Go.run_eql_pointer_nil w t (some ad) hp, Sem.run_pure]; rfl)
      | (simp only [e, hi, Sem.run_bind, g, Result.andThen_ok, Go.run_neq_pointer_nil w t (some ad) hp, Sem.run_pure]; rfl)

theorem madeCells_zero {t : TypeId} {te : TI} (hte : tiOf P t = some te) {z : Value} (hz : z.cells.toList = te.zero) (hs : z.cells.size = te.size) (m : Nat) :
    VRels ι O w ((List.replicate m te.zeroV).flatMap V.cells) (madeCells z.cells (m * te.size)).toList := by
  have hlen : ((List.replicate m te.zeroV).flatMap V.cells).length = m * te.size := by
    rw [length_flatMap_cells (sz := te.size)]
    · simp
    · intro v hv
      rw [List.eq_of_mem_replicate hv]
      exact (fits_iff.1 (zeroV_fits hte)).1
  refine VRels.of_get (by rw [hlen, Array.length_toList, size_madeCells]) fun i v x hv hx => ?_
  have hi : i < m * te.size := by rw [← hlen]; exact (List.getElem?_eq_some_iff.1 hv).1
  have hpos : 0 < te.size := by
    rcases Nat.eq_zero_or_pos te.size with h0 | h0
    · rw [h0] at hi; omega
    · exact h0
  have hmod : i % te.size < te.size := Nat.mod_lt _ hpos
  have hx' : x = z.cells[i % te.size]! := by
    rw [Array.getElem?_toList] at hx
    unfold madeCells at hx
    rw [Array.getElem?_map, Array.getElem?_range, hs] at hx
    simp only [hi, if_true, Option.map_some, Option.some.injEq] at hx
    exact hx.symm
  have hzi : te.zero[i % te.size]? = some (z.cells[i % te.size]!) := by
    rw [← hz, Array.getElem?_toList, Array.getElem?_eq_getElem (by omega), getElem!_pos z.cells (i % te.size) (by omega)]
  have hvi : v = .val (z.cells[i % te.size]!) := by
    have key : ∀ (m i : Nat), i < m * te.size → ((List.replicate m te.zeroV).flatMap V.cells)[i]? = some (.val (z.cells[i % te.size]!)) ∨ ¬ te.zero[i % te.size]? = some (z.cells[i % te.size]!) := by
      intro m
      induction m with
      | zero => intro i hi; omega
      | succ m ih =>
        intro i hi
        rw [List.replicate_succ, List.flatMap_cons]
        have hc : te.zeroV.cells.length = te.size := (fits_iff.1 (zeroV_fits hte)).1
        by_cases h : i < te.size
        · rw [List.getElem?_append_left (by omega), zeroV_cells hte, List.getElem?_map, Nat.mod_eq_of_lt h]
          by_cases hq : te.zero[i]? = some (z.cells[i]!)
          · exact .inl (by rw [hq]; rfl)
          · exact .inr hq
        · rw [List.getElem?_append_right (by omega), hc]
          have h1 := ih (i - te.size) (by rw [Nat.succ_mul] at hi; omega)
          have h2 : (i - te.size) % te.size = i % te.size := by
            conv => rhs; rw [show i = (i - te.size) + te.size by omega, Nat.add_mod_right]
          rw [h2] at h1
          exact h1
    rcases key m i hi with h | h
    · rw [h] at hv; exact (Option.some.inj hv).symm
    · exact absurd hzi h
  rw [hvi, hx']
  exact .val _ ((zero_oneCell hte).1 _ (List.mem_of_getElem? hzi))

theorem op_makeSlice (hfr : fr σ.k) {o : Oper} {K : V → Heap → Nat → Prop} (t : TypeId) (x y : Operand) (ho : o.op = .makeSlice t x y) {ti te : TI} (hti : tiOf P t = some ti) {e : TypeId} (hd : ti.d = .slice e) (hte : tiOf P e = some te) {kl kc : IntKind} {l c : Int}
    (hx : evalV σ.t x = .val (.int kl l)) (hy : evalV σ.t y = .val (.int kc c)) (h0 : 0 ≤ l) (hlc : l = c) (hbytes : (te.bytes : Int) * c ≤ 281474976710656) (h63 : c ≤ 9223372036854775807)
    (hk : K (.sl σ.k 0 c.toNat) ((σ.k, .rows te.size (List.replicate c.toNat te.zeroV)) :: σ.H) (σ.k + 1)) : OpT fr P o σ K :=
  opT_run fun F ι a w hh => by
    obtain ⟨u', i', z', hu, _, _, _, _, h1, _⟩ := tiOf_spec hti
    have hu' : P.underlying t = some (.slice e) := by rw [hu]; cases u' <;> simp_all [Go.Sl.D.of]
    obtain ⟨_, i, z, _, hi, hz, hzs, _, _, hsz, hby, hzl, _⟩ := tiOf_spec hte
    have he1 := hh.eval x
    have he2 := hh.eval y
    rw [hx] at he1; rw [hy] at he2
    have hzs' : z.cells.size = te.size := by rw [hzs, hsz]
    have hfit : ∀ v ∈ List.replicate c.toNat te.zeroV, v.fits te.size = true := fun v hv => by rw [List.eq_of_mem_replicate hv]; exact zeroV_fits hte
    have hcells := madeCells_zero (ι := ι) (O := Own F ι σ.H) (w := w) hte hzl.symm hzs' c.toNat
    refine ⟨_, _, .slice (some ⟨w.heap.size, 0, none⟩) c.toNat c.toNat, _, _, _, ?_, hk, out_newRow hfr hh e te.size (List.replicate c.toNat te.zeroV) hfit (madeCells z.cells (c.toNat * te.size)) (by rw [size_madeCells, List.length_replicate]; exact Nat.le_refl _) ?_ w rfl rfl rfl rfl ?_⟩
    · unfold execOp; rw [ho]
      have hr := run_make (P := P) w t e i z hu' hi hz kl kc l c h0 (by omega) (by rw [← hby]; exact hbytes) h63
      rw [← hsz] at hr
      subst hlc
      have e1 := he1.inv_val
      have e2 := he2.inv_val
      simp only [e1, e2, Sem.run_bind, hr, Result.andThen_ok, Sem.run_pure]
    · rw [List.length_replicate, List.take_of_length_le (by rw [Array.length_toList, size_madeCells]; exact Nat.le_refl _)]
      exact hcells
    · intro ι' hι
      rcases Nat.eq_zero_or_pos c.toNat with hc | hc
      · rw [hc]; exact .sl0 hι
      · refine .sl hι rfl rfl (by simp) hc (Nat.le_refl _) (by unfold maxLen; omega) ?_
        simp only [size_madeCells]; omega

end
end Go.Sl
