/- The law TsoSome: whatever test it is given it returns true, and what it was given reads as it did. No condition. -/
import Derived.Test.YtflooghnoljpcaaRows
import Derived.Test.YtflooghnoljpcaaChecked
import Derived.KernelRfl
import Derived.Test.YtflooghnoljpcaaM5
set_option linter.unusedVariables false
set_option linter.unusedSimpArgs false
/- What the readings of litmus tests say. -/
namespace Go.Proofs.Ytflooghnoljpcaa
open Go Go.Sl Go.Proofs.Try

theorem ownKnob16 : ownKnob Try.prog.godebug = none := by kernel_rfl
theorem laidOut16 : laidOutB Try.prog = true := by kernel_rfl
theorem ImpAs.to {P : Program} {t : TypeId} {α β : Type} {ok : α → Prop} {f : α → List V} {ok' : β → Prop} {f' : β → List V} (φ : α → β) (h : ImpAs P t ok f) (hok : ∀ a, ok a → ok' (φ a)) (hs : ∀ a, ok a → SeenAll (f a) (f' (φ a))) (hnl : ∀ b, NLs (f' b))
    (hone : ∀ b, (f' b).all V.one = true) (hlen : ∀ b, (f' b).length = P.cellsOf t) : ImpAs P t ok' f' where
  nl := hnl
  one b _ := hone b
  len b _ := hlen b
  imp hr := by
    obtain ⟨a, ha, hv⟩ := h.imp hr
    exact ⟨φ a, hok a ha, (hs a ha).rels hv⟩

/-- a slice, nil or not -/
theorem imp_list {P : Program} {t e : TypeId} {α : Type} {ok : α → Prop} {f : α → List V} {sz : Nat} (el : α → V) (ht : P.underlying t = some (.slice e)) (hc : P.cellsOf t = 1) (hsz : P.cellsOf e = sz) (hpos : 0 < sz) (hel : ∀ a, (el a).cells = f a) (hnl : ∀ a, NLs (el a).cells)
    (h : ImpAs P e ok f) : ImpAs P t (fun l : List α => l.length ≤ maxLen ∧ ∀ a ∈ l, ok a) fun l => [V.ro sz (l.map el)] :=
  ImpAs.to (fun o : Option (List α) => o.getD []) (imp_slice el ht hc hsz hpos (fun a _ => hel a) hnl h)
    (fun o ho => by cases o with | none => exact ⟨Nat.zero_le _, fun a ha => absurd ha (List.not_mem_nil)⟩ | some l => exact ho l rfl)
    (fun o ho => .cons (seen_slice sz el o) .nil)
    (fun l => .cons (.ro fun v hv => by obtain ⟨a, _, rfl⟩ := List.mem_map.1 hv; exact hnl a) .nil) (fun l => rfl) (fun l => hc.symm)

theorem iI : ImpAs Try.prog 3 (fun n : Int => (Lit.int .i64 n).wf = true) fun n => [.val (.int .i64 n)] := imp_int Try.underlying3 (by kernel_rfl)
theorem iB : ImpAs Try.prog 4 (fun _ : Bool => True) fun b => [.val (.bool b)] := imp_bool Try.underlying4 (by kernel_rfl)
theorem iU : ImpAs Try.prog 64 (fun n : Int => (Lit.int .u64 n).wf = true) fun n => [.val (.int .u64 n)] := imp_int Try.underlying64 (by kernel_rfl)
set_option maxRecDepth 100000 in
theorem imp_arg : ImpAs Try.prog 66 (fun p : Bool × Int => True ∧ (Lit.int .u64 p.2).wf = true) fun p => [.val (.bool p.1)] ++ [.val (.int .u64 p.2)] :=
  imp_struct (tot := 2) Try.underlying66 (by kernel_rfl) (impF_cons rfl (o' := 1) (by kernel_rfl) (imp_bool Try.underlying4 (by kernel_rfl)) (impF_last rfl (by kernel_rfl) (imp_int Try.underlying64 (by kernel_rfl))))

set_option maxRecDepth 100000 in
theorem imp_ins : ImpAs Try.prog 68 (fun _ : Ins => True) Ins.cs :=
  ImpAs.to (fun p : Int × Int × Int × (Bool × Int) × (Bool × Int) × Bool × Bool × Int × Int × Int × Int => ⟨p.1, p.2.1, p.2.2.1, p.2.2.2.1.1, p.2.2.2.1.2, p.2.2.2.2.1.1, p.2.2.2.2.1.2, p.2.2.2.2.2.1, p.2.2.2.2.2.2.1, p.2.2.2.2.2.2.2.1, p.2.2.2.2.2.2.2.2.1, p.2.2.2.2.2.2.2.2.2.1, p.2.2.2.2.2.2.2.2.2.2⟩)
    (imp_struct (tot := 13) Try.underlying68 (by kernel_rfl) (impF_cons rfl (o' := 1) (by kernel_rfl) iI (impF_cons rfl (o' := 2) (by kernel_rfl) iI (impF_cons rfl (o' := 3) (by kernel_rfl) iI (impF_cons rfl (o' := 5) (by kernel_rfl) imp_arg (impF_cons rfl (o' := 7) (by kernel_rfl) imp_arg (impF_cons rfl (o' := 8) (by kernel_rfl) iB (impF_cons rfl (o' := 9) (by kernel_rfl) iB (impF_cons rfl (o' := 10) (by kernel_rfl) iI (impF_cons rfl (o' := 11) (by kernel_rfl) iI (impF_cons rfl (o' := 12) (by kernel_rfl) iI (impF_last rfl (by kernel_rfl) iI))))))))))))
    (fun _ _ => trivial) (fun p _ => SeenAll.refl _) nl_ins (fun _ => rfl) (fun _ => by kernel_rfl)

set_option maxRecDepth 100000 in
theorem imp_atm : ImpAs Try.prog 147 (fun _ : Atm => True) Atm.cs :=
  ImpAs.to (fun p : Int × Int × Int => ⟨p.1, p.2.1, p.2.2⟩)
    (imp_struct (tot := 3) Try.underlying147 (by kernel_rfl) (impF_cons rfl (o' := 1) (by kernel_rfl) iI (impF_cons rfl (o' := 2) (by kernel_rfl) iI (impF_last rfl (by kernel_rfl) iU))))
    (fun _ _ => trivial) (fun p _ => SeenAll.refl _) nl_atm (fun _ => rfl) (fun _ => by kernel_rfl)

def iniOk (x : Ini) : Prop := x.name.size ≤ 9223372036854775807
set_option maxRecDepth 100000 in
theorem imp_ini : ImpAs Try.prog 73 iniOk Ini.cs :=
  ImpAs.to (fun p : ByteArray × Int => ⟨p.1, p.2⟩)
    (imp_struct (tot := 2) Try.underlying73 (by kernel_rfl) (impF_cons rfl (o' := 1) (by kernel_rfl) (imp_string Try.underlying9 (by kernel_rfl)) (impF_last rfl (by kernel_rfl) iU)))
    (fun p h => h.1) (fun p _ => SeenAll.refl _) nl_ini (fun _ => rfl) (fun _ => by kernel_rfl)

theorem imp_inis : ImpAs Try.prog 55 (fun l : List Ini => l.length ≤ maxLen ∧ ∀ a ∈ l, iniOk a) fun l => [V.ro 2 (inis l)] := imp_list iniC Try.underlying55 (by kernel_rfl) (by kernel_rfl) (by omega) (fun _ => rfl) nl_ini imp_ini
theorem imp_atms : ImpAs Try.prog 57 (fun l : List Atm => l.length ≤ maxLen ∧ ∀ a ∈ l, True) fun l => [V.ro 3 (atms l)] := imp_list atmC Try.underlying57 (by kernel_rfl) (by kernel_rfl) (by omega) (fun _ => rfl) nl_atm imp_atm
theorem imp_inss : ImpAs Try.prog 63 (fun l : List Ins => l.length ≤ maxLen ∧ ∀ a ∈ l, True) fun l => [V.ro 13 (inss l)] := imp_list insC Try.underlying63 (by kernel_rfl) (by kernel_rfl) (by omega) (fun _ => rfl) nl_ins imp_ins
theorem imp_thrs : ImpAs Try.prog 56 (fun l : List (List Ins) => l.length ≤ maxLen ∧ ∀ a ∈ l, a.length ≤ maxLen ∧ ∀ b ∈ a, True) fun l => [V.ro 1 (thrs l)] :=
  imp_list (fun x => .ro 13 (inss x)) Try.underlying56 (by kernel_rfl) (by kernel_rfl) (by omega) (fun _ => rfl) (fun x => .cons (nl_inss x) .nil) imp_inss

def tstOk (t : Tst) : Prop := ∀ l ∈ t.locs, iniOk l
set_option maxRecDepth 100000 in
theorem imp_tst : ImpAs Try.prog 59 tstOk Tst.cs :=
  ImpAs.to (fun p : List Ini × List (List Ins) × List Atm => ⟨p.1, p.2.1, p.2.2⟩)
    (imp_struct (tot := 3) Try.underlying59 (by kernel_rfl) (impF_cons rfl (o' := 1) (by kernel_rfl) imp_inis (impF_cons rfl (o' := 2) (by kernel_rfl) imp_thrs (impF_last rfl (by kernel_rfl) imp_atms))))
    (fun p h => h.1.2) (fun p _ => SeenAll.refl _) nl_tst (fun _ => rfl) (fun _ => by kernel_rfl)

end Go.Proofs.Ytflooghnoljpcaa
/- What the readings of litmus tests and of what is given to flow say, with the bounds of their numbers. -/
namespace Go.Proofs.Ytflooghnoljpcaa
open Go Go.Sl Go.Proofs.Try

set_option maxRecDepth 100000 in
theorem imp_ins2 : ImpAs Try.prog 68 insWf Ins.cs :=
  ImpAs.to (fun p : Int × Int × Int × (Bool × Int) × (Bool × Int) × Bool × Bool × Int × Int × Int × Int => ⟨p.1, p.2.1, p.2.2.1, p.2.2.2.1.1, p.2.2.2.1.2, p.2.2.2.2.1.1, p.2.2.2.2.1.2, p.2.2.2.2.2.1, p.2.2.2.2.2.2.1, p.2.2.2.2.2.2.2.1, p.2.2.2.2.2.2.2.2.1, p.2.2.2.2.2.2.2.2.2.1, p.2.2.2.2.2.2.2.2.2.2⟩)
    (imp_struct (tot := 13) Try.underlying68 (by kernel_rfl) (impF_cons rfl (o' := 1) (by kernel_rfl) iI (impF_cons rfl (o' := 2) (by kernel_rfl) iI (impF_cons rfl (o' := 3) (by kernel_rfl) iI (impF_cons rfl (o' := 5) (by kernel_rfl) imp_arg (impF_cons rfl (o' := 7) (by kernel_rfl) imp_arg (impF_cons rfl (o' := 8) (by kernel_rfl) iB (impF_cons rfl (o' := 9) (by kernel_rfl) iB (impF_cons rfl (o' := 10) (by kernel_rfl) iI (impF_cons rfl (o' := 11) (by kernel_rfl) iI (impF_cons rfl (o' := 12) (by kernel_rfl) iI (impF_last rfl (by kernel_rfl) iI))))))))))))
    (fun p h => by
      have h1 := bounds_u64 h.2.2.2.1.2
      have h2 := bounds_u64 h.2.2.2.2.1.2
      exact ⟨⟨h1.1, by have := h1.2; dsimp only; omega⟩, h2.1, by have := h2.2; dsimp only; omega⟩) (fun p _ => SeenAll.refl _) nl_ins (fun _ => rfl) (fun _ => by kernel_rfl)
theorem imp_inss2 : ImpAs Try.prog 63 (fun l : List Ins => l.length ≤ maxLen ∧ ∀ a ∈ l, insWf a) fun l => [V.ro 13 (inss l)] := imp_list insC Try.underlying63 (by kernel_rfl) (by kernel_rfl) (by omega) (fun _ => rfl) nl_ins imp_ins2
theorem imp_thrs2 : ImpAs Try.prog 56 (fun l : List (List Ins) => l.length ≤ maxLen ∧ ∀ a ∈ l, a.length ≤ maxLen ∧ ∀ b ∈ a, insWf b) fun l => [V.ro 1 (thrs l)] :=
  imp_list (fun x => .ro 13 (inss x)) Try.underlying56 (by kernel_rfl) (by kernel_rfl) (by omega) (fun _ => rfl) (fun x => .cons (nl_inss x) .nil) imp_inss2
set_option maxRecDepth 100000 in
theorem imp_tst2 : ImpAs Try.prog 59 (fun t => tstOk t ∧ tstWf t) Tst.cs :=
  ImpAs.to (fun p : List Ini × List (List Ins) × List Atm => ⟨p.1, p.2.1, p.2.2⟩)
    (imp_struct (tot := 3) Try.underlying59 (by kernel_rfl) (impF_cons rfl (o' := 1) (by kernel_rfl) imp_inis (impF_cons rfl (o' := 2) (by kernel_rfl) imp_thrs2 (impF_last rfl (by kernel_rfl) imp_atms))))
    (fun p h => ⟨h.1.2, fun l hl x hx => (h.2.1.2 l hl).2 x hx⟩) (fun p _ => SeenAll.refl _) nl_tst (fun _ => rfl) (fun _ => by kernel_rfl)
def vlWf (x : Vl) : Prop := 0 ≤ x.v ∧ x.v < 18446744073709551616
set_option maxRecDepth 100000 in
theorem imp_val0 : ImpAs Try.prog 78 (fun p : Bool × Int => True ∧ (Lit.int .u64 p.2).wf = true) fun p => [.val (.bool p.1)] ++ [.val (.int .u64 p.2)] :=
  imp_struct (tot := 2) Try.underlying78 (by kernel_rfl) (impF_cons rfl (o' := 1) (by kernel_rfl) (imp_bool Try.underlying4 (by kernel_rfl)) (impF_last rfl (by kernel_rfl) (imp_int Try.underlying64 (by kernel_rfl))))
theorem imp_val : ImpAs Try.prog 78 vlWf fun x : Vl => [bV x.k, uV x.v] :=
  ImpAs.to (fun p : Bool × Int => ⟨p.1, p.2⟩) imp_val0 (fun p h => by have := bounds_u64 h.2; exact ⟨this.1, by have := this.2; dsimp only; omega⟩) (fun p _ => SeenAll.refl _) (fun x => .cons (.val _) (.cons (.val _) .nil)) (fun _ => rfl) (fun _ => by kernel_rfl)
theorem imp_vls : ImpAs Try.prog 79 (fun l : List Vl => l.length ≤ maxLen ∧ ∀ a ∈ l, vlWf a) fun l => [V.ro 2 (vls l)] := imp_list vlC Try.underlying79 (by kernel_rfl) (by kernel_rfl) (by omega) (fun _ => rfl) (fun x => .cons (.val _) (.cons (.val _) .nil)) imp_val
theorem imp_bvs : ImpAs Try.prog 80 (fun l : List Bool => l.length ≤ maxLen ∧ ∀ a ∈ l, True) fun l => [V.ro 1 (bVs l)] := imp_list bV Try.underlying80 (by kernel_rfl) (by kernel_rfl) (by omega) (fun _ => rfl) (fun x => .cons (.val _) .nil) iB
theorem imp_uvs : ImpAs Try.prog 81 (fun l : List Int => l.length ≤ maxLen ∧ ∀ a ∈ l, (Lit.int .u64 a).wf = true) fun l => [V.ro 1 (uVs l)] := imp_list uV Try.underlying81 (by kernel_rfl) (by kernel_rfl) (by omega) (fun _ => rfl) (fun x => .cons (.val _) .nil) iU

end Go.Proofs.Ytflooghnoljpcaa
namespace Go.Proofs.Ytflooghnoljpcaa
open Go Go.Sl Go.Proofs.Try

set_option maxRecDepth 100000 in
theorem tsoSome_lifted (os : Os) (started : os.Started) (H : Type) (enc : TypeId × Value → H) :
    ReturnsInHanded {} Try.checked os 16 .any (Rows.tsoSomeSpec.pre6 enc Try.prog Try.f16 Rows.tsoSomeRow.domain false) (Rows.tsoSomeSpec.post enc Try.prog Try.f16 false true false false) := by
  refine law_lifted (C := Try.checked) (rt := 4) ownKnob16 started (by kernel_rfl) Try.func16 laidOut16 (by kernel_rfl) (by kernel_rfl) Try.underlying4 rfl ?_
    (ChangeSpec.witness6 (enc := enc) (C := Try.checked) false ⟨#[], #[.agg #[.slice none 0 0, .slice none 0 0, .slice none 0 0]], []⟩ 16 (by kernel_rfl) (by kernel_rfl) (by kernel_rfl) (by kernel_rfl))
    (α := Tst × Unit) (ok := fun a => (tstOk a.1 ∧ tstWf a.1) ∧ True) (g := fun a => [.agg a.1.cs]) ?_ ?_
  · intro H ds hds
    have : Try.f16.params.size = 1 := by kernel_rfl
    rw [this] at hds
    match ds, hds with
    | [_], _ => rfl
  · rw [Try.params16]
    exact args_agg (by rw [Try.underlying59]) imp_tst2 args_nil
  · rintro ⟨t, _⟩ ⟨⟨ht, hw⟩, _⟩
    exact tsoSome_pf t ht hw

theorem tsoSome_over : Rows.tsoSomeRow.holds Try.pinned (OpenSpec.ofChange Rows.tsoSomeSpec) :=
  OpenClaim.holds_of_wide 16 Try.f16 rfl rfl rfl rfl rfl rfl rfl ⟨rfl, rfl, rfl, rfl, rfl⟩ rfl rfl rfl rfl rfl (by kernel_rfl) Try.func16 (by kernel_rfl)
    (of_decide_eq_true (by kernel_rfl)) (by unfold Func.isWrapper; first | (rw [if_pos (by decide +kernel)]; kernel_rfl) | (rw [if_neg (by decide +kernel)]; exact ⟨rfl, rfl⟩))
    (fun os started H enc _ => tsoSome_lifted os started H enc)

/-- The row. -/
theorem tsoSome_holds : Rows.TsoSomeSaid := tsoSome_over
#print axioms tsoSome_holds

end Go.Proofs.Ytflooghnoljpcaa
