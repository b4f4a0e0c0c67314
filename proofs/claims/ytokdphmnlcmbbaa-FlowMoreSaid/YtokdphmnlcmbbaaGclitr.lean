/- What the readings of litmus tests say. -/
import Derived.Test.YtokdphmnlcmbbaaW10
import Derived.Test.YtokdphmnlcmbbaaSl17
import Derived.Test.YtokdphmnlcmbbaaRows
import Derived.Test.YtokdphmnlcmbbaaChecked
import Derived.KernelRfl
set_option linter.unusedVariables false
set_option linter.unusedSimpArgs false
namespace Go.Proofs.Ytokdphmnlcmbbaa
open Go Go.Sl Go.Proofs.Try

theorem ownKnob16 : ownKnob Try.prog.godebug = none := by kernel_rfl
theorem laidOut16 : laidOutB Try.prog = true := by kernel_rfl
theorem ImpAs.to {P : Program} {t : TypeId} {α β : Type} {ok : α → Prop} {f : α → List V} {ok' : β → Prop} {f' : β → List V} (φ : α → β) (h : ImpAs P t ok f) (hok : ∀ a, ok a → ok' (φ a)) (hs : ∀ a, ok a → SeenAll (f a) (f' (φ a))) (hnl : ∀ b, NLs (f' b))
    (hone : ∀ b, (f' b).all V.one = true) (hlen : ∀ b, (f' b).length = P.cellsOf t) : ImpAs P t ok' f' where
  nl := hnl
  one b _ := hone b
  len b _ := hlen b
  imp hr := by
    obtain ⟨a, ha, hv⟩ := h.imp hr
    exact ⟨φ a, hok a ha, (hs a ha).rels hv⟩

/-- a slice, nil or not -/
theorem imp_list {P : Program} {t e : TypeId} {α : Type} {ok : α → Prop} {f : α → List V} {sz : Nat} (el : α → V) (ht : P.underlying t = some (.slice e)) (hc : P.cellsOf t = 1) (hsz : P.cellsOf e = sz) (hpos : 0 < sz) (hel : ∀ a, (el a).cells = f a) (hnl : ∀ a, NLs (el a).cells)
    (h : ImpAs P e ok f) : ImpAs P t (fun l : List α => l.length ≤ maxLen ∧ ∀ a ∈ l, ok a) fun l => [V.ro sz (l.map el)] :=
  ImpAs.to (fun o : Option (List α) => o.getD []) (imp_slice el ht hc hsz hpos (fun a _ => hel a) hnl h)
    (fun o ho => by cases o with | none => exact ⟨Nat.zero_le _, fun a ha => absurd ha (List.not_mem_nil)⟩ | some l => exact ho l rfl)
    (fun o ho => .cons (seen_slice sz el o) .nil)
    (fun l => .cons (.ro fun v hv => by obtain ⟨a, _, rfl⟩ := List.mem_map.1 hv; exact hnl a) .nil) (fun l => rfl) (fun l => hc.symm)

theorem iI : ImpAs Try.prog 3 (fun n : Int => (Lit.int .i64 n).wf = true) fun n => [.val (.int .i64 n)] := imp_int Try.underlying3 (by kernel_rfl)
theorem iB : ImpAs Try.prog 4 (fun _ : Bool => True) fun b => [.val (.bool b)] := imp_bool Try.underlying4 (by kernel_rfl)
theorem iU : ImpAs Try.prog 22 (fun n : Int => (Lit.int .u64 n).wf = true) fun n => [.val (.int .u64 n)] := imp_int Try.underlying22 (by kernel_rfl)
set_option maxRecDepth 100000 in
theorem imp_arg : ImpAs Try.prog 27 (fun p : Bool × Int => True ∧ (Lit.int .u64 p.2).wf = true) fun p => [.val (.bool p.1)] ++ [.val (.int .u64 p.2)] :=
  imp_struct (tot := 2) Try.underlying27 (by kernel_rfl) (impF_cons rfl (o' := 1) (by kernel_rfl) (imp_bool Try.underlying4 (by kernel_rfl)) (impF_last rfl (by kernel_rfl) (imp_int Try.underlying22 (by kernel_rfl))))

set_option maxRecDepth 100000 in
theorem imp_ins : ImpAs Try.prog 32 (fun _ : Ins => True) Ins.cs :=
  ImpAs.to (fun p : Int × Int × Int × (Bool × Int) × (Bool × Int) × Bool × Bool × Int × Int × Int × Int => ⟨p.1, p.2.1, p.2.2.1, p.2.2.2.1.1, p.2.2.2.1.2, p.2.2.2.2.1.1, p.2.2.2.2.1.2, p.2.2.2.2.2.1, p.2.2.2.2.2.2.1, p.2.2.2.2.2.2.2.1, p.2.2.2.2.2.2.2.2.1, p.2.2.2.2.2.2.2.2.2.1, p.2.2.2.2.2.2.2.2.2.2⟩)
    (imp_struct (tot := 13) Try.underlying32 (by kernel_rfl) (impF_cons rfl (o' := 1) (by kernel_rfl) iI (impF_cons rfl (o' := 2) (by kernel_rfl) iI (impF_cons rfl (o' := 3) (by kernel_rfl) iI (impF_cons rfl (o' := 5) (by kernel_rfl) imp_arg (impF_cons rfl (o' := 7) (by kernel_rfl) imp_arg (impF_cons rfl (o' := 8) (by kernel_rfl) iB (impF_cons rfl (o' := 9) (by kernel_rfl) iB (impF_cons rfl (o' := 10) (by kernel_rfl) iI (impF_cons rfl (o' := 11) (by kernel_rfl) iI (impF_cons rfl (o' := 12) (by kernel_rfl) iI (impF_last rfl (by kernel_rfl) iI))))))))))))
    (fun _ _ => trivial) (fun p _ => SeenAll.refl _) nl_ins (fun _ => rfl) (fun _ => by kernel_rfl)

set_option maxRecDepth 100000 in
theorem imp_atm : ImpAs Try.prog 100 (fun _ : Atm => True) Atm.cs :=
  ImpAs.to (fun p : Int × Int × Int => ⟨p.1, p.2.1, p.2.2⟩)
    (imp_struct (tot := 3) Try.underlying100 (by kernel_rfl) (impF_cons rfl (o' := 1) (by kernel_rfl) iI (impF_cons rfl (o' := 2) (by kernel_rfl) iI (impF_last rfl (by kernel_rfl) iU))))
    (fun _ _ => trivial) (fun p _ => SeenAll.refl _) nl_atm (fun _ => rfl) (fun _ => by kernel_rfl)

def iniOk (x : Ini) : Prop := x.name.size ≤ 9223372036854775807
set_option maxRecDepth 100000 in
theorem imp_ini : ImpAs Try.prog 29 iniOk Ini.cs :=
  ImpAs.to (fun p : ByteArray × Int => ⟨p.1, p.2⟩)
    (imp_struct (tot := 2) Try.underlying29 (by kernel_rfl) (impF_cons rfl (o' := 1) (by kernel_rfl) (imp_string Try.underlying9 (by kernel_rfl)) (impF_last rfl (by kernel_rfl) iU)))
    (fun p h => h.1) (fun p _ => SeenAll.refl _) nl_ini (fun _ => rfl) (fun _ => by kernel_rfl)

theorem imp_inis : ImpAs Try.prog 30 (fun l : List Ini => l.length ≤ maxLen ∧ ∀ a ∈ l, iniOk a) fun l => [V.ro 2 (inis l)] := imp_list iniC Try.underlying30 (by kernel_rfl) (by kernel_rfl) (by omega) (fun _ => rfl) nl_ini imp_ini
theorem imp_atms : ImpAs Try.prog 35 (fun l : List Atm => l.length ≤ maxLen ∧ ∀ a ∈ l, True) fun l => [V.ro 3 (atms l)] := imp_list atmC Try.underlying35 (by kernel_rfl) (by kernel_rfl) (by omega) (fun _ => rfl) nl_atm imp_atm
theorem imp_inss : ImpAs Try.prog 33 (fun l : List Ins => l.length ≤ maxLen ∧ ∀ a ∈ l, True) fun l => [V.ro 13 (inss l)] := imp_list insC Try.underlying33 (by kernel_rfl) (by kernel_rfl) (by omega) (fun _ => rfl) nl_ins imp_ins
theorem imp_thrs : ImpAs Try.prog 34 (fun l : List (List Ins) => l.length ≤ maxLen ∧ ∀ a ∈ l, a.length ≤ maxLen ∧ ∀ b ∈ a, True) fun l => [V.ro 1 (thrs l)] :=
  imp_list (fun x => .ro 13 (inss x)) Try.underlying34 (by kernel_rfl) (by kernel_rfl) (by omega) (fun _ => rfl) (fun x => .cons (nl_inss x) .nil) imp_inss

def tstOk (t : Tst) : Prop := ∀ l ∈ t.locs, iniOk l
set_option maxRecDepth 100000 in
theorem imp_tst : ImpAs Try.prog 37 tstOk Tst.cs :=
  ImpAs.to (fun p : List Ini × List (List Ins) × List Atm => ⟨p.1, p.2.1, p.2.2⟩)
    (imp_struct (tot := 3) Try.underlying37 (by kernel_rfl) (impF_cons rfl (o' := 1) (by kernel_rfl) imp_inis (impF_cons rfl (o' := 2) (by kernel_rfl) imp_thrs (impF_last rfl (by kernel_rfl) imp_atms))))
    (fun p h => h.1.2) (fun p _ => SeenAll.refl _) nl_tst (fun _ => rfl) (fun _ => by kernel_rfl)

end Go.Proofs.Ytokdphmnlcmbbaa
