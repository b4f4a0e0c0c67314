/- What the readings of relations and numbers say. -/
import Derived.Test.YtjdaofmhklihiaaGrele
import Derived.Test.YtjdaofmhklihiaaSl17
import Derived.Test.YtjdaofmhklihiaaRows
set_option linter.unusedVariables false
set_option linter.unusedSimpArgs false
namespace Go.Proofs.Ytjdaofmhklihiaa
open Go Go.Sl Go.Proofs.Try

theorem rel_of_list {l : List Int} (hl : l.length = 16) (hw : ∀ n ∈ l, (Lit.int .u16 n).wf = true) : ∃ p, l.flatMap (fun n => [V.val (.int .u16 n)]) = relC p := by
  have e : l.flatMap (fun n => [V.val (.int .u16 n)]) = l.map fun n => V.val (.int .u16 n) := by
    clear hl hw
    induction l with
    | nil => rfl
    | cons x xs ih => simp [ih]
  refine ⟨fun a b => (l.getD a 0).toNat.testBit b, ?_⟩
  rw [e]
  refine List.ext_getElem (by simp [relC, hl]) fun i h1 h2 => ?_
  simp only [List.length_map] at h1
  have hb := bounds_u16 (hw l[i] (List.getElem_mem h1))
  have hd : l.getD i 0 = l[i] := by simp [List.getD, h1]
  simp only [relC, List.getElem_map, List.getElem_range, hd]
  rw [mask_of (by omega)]
  congr 2
  omega

theorem set_of_int {n : Int} (hw : (Lit.int .u16 n).wf = true) : ∃ s, n = ((mask s : Nat) : Int) := by
  have hb := bounds_u16 hw
  exact ⟨n.toNat.testBit, by rw [mask_of (by omega)]; omega⟩

theorem imp_rel : ImpAs Try.prog 24 (fun l : List Int => l.length = 16 ∧ ∀ n ∈ l, (Lit.int .u16 n).wf = true) fun l => l.flatMap fun n => [V.val (.int .u16 n)] :=
  imp_array Try.underlying24 (sz := 1) (by kernel_rfl) (by kernel_rfl) (imp_int Try.underlying22 (by kernel_rfl))

theorem ownKnob16 : ownKnob Try.prog.godebug = none := by kernel_rfl
theorem laidOut16 : laidOutB Try.prog = true := by kernel_rfl


end Go.Proofs.Ytjdaofmhklihiaa
