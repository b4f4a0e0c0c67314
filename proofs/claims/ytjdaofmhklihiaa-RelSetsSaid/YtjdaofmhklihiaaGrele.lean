/- Relations: the law's own small answers of the package rel. -/
import Derived.Test.YtjdaofmhklihiaaGreld
set_option linter.unusedVariables false
set_option linter.unusedSimpArgs false
namespace Go.Proofs.Ytjdaofmhklihiaa
open Go Go.Sl Go.Proofs.Try

theorem pf_eq {P : Program} {f : FuncId} {args : List V} {r r' : V} (h : Pf P f args r) (e : r = r') : Pf P f args r' := e ▸ h
@[go_sem] theorem zeroList : [V.val (.int .u16 0), .val (.int .u16 0), .val (.int .u16 0), .val (.int .u16 0), .val (.int .u16 0), .val (.int .u16 0), .val (.int .u16 0), .val (.int .u16 0), .val (.int .u16 0), .val (.int .u16 0), .val (.int .u16 0), .val (.int .u16 0), .val (.int .u16 0), .val (.int .u16 0), .val (.int .u16 0), .val (.int .u16 0)] = relC fun _ _ => false := Eq.trans rfl rfl
theorem with_eq (p q : Nat → Nat → Bool) (a b : Int) (h : ∀ x, x < 16 → ∀ y, y < 16 → (p x y || (decide ((x : Int) = a) && decide ((y : Int) = b))) = q x y) : Pf Try.prog 27 [.agg (relC p), .val (.int .i64 a), .val (.int .i64 b)] (.agg (relC q)) := pf_eq (with_pf p a b) (by rw [relC_ext h])
def a1 (x y : Nat) : Bool := x == 0 && y == 1
def a2 (x y : Nat) : Bool := (x == 0 && y == 1) || (x == 1 && y == 2)
def a3 (x y : Nat) : Bool := (x == 0 && y == 1) || (x == 1 && y == 2) || (x == 2 && y == 0)
theorem ord_a2 : order a2 (fun i => decide (i < 3)) [] = some [0, 1, 2] := by
  rw [order_some (a := 0) (by decide) (by decide +kernel), order_some (a := 1) (by decide) (by decide +kernel), order_some (a := 2) (by decide) (by decide +kernel), order_done (by decide)]
  rfl
theorem aw1 : Pf Try.prog 27 [.agg (relC fun _ _ => false), .val (.int .i64 0), .val (.int .i64 1)] (.agg (relC a1)) := with_eq _ _ _ _ (by decide +kernel)
theorem aw2 : Pf Try.prog 27 [.agg (relC a1), .val (.int .i64 1), .val (.int .i64 2)] (.agg (relC a2)) := with_eq _ _ _ _ (by decide +kernel)
theorem aw3 : Pf Try.prog 27 [.agg (relC a2), .val (.int .i64 2), .val (.int .i64 0)] (.agg (relC a3)) := with_eq _ _ _ _ (by decide +kernel)
theorem aord : Pf Try.prog 7 [.agg (relC a2), .val (.int .u16 7)] (.tup [.ro 1 [.val (.int .i64 0), .val (.int .i64 1), .val (.int .i64 2)], .val (.bool true)]) := pf_eq (order_pf a2 fun i => decide (i < 3)) (by rw [ord_a2]; rfl)
theorem ahas : Pf Try.prog 12 [.agg (relC (cl a2)), .val (.int .i64 0), .val (.int .i64 2)] (.val (.bool true)) := pf_eq (has_in (cl a2) 0 (by decide) 2) (by kernel_rfl)
theorem aar2 : Pf Try.prog 11 [.agg (relC a2)] (.val (.bool false)) := pf_eq (around_pf a2) (by kernel_rfl)
theorem aar3 : Pf Try.prog 11 [.agg (relC a3)] (.val (.bool true)) := pf_eq (around_pf a3) (by kernel_rfl)

set_option maxRecDepth 100000 in
set_option maxHeartbeats 8000000 in
theorem awake16  : Pf Try.prog 8 [] (.val (.bool true)) := by
  refine Pf.of_fn .nil (.val _) ?_
  refine fn_in T_ok func8 rfl rfl ntmps8 rfl (by simp) ?_
  refine region_k T_ok (by decide) fun K hK => ?_
  simp [go_sem]
  refine hK _ ?_; clear hK K
  refine region_k T_ok (by decide) fun K hK => ?_
  simp [go_sem]
  refine call_pf aw1 ?_
  simp [go_sem]
  refine call_pf aw2 ?_
  simp [go_sem]
  refine hK _ ?_; clear hK K
  refine region_k T_ok (by decide) fun K hK => ?_
  simp [go_sem]
  refine call_pf aord ?_
  simp [go_sem]
  refine hK _ ?_; clear hK K
  refine region_k T_ok (by decide) fun K hK => ?_
  simp [go_sem]
  refine call_pf (closed_pf _) ?_
  simp [go_sem]
  refine call_pf ahas ?_
  simp [go_sem]
  refine call_pf aar2 ?_
  simp [go_sem]
  refine call_pf aw3 ?_
  simp [go_sem]
  refine call_pf aar3 ?_
  simp [go_sem]
  refine hK _ ?_; clear hK K
  refine tr_ret ⟨.inr rfl, ?_⟩
  simp [go_sem]

end Go.Proofs.Ytjdaofmhklihiaa
