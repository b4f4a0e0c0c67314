/- The rules in the form in which they are used. -/
import Derived.Test.YtokdphmnlcmbbaaSl11
set_option linter.unusedVariables false
set_option linter.unusedSimpArgs false
namespace Go.Sl

section
variable {F : Nat → Prop} {ι ι' : Names} {O : Nat → Prop} {H H' : Heap} {σ σ' : St} {a a' : Act} {w w' : World} {P : Program} {T : Tab} {Q : Exit → St → Prop}

theorem seq_k {x y : Code} (h : ∀ K : St → Prop, (∀ σ', Tr P y Q σ' → K σ') → Tr P x (Then K Q) σ) : Tr P (.seq x y) Q σ := tr_seq (h _ fun _ h => h)

/-- a region, then what is behind it -/
theorem region_k (hT : TabOk P T) {id : Nat} {l : List Oper} {y : Code} {N k : Nat} {t : List (Nat × V)} {H : Heap} (hN : dstsLt l N = true)
    (h : ∀ K : St → Prop, (∀ σ', Tr P y Q σ' → K σ') → vcL T P l N l K t H k) : Tr P (.seq (.region id l.toArray false) y) Q ⟨N, t, H, k⟩ :=
  tr_seq (tr_region hT hN (h _ fun _ h => h))

theorem cond_k {c : Operand} {x y : Code} {b : Bool} (hc : evalV σ.t c = .val (.bool b)) (ht : b = true → Tr P x Q σ) (hf : b = false → Tr P y Q σ) : Tr P (.cond c x y) Q σ := tr_cond hc ht hf

theorem fn_in (hT : TabOk P T) {f : FuncId} {fn : Func} {c : Code} {args : List V} {k : Nat} {K : V → Heap → Nat → Prop} {rs : List ResultVar} {N : Nat} (hf : P.funcs[f]? = some fn) (hb : fn.body = some c) (hname : (fn.name == "runtime.NumGoroutine") = false) (hNn : fn.ntmps = N) (hr : fn.results = rs.toArray)
    (hN : args.length ≤ N) (h : Tr P c (Ends T rs K) ⟨N, initT 0 args, H, k⟩) : Fn P f args H k K := by
  subst hNn
  refine fn_intro hT hf hb hname hN ?_
  rw [hr]; exact h

end

/-! what is not looked into before its turn comes -/
section
variable {H H' : Heap} {ti ti' : TI} {x x' y y' : V} {K : V → Prop} {KH : Heap → Prop} {KA : V → Heap → Nat → Prop} {d d' : D} {T : Tab}
@[congr] theorem loadV_congr (h1 : H = H') (h3 : x = x') : loadV H ti x K = loadV H' ti x' K := by rw [h1, h3]
@[congr] theorem storeV_congr (h1 : H = H') (h3 : x = x') (h4 : y = y') : storeV H ti x y KH = storeV H' ti x' y' KH := by rw [h1, h3, h4]
@[congr] theorem indexAddrV_congr (h1 : H = H') (h2 : d = d') (h3 : x = x') (h4 : y = y') : indexAddrV T H d x y K = indexAddrV T H' d' x' y' K := by rw [h1, h2, h3, h4]
@[congr] theorem indexV_congr (h2 : d = d') (h3 : x = x') (h4 : y = y') : indexV T d x y K = indexV T d' x' y' K := by rw [h2, h3, h4]
@[congr] theorem fieldAddrV_congr {f : Nat} (h2 : d = d') (h3 : x = x') : fieldAddrV T d x f K = fieldAddrV T d' x' f K := by rw [h2, h3]
@[congr] theorem fieldV_congr {f : Nat} (h2 : d = d') (h3 : x = x') : fieldV T d x f K = fieldV T d' x' f K := by rw [h2, h3]
@[congr] theorem binIV_congr {op : BinOp} {k : IntKind} {m m' n n' : Int} (h3 : m = m') (h4 : n = n') : binIV op k m n K = binIV op k m' n' K := by rw [h3, h4]
@[congr] theorem shIV_congr {op : BinOp} {k : IntKind} {m m' n n' : Int} (h3 : m = m') (h4 : n = n') : shIV op k m n K = shIV op k m' n' K := by rw [h3, h4]
@[congr] theorem binV_congr {op : BinOp} {t : TypeId} (h3 : x = x') (h4 : y = y') : binV T op t x y K = binV T op t x' y' K := by rw [h3, h4]
@[congr] theorem eqV_congr {op : BinOp} {sp sp' : Option (List EK)} {cs cs' ds ds' : List V} (h1 : sp = sp') (h2 : cs = cs') (h3 : ds = ds') : eqV sp op cs ds K = eqV sp' op cs' ds' K := by rw [h1, h2, h3]
@[congr] theorem ptrV_congr {op : BinOp} {t : TypeId} : ptrV T op t K = ptrV T op t K := rfl
@[congr] theorem makeV_congr {ty : TypeId} {k k' : Nat} (h1 : x = x') (h2 : y = y') (h3 : H = H') (h4 : k = k') : makeV T ty x y k H KA = makeV T ty x' y' k' H' KA := by rw [h1, h2, h3, h4]
@[congr] theorem sliceV_congr {lo hi : Nat → Option Int} (h1 : H = H') (h3 : x = x') : sliceV H ti x lo hi K = sliceV H' ti x' lo hi K := by rw [h1, h3]
@[congr] theorem appendV_congr {k : Nat} (h1 : H = H') (h3 : x = x') (h4 : y = y') : appendV H k ti x y KA = appendV H' k ti x' y' KA := by rw [h1, h3, h4]
@[congr] theorem fillP_congr {pl : Nat → Option (Nat × Nat)} {cs cs' : List V} {r r' : List (Nat × V)} {KL : List V → Prop} (h1 : cs = cs') (h2 : r = r') : fillP pl cs r KL = fillP pl cs' r' KL := by rw [h1, h2]
@[congr] theorem opV_congr {P : Program} {t t' : List (Nat × V)} {k k' : Nat} {op : Op} (h1 : t = t') (h2 : H = H') (h3 : k = k') : opV T P t H k op KA = opV T P t' H' k' op KA := by rw [h1, h2, h3]
@[congr] theorem vcL_congr {P : Program} {ops l : List Oper} {N k k' : Nat} {KS : St → Prop} {t t' : List (Nat × V)} (h1 : t = t') (h2 : H = H') (h3 : k = k') : vcL T P ops N l KS t H k = vcL T P ops N l KS t' H' k' := by rw [h1, h2, h3]
@[congr] theorem guardV_congr {ops : List Oper} {t : List (Nat × V)} {g : Option (Nat × Bool)} {p q : Prop} : guardV ops t g p q = guardV ops t g p q := rfl
@[congr] theorem retV_congr {t : List (Nat × V)} {rs : List ResultVar} {acc : List V} : retV T t H rs acc K = retV T t H rs acc K := rfl
/-- a call of a function that changes nothing -/
theorem call_pf {P : Program} {f : FuncId} {args : List V} {r : V} {k : Nat} {K : V → Heap → Nat → Prop} (h : Pf P f args r) (hk : K r H k) : @callF P f args H k ⟨K⟩ := h.fn hk
theorem call_fn {P : Program} {f : FuncId} {args : List V} {k : Nat} {K : V → Heap → Nat → Prop} (h : Sl.Fn P f args H k K) : @callF P f args H k ⟨K⟩ := h
@[congr] theorem fn_congr {P : Program} {f : FuncId} {args args' : List V} {k : Nat} (h1 : args = args') (h2 : H = H') : Sl.Fn P f args H k KA = Sl.Fn P f args' H' k KA := by rw [h1, h2]
end
@[go_sem] theorem indexV_arr {T : Tab} {len : Nat} {e : TypeId} {cs : List V} {kd : IntKind} {m : Int} {K : V → Prop} : indexV T (.array len e) (.agg cs) (.val (.int kd m)) K =
    (match T e with | some te => 0 ≤ m ∧ m < len ∧ m.toNat * te.size + te.size ≤ cs.length ∧ K (partV te.agg te.size cs (m.toNat * te.size)) | none => False) := Eq.trans rfl rfl
@[go_sem low] theorem indexV_s {T : Tab} {s : ByteArray} {kd : IntKind} {m : Int} {K : V → Prop} : indexV T .string (.val (.string s)) (.val (.int kd m)) K =
    (0 ≤ m ∧ m < s.size ∧ K (.val (.int .u8 ((s.data.toList.getD m.toNat 0).toNat : Int)))) := Eq.trans rfl rfl
attribute [go_sem ↓] guardV
attribute [go_sem] vcL opV
@[go_sem] theorem evalV_tmp (t : List (Nat × V)) (i : Nat) : evalV t (.tmp i) = get t i := Eq.trans rfl rfl
@[go_sem] theorem evalV_const (t : List (Nat × V)) (v : Value) : evalV t (.const v) = constV v := Eq.trans rfl rfl
@[go_sem] theorem evalV_global (t : List (Nat × V)) (g : Nat) : evalV t (.global g) = .val (.pointer (some ⟨g, 0, none⟩)) := Eq.trans rfl rfl
@[go_sem] theorem evalV_func (t : List (Nat × V)) (f : FuncId) : evalV t (.func f) = .fn (.func f) [] [] := Eq.trans rfl rfl
attribute [go_sem] V.cells dstLt constV get setT loadV storeV indexAddrV fieldAddrV fieldV isSh V.isAddr ptrV makeV binV eqV eqSpec eqSpecF eqCells sliceV appendV look put del fillP initT retV oneOrTup Then InBlock boundV lenV lenD newsV TI.agg
end Go.Sl
