/- What a list of operations asks, as one proposition; functions entered and left. -/
import Derived.Test.YtokdphmnlcmbbaaSl9b
set_option linter.unusedVariables false
set_option linter.unusedSimpArgs false
namespace Go.Sl

/-! ## one operation -/

def loadV (H : Heap) (ti : TI) (x : V) (K : V → Prop) : Prop :=
  match x with
  | .ptr n i j =>
    match look n H with
    | some (.rows sz es) => i < es.length ∧ j + ti.size ≤ sz ∧ K (partV ti.agg ti.size (es.getD i .any).cells j)
    | _ => False
  | .rp cs j => j + ti.size ≤ cs.length ∧ K (partV ti.agg ti.size cs j)
  | _ => False

def storeV (H : Heap) (ti : TI) (x v : V) (K : Heap → Prop) : Prop :=
  match x with
  | .ptr n i j =>
    match look n H with
    | some (.rows sz es) => i < es.length ∧ 0 < ti.size ∧ j + ti.size ≤ sz ∧ v.fits ti.size = true ∧ K (put n (.rows sz (es.set i (putPart (es.getD i .any) j v))) H)
    | _ => False
  | _ => False

def indexAddrV (T : Tab) (H : Heap) (d : D) (x y : V) (K : V → Prop) : Prop :=
  match y with
  | .val (.int _ m) =>
    match d with
    | .array len e =>
      match T e with
      | some te =>
        match x with
        | .ptr n i j => 0 ≤ m ∧ m < len ∧ K (.ptr n i (j + m.toNat * te.size))
        | .rp cs j => 0 ≤ m ∧ m < len ∧ K (.rp cs (j + m.toNat * te.size))
        | _ => False
      | none => False
    | .slice e =>
      match T e with
      | some te =>
        match x with
        | .sl n i len =>
          match look n H with
          | some (.rows sz _) => sz = te.size ∧ 0 ≤ m ∧ m < len ∧ K (.ptr n (i + m.toNat) 0)
          | _ => False
        | .ro sz es => sz = te.size ∧ 0 ≤ m ∧ m < es.length ∧ K (.rp (es.getD m.toNat .any).cells 0)
        | _ => False
      | none => False
    | _ => False
  | _ => False

def indexV (T : Tab) (d : D) (x y : V) (K : V → Prop) : Prop :=
  match y with
  | .val (.int _ m) =>
    match d with
    | .array len e =>
      match T e with
      | some te =>
        match x with
        | .agg cs => 0 ≤ m ∧ m < len ∧ m.toNat * te.size + te.size ≤ cs.length ∧ K (partV te.agg te.size cs (m.toNat * te.size))
        | _ => False
      | none => False
    | .string =>
      match x with
      | .val (.string s) => 0 ≤ m ∧ m < s.size ∧ K (.val (.int .u8 ((s.data.toList.getD m.toNat 0).toNat : Int)))
      | _ => False
    | _ => False
  | _ => False

def fieldAddrV (T : Tab) (d : D) (x : V) (f : Nat) (K : V → Prop) : Prop :=
  match d with
  | .struct fs =>
    match fs[f]? with
    | some (ft, off, _) =>
      match T ft with
      | some tf =>
        match x with
        | .ptr n i j => 0 < tf.size ∧ K (.ptr n i (j + off))
        | .rp cs j => 0 < tf.size ∧ K (.rp cs (j + off))
        | _ => False
      | none => False
    | none => False
  | _ => False

def fieldV (T : Tab) (d : D) (x : V) (f : Nat) (K : V → Prop) : Prop :=
  match d with
  | .struct fs =>
    match fs[f]? with
    | some (ft, off, _) =>
      match T ft with
      | some tf =>
        match x with
        | .agg cs => off + tf.size ≤ cs.length ∧ K (partV tf.agg tf.size cs off)
        | _ => False
      | none => False
    | none => False
  | _ => False

def binIV (op : BinOp) (k : IntKind) (x y : Int) (K : V → Prop) : Prop :=
  match op with
  | .add => K (.val (.int k (k.wrap (x + y))))
  | .sub => K (.val (.int k (k.wrap (x - y))))
  | .mul => K (.val (.int k (k.wrap (x * y))))
  | .quo => y ≠ 0 ∧ K (.val (.int k (k.wrap (x.tdiv y))))
  | .rem => y ≠ 0 ∧ K (.val (.int k (x.tmod y)))
  | .and => K (.val (.int k (k.wrap (BitVec.ofInt k.bits x &&& BitVec.ofInt k.bits y).toNat)))
  | .or => K (.val (.int k (k.wrap (BitVec.ofInt k.bits x ||| BitVec.ofInt k.bits y).toNat)))
  | .xor => K (.val (.int k (k.wrap (BitVec.ofInt k.bits x ^^^ BitVec.ofInt k.bits y).toNat)))
  | .andNot => K (.val (.int k (k.wrap (BitVec.ofInt k.bits x &&& ~~~BitVec.ofInt k.bits y).toNat)))
  | .eql => K (.val (.bool (x == y)))
  | .neq => K (.val (.bool (x != y)))
  | .lss => K (.val (.bool (decide (x < y))))
  | .leq => K (.val (.bool (decide (x ≤ y))))
  | .gtr => K (.val (.bool (decide (x > y))))
  | .geq => K (.val (.bool (decide (x ≥ y))))
  | _ => False

def shIV (op : BinOp) (k : IntKind) (x y : Int) (K : V → Prop) : Prop :=
  match op with
  | .shl => 0 ≤ y ∧ K (.val (.int k (k.wrap (x * 2 ^ (min y.toNat k.bits)))))
  | .shr => 0 ≤ y ∧ K (.val (.int k (x.fdiv (2 ^ (min y.toNat k.bits)))))
  | _ => False

def isSh : BinOp → Bool
  | .shl | .shr => true
  | _ => false

/-- values made of parts, compared -/
def eqV (sp : Option (List EK)) (op : BinOp) (cs ds : List V) (K : V → Prop) : Prop :=
  match sp with
  | some sp =>
    match eqCells sp cs ds with
    | some b =>
      match op with
      | .eql => K (.val (.bool b))
      | .neq => K (.val (.bool !b))
      | _ => False
    | none => False
  | none => False

/-- an address compared with nil -/
def ptrV (T : Tab) (op : BinOp) (t : TypeId) (K : V → Prop) : Prop :=
  match T t with
  | some ti =>
    match ti.d with
    | .pointer _ =>
      match op with
      | .eql => K (.val (.bool false))
      | .neq => K (.val (.bool true))
      | _ => False
    | _ => False
  | none => False

def makeV (T : Tab) (ty : TypeId) (x y : V) (k : Nat) (H : Heap) (K : V → Heap → Nat → Prop) : Prop :=
  match x, y with
  | .val (.int _ l), .val (.int _ c) =>
    match T ty with
    | some ti =>
      match ti.d with
      | .slice e =>
        match T e with
        | some te => 0 ≤ l ∧ l = c ∧ (te.bytes : Int) * c ≤ 281474976710656 ∧ c ≤ 9223372036854775807 ∧ K (.sl k 0 c.toNat) ((k, .rows te.size (List.replicate c.toNat te.zeroV)) :: H) (k + 1)
        | none => False
      | _ => False
    | none => False
  | _, _ => False

def binV (T : Tab) (op : BinOp) (t : TypeId) (x y : V) (K : V → Prop) : Prop :=
  match x, y with
  | .agg cs, .agg ds =>
    match T t with
    | some ti => ti.agg = true ∧ eqV (eqSpec T 16 t) op cs ds K
    | none => False
  | .ptr .., .val (.pointer none) => ptrV T op t K
  | .rp .., .val (.pointer none) => ptrV T op t K
  | .val (.int k m), .val (.int k' n) => if isSh op then shIV op k m n K else k = k' ∧ binIV op k m n K
  | .val (.string m), .val (.string n) =>
    match op with
    | .add => (m.size + n.size : Int) ≤ 9223372036854775807 ∧ K (.val (.string (m ++ n)))
    | .eql => K (.val (.bool (m.toList == n.toList)))
    | .neq => K (.val (.bool !(m.toList == n.toList)))
    | .lss => K (.val (.bool (Op.bytesLess m.toList n.toList)))
    | .leq => K (.val (.bool (Op.bytesLess m.toList n.toList || m.toList == n.toList)))
    | .gtr => K (.val (.bool !(Op.bytesLess m.toList n.toList || m.toList == n.toList)))
    | .geq => K (.val (.bool !(Op.bytesLess m.toList n.toList)))
    | _ => False
  | .val (.bool m), .val (.bool n) =>
    match T t with
    | some ti =>
      match ti.d with
      | .bool =>
        match op with
        | .eql => K (.val (.bool (m == n)))
        | .neq => K (.val (.bool (m != n)))
        | _ => False
      | _ => False
    | none => False
  | _, _ => False

def sliceV (H : Heap) (te : TI) (x : V) (lo hi : Nat → Option Int) (K : V → Prop) : Prop :=
  match x with
  | .val (.slice none 0 0) =>
    match lo 0, hi 0 with
    | some l, some h => l = 0 ∧ h = 0 ∧ K (.val (.slice none 0 0))
    | _, _ => False
  | .sl n i len =>
    match look n H with
    | some (.rows sz _) =>
      match lo 0, hi len with
      | some l, some h => sz = te.size ∧ 0 ≤ l ∧ l ≤ h ∧ h ≤ len ∧ K (.sl n (i + l.toNat) (h.toNat - l.toNat))
      | _, _ => False
    | _ => False
  | .ro sz es =>
    match lo 0, hi es.length with
    | some l, some h => sz = te.size ∧ 0 ≤ l ∧ l ≤ h ∧ h ≤ es.length ∧ K (.ro te.size ((es.drop l.toNat).take (h.toNat - l.toNat)))
    | _, _ => False
  | _ => False

def appendV (H : Heap) (k : Nat) (te : TI) (s x : V) (K : V → Heap → Nat → Prop) : Prop :=
  match newsV H te.size x with
  | some news =>
    match s with
    | .val (.slice none 0 0) => 0 < te.size ∧ 0 < te.bytes ∧ news.length * te.bytes ≤ 140737488355328 ∧ K (.sl k 0 news.length) ((k, .rows te.size news) :: H) (k + 1)
    | .sl n i len =>
      match look n H with
      | some (.rows sz es) => sz = te.size ∧ i + len ≤ es.length ∧ 0 < te.size ∧ 0 < te.bytes ∧ (len + news.length) * te.bytes ≤ 140737488355328 ∧
          K (.sl k 0 (len + news.length)) ((k, .rows te.size ((es.drop i).take len ++ news)) :: del n H) (k + 1)
      | _ => False
    | _ => False
  | none => False

/-- a call; what stands behind it is kept where simp does not look -/
def callF (P : Program) (f : FuncId) (args : List V) (H : Heap) (k : Nat) [i : Inhabited (V → Heap → Nat → Prop)] : Prop := Fn P f args H k i.default

def opV (T : Tab) (P : Program) (t : List (Nat × V)) (H : Heap) (k : Nat) (op : Op) (K : V → Heap → Nat → Prop) : Prop :=
  match op with
  | .move x => K (evalV t x) H k
  | .assign x => K (evalV t x) H k
  | .pick c x y =>
    match evalV t c with
    | .val (.bool b) => if b = true then K (evalV t x) H k else K (evalV t y) H k
    | _ => False
  | .box e x =>
    match T e with
    | some ti => (evalV t x).fits ti.size = true ∧ K (.ptr k 0 0) ((k, .rows ti.size [evalV t x]) :: H) (k + 1)
    | none => False
  | .alloc e =>
    match T e with
    | some ti => K (.ptr k 0 0) ((k, .rows ti.size [ti.zeroV]) :: H) (k + 1)
    | none => False
  | .load ty x =>
    match T ty with
    | some ti => loadV H ti (evalV t x) fun v => K v H k
    | none => False
  | .store ty x y =>
    match T ty with
    | some ti => storeV H ti (evalV t x) (evalV t y) fun H' => K (.tup []) H' k
    | none => False
  | .indexAddr ty x y =>
    match T ty with
    | some ti => indexAddrV T H ti.d (evalV t x) (evalV t y) fun v => K v H k
    | none => False
  | .index ty x y =>
    match T ty with
    | some ti => indexV T ti.d (evalV t x) (evalV t y) fun v => K v H k
    | none => False
  | .fieldAddr ty x f =>
    match T ty with
    | some ti => fieldAddrV T ti.d (evalV t x) f fun v => K v H k
    | none => False
  | .field ty x f =>
    match T ty with
    | some ti => fieldV T ti.d (evalV t x) f fun v => K v H k
    | none => False
  | .extract x i =>
    match evalV t x with
    | .tup vs => i < vs.length ∧ K (vs.getD i .any) H k
    | _ => False
  | .binOp op ty x y _ => binV T op ty (evalV t x) (evalV t y) fun v => K v H k
  | .unOp op _ x =>
    match op, evalV t x with
    | .not, .val (.bool b) => K (.val (.bool (!b))) H k
    | .neg, .val (.int kd n) => K (.val (.int kd (kd.wrap (0 - n)))) H k
    | .xor, .val (.int kd n) => K (.val (.int kd (kd.wrap (BitVec.ofInt kd.bits (if kd.signed then -1 else kd.max) ^^^ BitVec.ofInt kd.bits n).toNat))) H k
    | _, _ => False
  | .convert s d x =>
    match T s, T d, evalV t x with
    | some ts, some td, .val (.int k' n) =>
      match ts.d, td.d with
      | .int k1, .int kd => k' = k1 ∧ K (.val (.int kd (kd.wrap n))) H k
      | _, _ => False
    | _, _, _ => False
  | .build ty parts =>
    match T ty with
    | some ti =>
      match ti.d with
      | .struct fs => (fs.all fun f => (T f.1).isSome) = true ∧ fillP (fun i => (fs[i]?).map fun f => (f.2.1, f.2.2)) (ti.zero.map .val) (parts.toList.map fun p => (p.1, evalV t p.2)) fun cs => K (.agg cs) H k
      | .array _ e =>
        match T e with
        | some te => fillP (fun i => some (i * te.size, te.size)) (ti.zero.map .val) (parts.toList.map fun p => (p.1, evalV t p.2)) fun cs => K (.agg cs) H k
        | none => False
      | _ => False
    | none => False
  | .buildSlice ty len parts =>
    match T ty with
    | some ti =>
      match ti.d with
      | .slice e =>
        match T e with
        | some te => 0 < te.size ∧ parts.toList.map Prod.fst = List.range len ∧ len * te.size ≤ 16777216 ∧ (∀ v ∈ parts.toList.map (fun p => evalV t p.2), v.fits te.size = true) ∧
            K (.sl k 0 len) ((k, .rows te.size (parts.toList.map fun p => evalV t p.2)) :: H) (k + 1)
        | none => False
      | _ => False
    | none => False
  | .slice ty x lo hi none =>
    match T ty with
    | some ti =>
      match ti.d with
      | .string =>
        match evalV t x with
        | .val (.string s) =>
          match boundV t 0 lo, boundV t s.size hi with
          | some l, some h => 0 ≤ l ∧ l ≤ h ∧ h ≤ s.size ∧ K (.val (.string (s.extract l.toNat h.toNat))) H k
          | _, _ => False
        | _ => False
      | .slice e =>
        match T e with
        | some te => sliceV H te (evalV t x) (boundV t · lo) (boundV t · hi) fun v => K v H k
        | none => False
      | _ => False
    | none => False
  | .nilCheck x => (evalV t x).isAddr = true ∧ K (evalV t x) H k
  | .makeSlice ty l c => makeV T ty (evalV t l) (evalV t c) k H K
  | .makeFunc f fs cs => K (.fn f (fs.toList.map (evalV t)) (cs.toList.map (evalV t))) H k
  | .call ⟨.value f, args, _⟩ =>
    match evalV t f with
    | .fn (.func g) fs cs => @callF P g (fs ++ args.toList.map (evalV t) ++ cs) H k ⟨K⟩
    | _ => False
  | .call ⟨.builtin .len, args, ts⟩ =>
    match args.toList, ts.toList with
    | [x], [ty] =>
      match T ty with
      | some ti =>
        match lenV (evalV t x) with
        | some n => lenD ti.d (evalV t x) = true ∧ K (.val (.int .i64 n)) H k
        | none => False
      | none => False
    | _, _ => False
  | .call ⟨.builtin .min, args, _⟩ =>
    match args.toList with
    | [x, y] =>
      match evalV t x, evalV t y with
      | .val (.int kd m), .val (.int _ n) => K (.val (.int kd (if n < m then n else m))) H k
      | _, _ => False
    | _ => False
  | .call ⟨.builtin .max, args, _⟩ =>
    match args.toList with
    | [x, y] =>
      match evalV t x, evalV t y with
      | .val (.int kd m), .val (.int _ n) => K (.val (.int kd (if n > m then n else m))) H k
      | _, _ => False
    | _ => False
  | .call ⟨.builtin .append, args, ts⟩ =>
    match args.toList, ts.toList with
    | [s, x], [ty, u] =>
      match T ty, T u with
      | some ti, some tu =>
        match ti.d, tu.d with
        | .slice e, .slice _ =>
          match T e with
          | some te => appendV H k te (evalV t s) (evalV t x) K
          | none => False
        | _, _ => False
      | _, _ => False
    | _, _ => False
  | _ => False

def isCall : Op → Bool
  | .call ⟨.value _, _, _⟩ => true
  | _ => false

section
variable {fr : Nat → Prop} {F : Nat → Prop} {ι ι' : Names} {O : Nat → Prop} {H : Heap} {σ σ' : St} {a a' : Act} {w w' : World} {P : Program} {T : Tab}

theorem binIV_spec {op : BinOp} {k : IntKind} {x y : Int} {K : V → Prop} (h : binIV op k x y K) : ∃ v, binI op k x y = some v ∧ K (.val v) := by
  unfold binIV at h
  unfold binI
  cases op <;> simp only [] at h ⊢ <;> first | exact ⟨_, rfl, h⟩ | exact ⟨_, if_neg h.1, h.2⟩ | exact h.elim

theorem shIV_spec {op : BinOp} {k : IntKind} {x y : Int} {K : V → Prop} (h : shIV op k x y K) : ∃ v, shI op k x y = some v ∧ K (.val v) := by
  unfold shIV at h
  unfold shI
  cases op <;> simp only [] at h ⊢ <;> first | exact ⟨_, if_neg (by omega), h.2⟩ | exact h.elim

theorem op_makeFunc {o : Oper} {K : V → Heap → Nat → Prop} (f : Go.Fn) (fs cs : Array Operand) (ho : o.op = .makeFunc f fs cs) (hk : K (.fn f (fs.toList.map (evalV σ.t)) (cs.toList.map (evalV σ.t))) σ.H σ.k) : OpT fr P o σ K :=
  opT_pure hk fun F ι a w hh => by
    refine ⟨.func f (fs.map a.eval) (cs.map a.eval), ?_, ?_⟩
    · unfold execOp; rw [ho]; simp [Instr.makeFunc]
    · have h1 := VRels.evals hh fs.toList
      have h2 := VRels.evals hh cs.toList
      have := VRel.fn (f := f) h1 h2
      have e1 : ∀ xs : Array Operand, (xs.toList.map a.eval).toArray = xs.map a.eval := fun xs => by apply Array.ext'; simp
      rw [e1, e1] at this
      exact this

theorem opV_sound (hT : TabOk P T) (hfr : fr σ.k) {o : Oper} {K : V → Heap → Nat → Prop} (hc : isCall o.op = true → fr = All) (h : opV T P σ.t σ.H σ.k o.op K) : OpT fr P o σ K := by
  unfold opV at h
  split at h
  · rename_i x ho; exact op_move x (.inl ho) h
  · rename_i x ho; exact op_move x (.inr ho) h
  · rename_i c x y ho
    split at h
    · rename_i b hc; exact op_pick c x y ho hc (fun e => by rw [if_pos e] at h; exact h) (fun e => by rw [if_neg (by simp [e])] at h; exact h)
    · exact h.elim
  · rename_i e x ho
    split at h
    · rename_i ti ht; exact op_box hfr e x ho (hT _ _ ht) h.1 h.2
    · exact h.elim
  · rename_i e ho
    split at h
    · rename_i ti ht; exact op_alloc hfr e ho (hT _ _ ht) h
    · exact h.elim
  · rename_i ty x ho
    split at h
    · rename_i ti ht
      unfold loadV at h
      split at h
      · rename_i n i j hx
        split at h
        · rename_i sz es hn; exact op_load_ptr ty x ho (hT _ _ ht) hx hn h.1 h.2.1 h.2.2
        · exact h.elim
      · rename_i cs j hx; exact op_load_rp ty x ho (hT _ _ ht) hx h.1 h.2
      · exact h.elim
    · exact h.elim
  · rename_i ty x y ho
    split at h
    · rename_i ti ht
      unfold storeV at h
      split at h
      · rename_i n i j hx
        split at h
        · rename_i sz es hn; exact op_store_ptr ty x y ho (hT _ _ ht) hx hn h.1 h.2.1 h.2.2.1 h.2.2.2.1 h.2.2.2.2
        · exact h.elim
      · exact h.elim
    · exact h.elim
  · rename_i ty x y ho
    split at h
    · rename_i ti ht
      unfold indexAddrV at h
      split at h
      · rename_i kd m hy
        split at h
        · rename_i len e hd
          split at h
          · rename_i te hte
            split at h
            · rename_i n i j hx; exact op_indexAddr_arr_ptr ty x y ho (hT _ _ ht) hd (hT _ _ hte) hx hy h.1 h.2.1 h.2.2
            · rename_i cs j hx; exact op_indexAddr_arr_rp ty x y ho (hT _ _ ht) hd (hT _ _ hte) hx hy h.1 h.2.1 h.2.2
            · exact h.elim
          · exact h.elim
        · rename_i e hd
          split at h
          · rename_i te hte
            split at h
            · rename_i n i len hx
              split at h
              · rename_i sz es hn
                obtain ⟨h1, h2, h3, h4⟩ := h
                subst h1
                exact op_indexAddr_sl ty x y ho (hT _ _ ht) hd (hT _ _ hte) hx hy hn h2 h3 h4
              · exact h.elim
            · rename_i sz es hx
              obtain ⟨h1, h2, h3, h4⟩ := h
              subst h1
              exact op_indexAddr_ro ty x y ho (hT _ _ ht) hd (hT _ _ hte) hx hy h2 h3 h4
            · exact h.elim
          · exact h.elim
        · exact h.elim
      · exact h.elim
    · exact h.elim
  · rename_i ty x y ho
    split at h
    · rename_i ti ht
      unfold indexV at h
      split at h
      · rename_i kd m hy
        split at h
        · rename_i len e hd
          split at h
          · rename_i te hte
            split at h
            · rename_i cs hx; exact op_index_arr ty x y ho (hT _ _ ht) hd (hT _ _ hte) hx hy h.1 h.2.1 h.2.2.1 h.2.2.2
            · exact h.elim
          · exact h.elim
        · rename_i hd
          split at h
          · rename_i s hx; exact op_index_str ty x y ho (hT _ _ ht) hd hx hy h.1 h.2.1 h.2.2
          · exact h.elim
        · exact h.elim
      · exact h.elim
    · exact h.elim
  · rename_i ty x f ho
    split at h
    · rename_i ti ht
      unfold fieldAddrV at h
      split at h
      · rename_i fs hd
        split at h
        · rename_i ft off sz hf
          split at h
          · rename_i tf htf
            split at h
            · rename_i n i j hx; exact op_fieldAddr_ptr ty x f ho (hT _ _ ht) hd hf (hT _ _ htf) h.1 hx h.2
            · rename_i cs j hx; exact op_fieldAddr_rp ty x f ho (hT _ _ ht) hd hf (hT _ _ htf) h.1 hx h.2
            · exact h.elim
          · exact h.elim
        · exact h.elim
      · exact h.elim
    · exact h.elim
  · rename_i ty x f ho
    split at h
    · rename_i ti ht
      unfold fieldV at h
      split at h
      · rename_i fs hd
        split at h
        · rename_i ft off sz hf
          split at h
          · rename_i tf htf
            split at h
            · rename_i cs hx; exact op_field ty x f ho (hT _ _ ht) hd hf (hT _ _ htf) hx h.1 h.2
            · exact h.elim
          · exact h.elim
        · exact h.elim
      · exact h.elim
    · exact h.elim
  · rename_i x i ho
    split at h
    · rename_i vs hx; exact op_extract x i ho hx h.1 h.2
    · exact h.elim
  · rename_i op ty x y u ho
    unfold binV at h
    split at h
    · rename_i cs ds hx hy
      split at h
      · rename_i ti ht
        obtain ⟨hg, h⟩ := h
        unfold eqV at h
        split at h
        · rename_i sp hsp
          split at h
          · rename_i b hb
            split at h
            · exact op_eqA hT _ ty u x y ho ht hg hsp hx hy hb (.inl ⟨rfl, h⟩)
            · exact op_eqA hT _ ty u x y ho ht hg hsp hx hy hb (.inr ⟨rfl, h⟩)
            · exact h.elim
          · exact h.elim
        · exact h.elim
      · exact h.elim
    · rename_i n i j hx hy
      unfold ptrV at h
      split at h
      · rename_i ti ht
        split at h
        · rename_i e hd
          split at h
          · exact op_ptrNil _ ty u x y ho (hT _ _ ht) hd (by rw [hx]; rfl) hy (.inl ⟨rfl, h⟩)
          · exact op_ptrNil _ ty u x y ho (hT _ _ ht) hd (by rw [hx]; rfl) hy (.inr ⟨rfl, h⟩)
          · exact h.elim
        · exact h.elim
      · exact h.elim
    · rename_i cs j hx hy
      unfold ptrV at h
      split at h
      · rename_i ti ht
        split at h
        · rename_i e hd
          split at h
          · exact op_ptrNil _ ty u x y ho (hT _ _ ht) hd (by rw [hx]; rfl) hy (.inl ⟨rfl, h⟩)
          · exact op_ptrNil _ ty u x y ho (hT _ _ ht) hd (by rw [hx]; rfl) hy (.inr ⟨rfl, h⟩)
          · exact h.elim
        · exact h.elim
      · exact h.elim
    · rename_i k m k' n hx hy
      split at h
      · obtain ⟨v, hv, hk⟩ := shIV_spec h
        exact op_shI op ty u x y ho hx hy hv hk
      · obtain ⟨h1, h2⟩ := h
        subst h1
        obtain ⟨v, hv, hk⟩ := binIV_spec h2
        exact op_binI op ty u x y ho hx hy hv hk
    · rename_i m n hx hy
      split at h <;> first
        | exact op_binS _ ty u x y ho hx hy rfl h
        | exact op_binS _ ty u x y ho hx hy (if_neg (by have := h.1; omega)) h.2
        | exact h.elim
    · rename_i m n hx hy
      split at h
      · rename_i ti ht
        split at h
        · rename_i hd
          split at h
          · exact op_eqB _ ty u x y ho (hT _ _ ht) hd hx hy (.inl ⟨rfl, h⟩)
          · exact op_eqB _ ty u x y ho (hT _ _ ht) hd hx hy (.inr ⟨rfl, h⟩)
          · exact h.elim
        · exact h.elim
      · exact h.elim
    · exact h.elim
  · rename_i op ty x ho
    split at h
    · rename_i b hx; exact op_not ty x ho hx h
    · rename_i kd n hx; exact op_neg ty x ho hx h
    · rename_i kd n hx; exact op_com ty x ho hx h
    · exact h.elim
  · rename_i s d x ho
    split at h
    · rename_i ts td k' n hs hd hx
      split at h
      · rename_i k1 kd h1 h2
        obtain ⟨h3, h4⟩ := h
        subst h3
        exact op_convI s d x ho (hT _ _ hd) (hT _ _ hs) h2 h1 hx h4
      · exact h.elim
    · exact h.elim
  · rename_i ty parts ho
    split at h
    · rename_i ti ht
      split at h
      · rename_i fs hd
        refine op_build ty parts ho (hT _ _ ht) hd (fun f hf => ?_) h.2
        have := List.all_eq_true.1 h.1 f hf
        obtain ⟨tf, htf⟩ := Option.isSome_iff_exists.1 this
        exact ⟨tf, hT _ _ htf⟩
      · rename_i n e hd
        split at h
        · rename_i te hte; exact op_build_arr ty parts ho (hT _ _ ht) hd (hT _ _ hte) h
        · exact h.elim
      · exact h.elim
    · exact h.elim
  · rename_i ty len parts ho
    split at h
    · rename_i ti ht
      split at h
      · rename_i e hd
        split at h
        · rename_i te hte
          obtain ⟨h1, h2, h3, h4, h5⟩ := h
          exact op_buildSlice hfr ty len parts ho (hT _ _ ht) hd (hT _ _ hte) h1 h2 h3 (fun p hp => h4 _ (List.mem_map.2 ⟨p, hp, rfl⟩)) h5
        · exact h.elim
      · exact h.elim
    · exact h.elim
  · rename_i ty x lo hi ho
    split at h
    · rename_i ti ht
      split at h
      · rename_i hd
        split at h
        · rename_i s hx
          split at h
          · rename_i l hb h1 h2; exact op_slice_str ty x lo hi ho (hT _ _ ht) hd hx h1 h2 h.1 h.2.1 h.2.2.1 h.2.2.2
          · exact h.elim
        · exact h.elim
      · rename_i e hd
        split at h
        · rename_i te hte
          unfold sliceV at h
          split at h
          · rename_i hx
            split at h
            · rename_i l hb h1 h2; exact op_slice_nil ty x lo hi ho (hT _ _ ht) hd (hT _ _ hte) hx h1 h2 h.1 h.2.1 h.2.2
            · exact h.elim
          · rename_i n i len hx
            split at h
            · rename_i sz es hn
              split at h
              · rename_i l hb h1 h2
                obtain ⟨h3, h4, h5, h6, h7⟩ := h
                subst h3
                exact op_slice_sl ty x lo hi ho (hT _ _ ht) hd (hT _ _ hte) hx hn h1 h2 h4 h5 h6 h7
              · exact h.elim
            · exact h.elim
          · rename_i sz es hx
            split at h
            · rename_i l hb h1 h2
              obtain ⟨h3, h4, h5, h6, h7⟩ := h
              subst h3
              exact op_slice_ro ty x lo hi ho (hT _ _ ht) hd (hT _ _ hte) hx h1 h2 h4 h5 h6 h7
            · exact h.elim
          · exact h.elim
        · exact h.elim
      · exact h.elim
    · exact h.elim
  · rename_i x ho; exact op_nilCheck x ho h.1 h.2
  · rename_i ty l c ho
    unfold makeV at h
    split at h
    · rename_i kl l' kc c' hl hc
      split at h
      · rename_i ti ht
        split at h
        · rename_i e hd
          split at h
          · rename_i te hte
            obtain ⟨h1, h2, h3, h4, h5⟩ := h
            exact op_makeSlice hfr ty l c ho (hT _ _ ht) hd (hT _ _ hte) hl hc h1 h2 h3 h4 h5
          · exact h.elim
        · exact h.elim
      · exact h.elim
    · exact h.elim
  · rename_i f fs cs ho; exact op_makeFunc f fs cs ho h
  · rename_i f args ts ho
    split at h
    · rename_i g fs cs hf
      have hc := hc (by rw [ho]; rfl)
      subst hc
      exact op_call f args ts ho hf h
    · exact h.elim
  · rename_i args ts ho
    split at h
    · rename_i x ty ha hts
      split at h
      · rename_i ti ht
        split at h
        · rename_i n hn
          have ea : args = #[x] := by apply Array.ext'; exact ha
          have et : ts = #[ty] := by apply Array.ext'; exact hts
          subst ea et
          exact op_len x ty ho (hT _ _ ht) h.1 hn h.2
        · exact h.elim
      · exact h.elim
    · exact h.elim
  · rename_i args ts ho
    split at h
    · rename_i x y ha
      split at h
      · rename_i kd m k' n hx hy
        have ea : args = #[x, y] := by apply Array.ext'; exact ha
        subst ea
        exact op_min x y ts ho hx hy h
      · exact h.elim
    · exact h.elim
  · rename_i args ts ho
    split at h
    · rename_i x y ha
      split at h
      · rename_i kd m k' n hx hy
        have ea : args = #[x, y] := by apply Array.ext'; exact ha
        subst ea
        exact op_max x y ts ho hx hy h
      · exact h.elim
    · exact h.elim
  · rename_i args ts ho
    split at h
    · rename_i s x ty u ha hts
      split at h
      · rename_i ti tu ht htu
        split at h
        · rename_i e e' hd hdu
          split at h
          · rename_i te hte
            have ea : args = #[s, x] := by apply Array.ext'; exact ha
            have et : ts = #[ty, u] := by apply Array.ext'; exact hts
            subst ea et
            unfold appendV at h
            split at h
            · rename_i news hx
              split at h
              · rename_i hs
                obtain ⟨h1, h2, h3, h4⟩ := h
                exact op_append hfr s x ty u ho (hT _ _ ht) hd (hT _ _ htu) hdu (hT _ _ hte) h1 h2 (olds := []) (.inl ⟨hs, rfl, rfl⟩) hx (by simpa using h3) (by simpa using h4)
              · rename_i n i len hs
                split at h
                · rename_i sz es hn
                  obtain ⟨h1, h2, h3, h4, h5, h6⟩ := h
                  subst h1
                  have hl : ((es.drop i).take len).length = len := by rw [List.length_take, List.length_drop]; omega
                  exact op_append hfr s x ty u ho (hT _ _ ht) hd (hT _ _ htu) hdu (hT _ _ hte) h3 h4 (.inr ⟨n, i, len, es, hs, hn, h2, rfl, rfl⟩) hx (by rw [hl]; exact h5) (by rw [hl]; exact h6)
                · exact h.elim
              · exact h.elim
            · exact h.elim
          · exact h.elim
        · exact h.elim
      · exact h.elim
    · exact h.elim
  · exact h.elim

/-! ## lists of operations -/

def dstLt (d : Option Tmp) (N : Nat) : Prop := match d with | some d => d < N | none => True

def guardV (ops : List Oper) (t : List (Nat × V)) (g : Option (Nat × Bool)) (yes no : Prop) : Prop :=
  match g with
  | none => yes
  | some (j, want) =>
    match (ops[j]?).bind (·.dst) with
    | some d =>
      match get t d with
      | .val (.bool b) => if b = want then yes else no
      | .tup [] => no
      | _ => False
    | none => False

def guardO (ops : List Oper) (t : List (Nat × V)) (g : Option (Nat × Bool)) (yes no : Prop) : Prop :=
  match g with
  | none => yes
  | some (j, want) =>
    match (ops[j]?).bind (·.dst) with
    | some d =>
      match get t d with
      | .val (.bool b) => if want then ((b = true → yes) ∧ (b = false → no)) else ((b = false → yes) ∧ (b = true → no))
      | .tup [] => no
      | _ => False
    | none => False

theorem guardO_of {ops : List Oper} {t : List (Nat × V)} {g : Option (Nat × Bool)} {yes no : Prop} (h : guardV ops t g yes no) : guardO ops t g yes no := by
  unfold guardV at h
  unfold guardO
  split at h
  · exact h
  · rename_i j want
    split at h
    · rename_i d hj
      split at h
      · cases want <;> rename_i b _ <;> cases b <;> simp_all
      · simp_all
      · exact h.elim
    · exact h.elim

def vcL (T : Tab) (P : Program) (ops : List Oper) (N : Nat) : List Oper → (St → Prop) → List (Nat × V) → Heap → Nat → Prop
  | [], K, t, H, k => K ⟨N, t, H, k⟩
  | o :: rest, K, t, H, k => dstLt o.dst N ∧ guardV ops t o.guard (opV T P t H k o.op fun v H' k' => vcL T P ops N rest K (setT t o.dst v) H' k') (vcL T P ops N rest K (setT t o.dst (.tup [])) H k)

theorem Holds.yields (hh : Holds All F ι σ a w) {d : Nat} (hd : d < σ.N) : (∀ b, get σ.t d = .val (.bool b) → a.tmps[d]? = some (.bool b)) ∧ (get σ.t d = .tup [] → a.tmps[d]? = some (.tuple #[])) := by
  have ht := hh.tmps d
  have hlt : d < a.tmps.size := by rw [hh.size]; exact hd
  have he : a.tmps.getD d undef = a.tmps[d] := by simp [Array.getD, hlt]
  rw [he] at ht
  constructor
  · intro b hb
    rw [hb] at ht
    rw [Array.getElem?_eq_getElem hlt, ht.inv_bool]
  · intro hb
    rw [hb] at ht
    rw [Array.getElem?_eq_getElem hlt]
    generalize a.tmps[d] = x at ht
    cases ht with
    | tup h => cases h; rfl

theorem Holds.skipped (hh : Holds All F ι σ a w) {dst : Option Tmp} (hd : dstLt dst σ.N) : Holds All F ι ⟨σ.N, setT σ.t dst (.tup []), σ.H, σ.k⟩ (a.put dst undef) w :=
  hh.step (hh.same (VRel.tup .nil)) fun d hd' => by subst hd'; exact hd

theorem vcL_sound (hT : TabOk P T) (ops : List Oper) (l : List Oper) : ∀ (K : St → Prop) (σ : St), vcL T P ops σ.N l K σ.t σ.H σ.k → (∀ o ∈ ops, dstLt o.dst σ.N) → TrL P ops.toArray l K σ := by
  induction l with
  | nil => intro K σ h _ F ι a w hh Q hQ; exact hQ ι σ a w h hh (Ext.refl _ _ _ _ _)
  | cons o rest ih =>
    intro K σ h hops F ι a w hh Q hQ
    simp only [vcL] at h
    obtain ⟨hd, hg⟩ := h
    have yes : opV T P σ.t σ.H σ.k o.op (fun v H' k' => vcL T P ops σ.N rest K (setT σ.t o.dst v) H' k') → o.wp P a w (wpList P ops.toArray Q rest) Q := fun h => by
      refine opV_sound hT trivial (fun _ => rfl) h F ι a w hh _ Q ?_
      intro ι' v cv H' k' w' hk hO
      have hh' := hh.step hO (dst := o.dst) (fun d hd' => by rw [hd'] at hd; exact hd)
      exact ih K ⟨σ.N, setT σ.t o.dst v, H', k'⟩ hk hops F ι' _ w' hh' Q fun ι'' σ'' a'' w'' hK hh'' hx => hQ ι'' σ'' a'' w'' hK hh'' (hO.ext.trans hx)
    have no : vcL T P ops σ.N rest K (setT σ.t o.dst (.tup [])) σ.H σ.k → wpList P ops.toArray Q rest (a.put o.dst undef) w := fun h =>
      ih K ⟨σ.N, setT σ.t o.dst (.tup []), σ.H, σ.k⟩ h hops F ι _ w (hh.skipped hd) Q hQ
    have hg := guardO_of hg
    unfold guardO at hg
    cases hgd : o.guard with
    | none =>
      rw [hgd] at hg
      simp only [wpList]
      rw [if_pos (by simp [Region.wanted, hgd])]
      exact .inl (yes hg)
    | some g =>
      obtain ⟨j, want⟩ := g
      rw [hgd] at hg
      simp only at hg
      cases hj : (ops[j]?).bind (·.dst) with
      | none => rw [hj] at hg; exact hg.elim
      | some d =>
        rw [hj] at hg
        simp only at hg
        have hdN : d < σ.N := by
          obtain ⟨oj, hoj, hdj⟩ := Option.bind_eq_some_iff.1 hj
          have := hops oj (List.mem_of_getElem? hoj)
          rw [hdj] at this; exact this
        obtain ⟨hy1, hy2⟩ := hh.yields hdN
        have hyl : ∀ b, a.tmps[d]? = some (.bool b) → yielded ops.toArray a.tmps j = some b := by
          intro b hb
          unfold yielded
          have : ((ops.toArray[j]?).bind (·.dst)) = some d := by simpa using hj
          rw [this]; simp [hb]
        simp only [wpList]
        split at hg
        · rename_i b hb
          have hyb := hyl b (hy1 b hb)
          cases want <;> cases b <;> simp only [Region.wanted, hgd, hyb, if_true, if_false, Bool.false_eq_true] at hg ⊢
          · rw [if_pos (by simp)]; exact .inl (yes (hg.1 trivial))
          · rw [if_neg (by simp)]; exact no (hg.2 trivial)
          · rw [if_neg (by simp)]; exact no (hg.2 trivial)
          · rw [if_pos (by simp)]; exact .inl (yes (hg.1 trivial))
        · rename_i hb
          have ht := hy2 hb
          have hyn : yielded ops.toArray a.tmps j = none := by
            unfold yielded
            have : ((ops.toArray[j]?).bind (·.dst)) = some d := by simpa using hj
            rw [this]; simp [ht]
          rw [if_neg (by simp [Region.wanted, hgd, hyn])]
          exact no hg
        · exact hg.elim

def dstsLt (ops : List Oper) (N : Nat) : Bool := ops.all fun o => match o.dst with | some d => decide (d < N) | none => true

theorem dstsLt_spec {ops : List Oper} {N : Nat} (h : dstsLt ops N = true) : ∀ o ∈ ops, dstLt o.dst N := by
  intro o ho
  have := List.all_eq_true.1 h o ho
  unfold dstLt
  cases hd : o.dst with
  | none => trivial
  | some d => rw [hd] at this; simpa using this

/-- a region in the order of its text -/
theorem tr_region (hT : TabOk P T) {id : Nat} {l : List Oper} {Q : Exit → St → Prop} {N k : Nat} {t : List (Nat × V)} {H : Heap} (hN : dstsLt l N = true) (h : vcL T P l N l (fun σ' => Q .normal σ') t H k) : Tr P (.region id l.toArray false) Q ⟨N, t, H, k⟩ :=
  fun F ι a w hh => wp_region_lit (vcL_sound hT l l _ ⟨N, t, H, k⟩ h (dstsLt_spec hN) F ι a w hh _ fun ι' σ' _ _ hK hh' hx => ⟨ι', σ', hK, hh', hx⟩)

end
end Go.Sl
