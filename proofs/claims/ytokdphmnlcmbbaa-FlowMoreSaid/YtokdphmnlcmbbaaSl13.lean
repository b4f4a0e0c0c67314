/- An operation that is no call comes to one value and one heap. -/
import Derived.Test.YtokdphmnlcmbbaaSl12
set_option linter.unusedVariables false
set_option linter.unusedSimpArgs false
namespace Go.Sl

def Pt1 (O : (V → Prop) → Prop) : Prop := ∀ K0, O K0 → ∃ v, K0 v ∧ ∀ K : V → Prop, K v → O K
def PtH (O : (Heap → Prop) → Prop) : Prop := ∀ K0, O K0 → ∃ v, K0 v ∧ ∀ K : Heap → Prop, K v → O K
def PtL (O : (List V → Prop) → Prop) : Prop := ∀ K0, O K0 → ∃ v, K0 v ∧ ∀ K : List V → Prop, K v → O K
def Pt (O : (V → Heap → Nat → Prop) → Prop) : Prop := ∀ K0, O K0 → ∃ v H k, K0 v H k ∧ ∀ K : V → Heap → Nat → Prop, K v H k → O K

section
variable {H : Heap} {ti : TI} {x y : V} {T : Tab} {d : D} {f k : Nat} {op : BinOp} {kd : IntKind} {m n : Int}

theorem loadV_pt : Pt1 (loadV H ti x) := by
  intro K0 h
  unfold loadV at h ⊢
  split at h
  · split at h
    · rename_i hn; exact ⟨_, h.2.2, fun K hK => by first | exact ⟨h.1, h.2.1, hK⟩ | (simp only [hn]; exact ⟨h.1, h.2.1, hK⟩)⟩
    · exact h.elim
  · exact ⟨_, h.2, fun K hK => ⟨h.1, hK⟩⟩
  · exact h.elim

theorem storeV_pt : PtH (storeV H ti x y) := by
  intro K0 h
  unfold storeV at h ⊢
  split at h
  · split at h
    · rename_i hn; exact ⟨_, h.2.2.2.2, fun K hK => by first | exact ⟨h.1, h.2.1, h.2.2.1, h.2.2.2.1, hK⟩ | (simp only [hn]; exact ⟨h.1, h.2.1, h.2.2.1, h.2.2.2.1, hK⟩)⟩
    · exact h.elim
  · exact h.elim

theorem indexAddrV_pt : Pt1 (indexAddrV T H d x y) := by
  intro K0 h
  unfold indexAddrV at h ⊢
  split at h
  · split at h
    · split at h
      · rename_i ht
        split at h
        · exact ⟨_, h.2.2, fun K hK => by first | exact ⟨h.1, h.2.1, hK⟩ | (simp only [ht]; exact ⟨h.1, h.2.1, hK⟩)⟩
        · exact ⟨_, h.2.2, fun K hK => by first | exact ⟨h.1, h.2.1, hK⟩ | (simp only [ht]; exact ⟨h.1, h.2.1, hK⟩)⟩
        · exact h.elim
      · exact h.elim
    · split at h
      · rename_i ht
        split at h
        · split at h
          · rename_i hn; exact ⟨_, h.2.2.2, fun K hK => by first | exact ⟨h.1, h.2.1, h.2.2.1, hK⟩ | (simp only [ht, hn]; exact ⟨h.1, h.2.1, h.2.2.1, hK⟩)⟩
          · exact h.elim
        · exact ⟨_, h.2.2.2, fun K hK => by first | exact ⟨h.1, h.2.1, h.2.2.1, hK⟩ | (simp only [ht]; exact ⟨h.1, h.2.1, h.2.2.1, hK⟩)⟩
        · exact h.elim
      · exact h.elim
    · exact h.elim
  · exact h.elim

theorem indexV_pt : Pt1 (indexV T d x y) := by
  intro K0 h
  unfold indexV at h ⊢
  split at h
  · split at h
    · split at h
      · rename_i ht
        split at h
        · exact ⟨_, h.2.2.2, fun K hK => by first | exact ⟨h.1, h.2.1, h.2.2.1, hK⟩ | (simp only [ht]; exact ⟨h.1, h.2.1, h.2.2.1, hK⟩)⟩
        · exact h.elim
      · exact h.elim
    · split at h
      · exact ⟨_, h.2.2, fun K hK => ⟨h.1, h.2.1, hK⟩⟩
      · exact h.elim
    · exact h.elim
  · exact h.elim

theorem fieldAddrV_pt : Pt1 (fieldAddrV T d x f) := by
  intro K0 h
  unfold fieldAddrV at h ⊢
  split at h
  · split at h
    · rename_i hf
      split at h
      · rename_i ht
        split at h
        · exact ⟨_, h.2, fun K hK => by first | exact ⟨h.1, hK⟩ | (simp only [hf, ht]; exact ⟨h.1, hK⟩)⟩
        · exact ⟨_, h.2, fun K hK => by first | exact ⟨h.1, hK⟩ | (simp only [hf, ht]; exact ⟨h.1, hK⟩)⟩
        · exact h.elim
      · exact h.elim
    · exact h.elim
  · exact h.elim

theorem fieldV_pt : Pt1 (fieldV T d x f) := by
  intro K0 h
  unfold fieldV at h ⊢
  split at h
  · split at h
    · rename_i hf
      split at h
      · rename_i ht
        split at h
        · exact ⟨_, h.2, fun K hK => by first | exact ⟨h.1, hK⟩ | (simp only [hf, ht]; exact ⟨h.1, hK⟩)⟩
        · exact h.elim
      · exact h.elim
    · exact h.elim
  · exact h.elim

theorem binIV_pt : Pt1 (binIV op kd m n) := by
  intro K0 h
  unfold binIV at h ⊢
  cases op <;> simp only [] at h ⊢ <;> first | exact ⟨_, h, fun K hK => hK⟩ | exact ⟨_, h.2, fun K hK => ⟨h.1, hK⟩⟩ | exact h.elim

theorem shIV_pt : Pt1 (shIV op kd m n) := by
  intro K0 h
  unfold shIV at h ⊢
  cases op <;> simp only [] at h ⊢ <;> first | exact ⟨_, h.2, fun K hK => ⟨h.1, hK⟩⟩ | exact h.elim

theorem eqV_pt {sp : Option (List EK)} {cs ds : List V} : Pt1 (eqV sp op cs ds) := by
  intro K0 h
  unfold eqV at h ⊢
  split at h
  · split at h
    · rename_i hb
      cases op <;> simp only [] at h ⊢ <;> first | exact ⟨_, h, fun K hK => hK⟩ | exact ⟨_, h, fun K hK => by simp only [hb]; exact hK⟩ | exact h.elim
    · exact h.elim
  · exact h.elim

theorem ptrV_pt {t : TypeId} : Pt1 (ptrV T op t) := by
  intro K0 h
  unfold ptrV at h ⊢
  split at h
  · rename_i ht
    split at h
    · rename_i hd
      cases op <;> simp only [] at h <;> first | exact ⟨_, h, fun K hK => by simp only [ht, hd]; exact hK⟩ | exact h.elim
    · exact h.elim
  · exact h.elim

theorem makeV_pt {ty : TypeId} : Pt (makeV T ty x y k H) := by
  intro K0 h
  unfold makeV at h ⊢
  split at h
  · split at h
    · rename_i ht
      split at h
      · rename_i hd
        split at h
        · rename_i hte
          exact ⟨_, _, _, h.2.2.2.2, fun K hK => by first | exact ⟨h.1, h.2.1, h.2.2.1, h.2.2.2.1, hK⟩ | (simp only [ht, hd, hte]; exact ⟨h.1, h.2.1, h.2.2.1, h.2.2.2.1, hK⟩)⟩
        · exact h.elim
      · exact h.elim
    · exact h.elim
  · exact h.elim

theorem binV_pt {t : TypeId} : Pt1 (binV T op t x y) := by
  intro K0 h
  unfold binV at h ⊢
  split at h
  · split at h
    · rename_i ht
      obtain ⟨v, h1, h2⟩ := eqV_pt _ h.2
      exact ⟨v, h1, fun K hK => by first | exact ⟨h.1, h2 K hK⟩ | (simp only [ht]; exact ⟨h.1, h2 K hK⟩)⟩
    · exact h.elim
  · obtain ⟨v, h1, h2⟩ := ptrV_pt _ h; exact ⟨v, h1, fun K hK => h2 K hK⟩
  · obtain ⟨v, h1, h2⟩ := ptrV_pt _ h; exact ⟨v, h1, fun K hK => h2 K hK⟩
  · split at h
    · rename_i hs
      obtain ⟨v, h1, h2⟩ := shIV_pt K0 h
      exact ⟨v, h1, fun K hK => by first | exact h2 K hK | (simp only [hs, if_true]; exact h2 K hK)⟩
    · rename_i hs
      obtain ⟨v, h1, h2⟩ := binIV_pt K0 h.2
      exact ⟨v, h1, fun K hK => by first | exact ⟨h.1, h2 K hK⟩ | (simp only [hs, if_false]; exact ⟨h.1, h2 K hK⟩)⟩
  · cases op <;> simp only [] at h ⊢ <;> first | exact ⟨_, h, fun K hK => hK⟩ | exact ⟨_, h.2, fun K hK => ⟨h.1, hK⟩⟩ | exact h.elim
  · split at h
    · rename_i ht
      split at h
      · rename_i hd
        cases op <;> simp only [] at h <;> first | exact ⟨_, h, fun K hK => by simp only [ht, hd]; exact hK⟩ | exact h.elim
      · exact h.elim
    · exact h.elim
  · exact h.elim

theorem sliceV_pt {lo hi : Nat → Option Int} : Pt1 (sliceV H ti x lo hi) := by
  intro K0 h
  unfold sliceV at h ⊢
  split at h
  · split at h
    · rename_i h1 h2; exact ⟨_, h.2.2, fun K hK => by first | exact ⟨h.1, h.2.1, hK⟩ | (simp only [h1, h2]; exact ⟨h.1, h.2.1, hK⟩)⟩
    · exact h.elim
  · split at h
    · rename_i hn
      split at h
      · rename_i h1 h2; exact ⟨_, h.2.2.2.2, fun K hK => by first | exact ⟨h.1, h.2.1, h.2.2.1, h.2.2.2.1, hK⟩ | (simp only [hn, h1, h2]; exact ⟨h.1, h.2.1, h.2.2.1, h.2.2.2.1, hK⟩)⟩
      · exact h.elim
    · exact h.elim
  · split at h
    · rename_i h1 h2; exact ⟨_, h.2.2.2.2, fun K hK => by first | exact ⟨h.1, h.2.1, h.2.2.1, h.2.2.2.1, hK⟩ | (simp only [h1, h2]; exact ⟨h.1, h.2.1, h.2.2.1, h.2.2.2.1, hK⟩)⟩
    · exact h.elim
  · exact h.elim

theorem appendV_pt : Pt (appendV H k ti x y) := by
  intro K0 h
  unfold appendV at h ⊢
  split at h
  · rename_i hnw
    split at h
    · exact ⟨_, _, _, h.2.2.2, fun K hK => by first | exact ⟨h.1, h.2.1, h.2.2.1, hK⟩ | (simp only [hnw]; exact ⟨h.1, h.2.1, h.2.2.1, hK⟩)⟩
    · split at h
      · rename_i hn; exact ⟨_, _, _, h.2.2.2.2.2, fun K hK => by first | exact ⟨h.1, h.2.1, h.2.2.1, h.2.2.2.1, h.2.2.2.2.1, hK⟩ | (simp only [hnw, hn]; exact ⟨h.1, h.2.1, h.2.2.1, h.2.2.2.1, h.2.2.2.2.1, hK⟩)⟩
      · exact h.elim
    · exact h.elim
  · exact h.elim

theorem fillP_pt {pl : Nat → Option (Nat × Nat)} : ∀ (ps : List (Nat × V)) (cs : List V), PtL (fillP pl cs ps)
  | [], cs => fun K0 h => ⟨cs, h, fun K hK => hK⟩
  | (i, v) :: r, cs => fun K0 h => by
    simp only [fillP] at h ⊢
    split at h
    · rename_i hp
      obtain ⟨cs', h1, h2⟩ := fillP_pt r _ K0 h.2.2.2
      exact ⟨cs', h1, fun K hK => by first | exact ⟨h.1, h.2.1, h.2.2.1, h2 K hK⟩ | (simp only [hp]; exact ⟨h.1, h.2.1, h.2.2.1, h2 K hK⟩)⟩
    · exact h.elim

theorem opV_pt {P : Program} {t : List (Nat × V)} {op : Op} (hc : isCall op = false) : Pt (opV T P t H k op) := by
  intro K0 h
  unfold opV at h ⊢
  split at h
  · exact ⟨_, _, _, h, fun K hK => hK⟩
  · exact ⟨_, _, _, h, fun K hK => hK⟩
  · split at h
    · rename_i b hb
      cases b with
      | true => exact ⟨_, _, _, (by simpa using h : K0 _ _ _), fun K hK => by first | simpa using hK | (simp only [hb]; simpa using hK)⟩
      | false => exact ⟨_, _, _, (by simpa using h : K0 _ _ _), fun K hK => by first | simpa using hK | (simp only [hb]; simpa using hK)⟩
    · exact h.elim
  · split at h
    · rename_i ht; exact ⟨_, _, _, h.2, fun K hK => by first | exact ⟨h.1, hK⟩ | (simp only [ht]; exact ⟨h.1, hK⟩)⟩
    · exact h.elim
  · split at h
    · rename_i ht; exact ⟨_, _, _, h, fun K hK => by first | exact hK | (simp only [ht]; exact hK)⟩
    · exact h.elim
  · split at h
    · rename_i ht; obtain ⟨v, h1, h2⟩ := loadV_pt _ h; exact ⟨_, _, _, h1, fun K hK => by first | exact h2 _ hK | (simp only [ht]; exact h2 _ hK)⟩
    · exact h.elim
  · split at h
    · rename_i ht; obtain ⟨v, h1, h2⟩ := storeV_pt _ h; exact ⟨_, _, _, h1, fun K hK => by first | exact h2 _ hK | (simp only [ht]; exact h2 _ hK)⟩
    · exact h.elim
  · split at h
    · rename_i ht; obtain ⟨v, h1, h2⟩ := indexAddrV_pt _ h; exact ⟨_, _, _, h1, fun K hK => by first | exact h2 _ hK | (simp only [ht]; exact h2 _ hK)⟩
    · exact h.elim
  · split at h
    · rename_i ht; obtain ⟨v, h1, h2⟩ := indexV_pt _ h; exact ⟨_, _, _, h1, fun K hK => by first | exact h2 _ hK | (simp only [ht]; exact h2 _ hK)⟩
    · exact h.elim
  · split at h
    · rename_i ht; obtain ⟨v, h1, h2⟩ := fieldAddrV_pt _ h; exact ⟨_, _, _, h1, fun K hK => by first | exact h2 _ hK | (simp only [ht]; exact h2 _ hK)⟩
    · exact h.elim
  · split at h
    · rename_i ht; obtain ⟨v, h1, h2⟩ := fieldV_pt _ h; exact ⟨_, _, _, h1, fun K hK => by first | exact h2 _ hK | (simp only [ht]; exact h2 _ hK)⟩
    · exact h.elim
  · split at h
    · rename_i ht; exact ⟨_, _, _, h.2, fun K hK => by first | exact ⟨h.1, hK⟩ | (simp only [ht]; exact ⟨h.1, hK⟩)⟩
    · exact h.elim
  · obtain ⟨v, h1, h2⟩ := binV_pt _ h; exact ⟨_, _, _, h1, fun K hK => h2 _ hK⟩
  · split at h
    · rename_i hx; exact ⟨_, _, _, h, fun K hK => by first | exact hK | (simp only [hx]; exact hK)⟩
    · rename_i hx; exact ⟨_, _, _, h, fun K hK => by first | exact hK | (simp only [hx]; exact hK)⟩
    · rename_i hx; exact ⟨_, _, _, h, fun K hK => by first | exact hK | (simp only [hx]; exact hK)⟩
    · exact h.elim
  · split at h
    · rename_i h1 h2 h3
      split at h
      · rename_i h4 h5; exact ⟨_, _, _, h.2, fun K hK => by first | exact ⟨h.1, hK⟩ | (simp only [h1, h2, h3, h4, h5]; exact ⟨h.1, hK⟩)⟩
      · exact h.elim
    · exact h.elim
  · split at h
    · rename_i ht
      split at h
      · rename_i hd
        obtain ⟨cs, h1, h2⟩ := fillP_pt _ _ _ h.2
        exact ⟨_, _, _, h1, fun K hK => by first | exact ⟨h.1, h2 _ hK⟩ | (simp only [ht, hd]; exact ⟨h.1, h2 _ hK⟩)⟩
      · rename_i hd
        split at h
        · rename_i he
          obtain ⟨cs, h1, h2⟩ := fillP_pt _ _ _ h
          exact ⟨_, _, _, h1, fun K hK => by first | exact h2 _ hK | (simp only [ht, hd, he]; exact h2 _ hK)⟩
        · exact h.elim
      · exact h.elim
    · exact h.elim
  · split at h
    · rename_i ht
      split at h
      · rename_i hd
        split at h
        · rename_i he; exact ⟨_, _, _, h.2.2.2.2, fun K hK => by first | exact ⟨h.1, h.2.1, h.2.2.1, h.2.2.2.1, hK⟩ | (simp only [ht, hd, he]; exact ⟨h.1, h.2.1, h.2.2.1, h.2.2.2.1, hK⟩)⟩
        · exact h.elim
      · exact h.elim
    · exact h.elim
  · split at h
    · rename_i ht
      split at h
      · rename_i hd
        split at h
        · rename_i hx
          split at h
          · rename_i h1 h2; exact ⟨_, _, _, h.2.2.2, fun K hK => by first | exact ⟨h.1, h.2.1, h.2.2.1, hK⟩ | (simp only [ht, hd, hx, h1, h2]; exact ⟨h.1, h.2.1, h.2.2.1, hK⟩)⟩
          · exact h.elim
        · exact h.elim
      · rename_i hd
        split at h
        · rename_i he
          obtain ⟨v, h1, h2⟩ := sliceV_pt _ h
          exact ⟨_, _, _, h1, fun K hK => by first | exact h2 _ hK | (simp only [ht, hd, he]; exact h2 _ hK)⟩
        · exact h.elim
      · exact h.elim
    · exact h.elim
  · exact ⟨_, _, _, h.2, fun K hK => ⟨h.1, hK⟩⟩
  · obtain ⟨v, H', k', h1, h2⟩ := makeV_pt _ h; exact ⟨_, _, _, h1, fun K hK => h2 _ hK⟩
  · exact ⟨_, _, _, h, fun K hK => hK⟩
  · simp [isCall] at hc
  · split at h
    · rename_i h1 h2
      split at h
      · rename_i h3
        split at h
        · rename_i h4; exact ⟨_, _, _, h.2, fun K hK => by first | exact ⟨h.1, hK⟩ | (simp only [h1, h2, h3, h4]; exact ⟨h.1, hK⟩)⟩
        · exact h.elim
      · exact h.elim
    · exact h.elim
  · split at h
    · rename_i h1
      split at h
      · rename_i h2 h3; exact ⟨_, _, _, h, fun K hK => by first | exact hK | (simp only [h1, h2, h3]; exact hK)⟩
      · exact h.elim
    · exact h.elim
  · split at h
    · rename_i h1
      split at h
      · rename_i h2 h3; exact ⟨_, _, _, h, fun K hK => by first | exact hK | (simp only [h1, h2, h3]; exact hK)⟩
      · exact h.elim
    · exact h.elim
  · split at h
    · rename_i h1 h2
      split at h
      · rename_i h3 h4
        split at h
        · rename_i h5 h6
          split at h
          · rename_i h7
            obtain ⟨v, H', k', e1, e2⟩ := appendV_pt _ h
            exact ⟨_, _, _, e1, fun K hK => by first | exact e2 _ hK | (simp only [h1, h2, h3, h4, h5, h6, h7]; exact e2 _ hK)⟩
          · exact h.elim
        · exact h.elim
      · exact h.elim
    · exact h.elim
  · exact h.elim

end
end Go.Sl
