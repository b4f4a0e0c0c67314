/- The seat's types as the logic reads them. -/
import Derived.Test.YtjdaofmhklihiaaSl11
import Derived.Test.YtjdaofmhklihiaaProg
import Derived.KernelRfl
namespace Go.Proofs.Try
open Go.Sl

def Tl : List (Nat × TI) := [
  (1, ⟨.func, 1, 8, [.nilFunc]⟩),
  (2, ⟨.int .i64, 1, 8, [.int .i64 0]⟩),
  (3, ⟨.int .i64, 1, 8, [.int .i64 0]⟩),
  (4, ⟨.bool, 1, 1, [.bool false]⟩),
  (5, ⟨.int .u8, 1, 1, [.int .u8 0]⟩),
  (6, ⟨.int .u8, 1, 1, [.int .u8 0]⟩),
  (9, ⟨.string, 1, 16, [.string ⟨#[]⟩]⟩),
  (10, ⟨.string, 1, 16, [.string ⟨#[]⟩]⟩),
  (11, ⟨.string, 1, 16, [.string ⟨#[]⟩]⟩),
  (12, ⟨.int .u64, 1, 8, [.int .u64 0]⟩),
  (15, ⟨.pointer 62, 1, 8, [.pointer none]⟩),
  (16, ⟨.pointer 65, 1, 8, [.pointer none]⟩),
  (17, ⟨.pointer 74, 1, 8, [.pointer none]⟩),
  (21, ⟨.int .i32, 1, 4, [.int .i32 0]⟩),
  (22, ⟨.int .u16, 1, 2, [.int .u16 0]⟩),
  (23, ⟨.array 16 22, 16, 32, [.int .u16 0, .int .u16 0, .int .u16 0, .int .u16 0, .int .u16 0, .int .u16 0, .int .u16 0, .int .u16 0, .int .u16 0, .int .u16 0, .int .u16 0, .int .u16 0, .int .u16 0, .int .u16 0, .int .u16 0, .int .u16 0]⟩),
  (24, ⟨.array 16 22, 16, 32, [.int .u16 0, .int .u16 0, .int .u16 0, .int .u16 0, .int .u16 0, .int .u16 0, .int .u16 0, .int .u16 0, .int .u16 0, .int .u16 0, .int .u16 0, .int .u16 0, .int .u16 0, .int .u16 0, .int .u16 0, .int .u16 0]⟩),
  (25, ⟨.slice 3, 1, 24, [.slice none 0 0]⟩),
  (33, ⟨.slice 56, 1, 24, [.slice none 0 0]⟩),
  (34, ⟨.slice 40, 1, 24, [.slice none 0 0]⟩),
  (39, ⟨.struct [(3, 0, 1), (3, 1, 1)], 2, 16, [.int .i64 0, .int .i64 0]⟩),
  (40, ⟨.struct [(3, 0, 1), (3, 1, 1)], 2, 16, [.int .i64 0, .int .i64 0]⟩),
  (56, ⟨.array 2 3, 2, 16, [.int .i64 0, .int .i64 0]⟩),
  (59, ⟨.int .u64, 1, 8, [.int .u64 0]⟩),
  (63, ⟨.array 0 16, 0, 0, []⟩),
  (66, ⟨.int .u32, 1, 4, [.int .u32 0]⟩),
  (67, ⟨.int .u8, 1, 1, [.int .u8 0]⟩),
  (68, ⟨.int .u8, 1, 1, [.int .u8 0]⟩),
  (69, ⟨.func, 1, 8, [.nilFunc]⟩),
  (70, ⟨.pointer 5, 1, 8, [.pointer none]⟩),
  (71, ⟨.int .i32, 1, 4, [.int .i32 0]⟩),
  (72, ⟨.int .i32, 1, 4, [.int .i32 0]⟩)]

def T : Tab := fun t => Tl.lookup t

@[go_sem] theorem T_1 : T 1 = some ⟨.func, 1, 8, [.nilFunc]⟩ := by rfl
@[go_sem] theorem T_2 : T 2 = some ⟨.int .i64, 1, 8, [.int .i64 0]⟩ := by rfl
@[go_sem] theorem T_3 : T 3 = some ⟨.int .i64, 1, 8, [.int .i64 0]⟩ := by rfl
@[go_sem] theorem T_4 : T 4 = some ⟨.bool, 1, 1, [.bool false]⟩ := by rfl
@[go_sem] theorem T_5 : T 5 = some ⟨.int .u8, 1, 1, [.int .u8 0]⟩ := by rfl
@[go_sem] theorem T_6 : T 6 = some ⟨.int .u8, 1, 1, [.int .u8 0]⟩ := by rfl
@[go_sem] theorem T_9 : T 9 = some ⟨.string, 1, 16, [.string ⟨#[]⟩]⟩ := by rfl
@[go_sem] theorem T_10 : T 10 = some ⟨.string, 1, 16, [.string ⟨#[]⟩]⟩ := by rfl
@[go_sem] theorem T_11 : T 11 = some ⟨.string, 1, 16, [.string ⟨#[]⟩]⟩ := by rfl
@[go_sem] theorem T_12 : T 12 = some ⟨.int .u64, 1, 8, [.int .u64 0]⟩ := by rfl
@[go_sem] theorem T_15 : T 15 = some ⟨.pointer 62, 1, 8, [.pointer none]⟩ := by rfl
@[go_sem] theorem T_16 : T 16 = some ⟨.pointer 65, 1, 8, [.pointer none]⟩ := by rfl
@[go_sem] theorem T_17 : T 17 = some ⟨.pointer 74, 1, 8, [.pointer none]⟩ := by rfl
@[go_sem] theorem T_21 : T 21 = some ⟨.int .i32, 1, 4, [.int .i32 0]⟩ := by rfl
@[go_sem] theorem T_22 : T 22 = some ⟨.int .u16, 1, 2, [.int .u16 0]⟩ := by rfl
@[go_sem] theorem T_23 : T 23 = some ⟨.array 16 22, 16, 32, [.int .u16 0, .int .u16 0, .int .u16 0, .int .u16 0, .int .u16 0, .int .u16 0, .int .u16 0, .int .u16 0, .int .u16 0, .int .u16 0, .int .u16 0, .int .u16 0, .int .u16 0, .int .u16 0, .int .u16 0, .int .u16 0]⟩ := by rfl
@[go_sem] theorem T_24 : T 24 = some ⟨.array 16 22, 16, 32, [.int .u16 0, .int .u16 0, .int .u16 0, .int .u16 0, .int .u16 0, .int .u16 0, .int .u16 0, .int .u16 0, .int .u16 0, .int .u16 0, .int .u16 0, .int .u16 0, .int .u16 0, .int .u16 0, .int .u16 0, .int .u16 0]⟩ := by rfl
@[go_sem] theorem T_25 : T 25 = some ⟨.slice 3, 1, 24, [.slice none 0 0]⟩ := by rfl
@[go_sem] theorem T_33 : T 33 = some ⟨.slice 56, 1, 24, [.slice none 0 0]⟩ := by rfl
@[go_sem] theorem T_34 : T 34 = some ⟨.slice 40, 1, 24, [.slice none 0 0]⟩ := by rfl
@[go_sem] theorem T_39 : T 39 = some ⟨.struct [(3, 0, 1), (3, 1, 1)], 2, 16, [.int .i64 0, .int .i64 0]⟩ := by rfl
@[go_sem] theorem T_40 : T 40 = some ⟨.struct [(3, 0, 1), (3, 1, 1)], 2, 16, [.int .i64 0, .int .i64 0]⟩ := by rfl
@[go_sem] theorem T_56 : T 56 = some ⟨.array 2 3, 2, 16, [.int .i64 0, .int .i64 0]⟩ := by rfl
@[go_sem] theorem T_59 : T 59 = some ⟨.int .u64, 1, 8, [.int .u64 0]⟩ := by rfl
@[go_sem] theorem T_63 : T 63 = some ⟨.array 0 16, 0, 0, []⟩ := by rfl
@[go_sem] theorem T_66 : T 66 = some ⟨.int .u32, 1, 4, [.int .u32 0]⟩ := by rfl
@[go_sem] theorem T_67 : T 67 = some ⟨.int .u8, 1, 1, [.int .u8 0]⟩ := by rfl
@[go_sem] theorem T_68 : T 68 = some ⟨.int .u8, 1, 1, [.int .u8 0]⟩ := by rfl
@[go_sem] theorem T_69 : T 69 = some ⟨.func, 1, 8, [.nilFunc]⟩ := by rfl
@[go_sem] theorem T_70 : T 70 = some ⟨.pointer 5, 1, 8, [.pointer none]⟩ := by rfl
@[go_sem] theorem T_71 : T 71 = some ⟨.int .i32, 1, 4, [.int .i32 0]⟩ := by rfl
@[go_sem] theorem T_72 : T 72 = some ⟨.int .i32, 1, 4, [.int .i32 0]⟩ := by rfl

theorem Ti_1 : tiOf Try.prog 1 = some ⟨.func, 1, 8, [.nilFunc]⟩ := by kernel_rfl
theorem Ti_2 : tiOf Try.prog 2 = some ⟨.int .i64, 1, 8, [.int .i64 0]⟩ := by kernel_rfl
theorem Ti_3 : tiOf Try.prog 3 = some ⟨.int .i64, 1, 8, [.int .i64 0]⟩ := by kernel_rfl
theorem Ti_4 : tiOf Try.prog 4 = some ⟨.bool, 1, 1, [.bool false]⟩ := by kernel_rfl
theorem Ti_5 : tiOf Try.prog 5 = some ⟨.int .u8, 1, 1, [.int .u8 0]⟩ := by kernel_rfl
theorem Ti_6 : tiOf Try.prog 6 = some ⟨.int .u8, 1, 1, [.int .u8 0]⟩ := by kernel_rfl
theorem Ti_9 : tiOf Try.prog 9 = some ⟨.string, 1, 16, [.string ⟨#[]⟩]⟩ := by kernel_rfl
theorem Ti_10 : tiOf Try.prog 10 = some ⟨.string, 1, 16, [.string ⟨#[]⟩]⟩ := by kernel_rfl
theorem Ti_11 : tiOf Try.prog 11 = some ⟨.string, 1, 16, [.string ⟨#[]⟩]⟩ := by kernel_rfl
theorem Ti_12 : tiOf Try.prog 12 = some ⟨.int .u64, 1, 8, [.int .u64 0]⟩ := by kernel_rfl
theorem Ti_15 : tiOf Try.prog 15 = some ⟨.pointer 62, 1, 8, [.pointer none]⟩ := by kernel_rfl
theorem Ti_16 : tiOf Try.prog 16 = some ⟨.pointer 65, 1, 8, [.pointer none]⟩ := by kernel_rfl
theorem Ti_17 : tiOf Try.prog 17 = some ⟨.pointer 74, 1, 8, [.pointer none]⟩ := by kernel_rfl
theorem Ti_21 : tiOf Try.prog 21 = some ⟨.int .i32, 1, 4, [.int .i32 0]⟩ := by kernel_rfl
theorem Ti_22 : tiOf Try.prog 22 = some ⟨.int .u16, 1, 2, [.int .u16 0]⟩ := by kernel_rfl
theorem Ti_23 : tiOf Try.prog 23 = some ⟨.array 16 22, 16, 32, [.int .u16 0, .int .u16 0, .int .u16 0, .int .u16 0, .int .u16 0, .int .u16 0, .int .u16 0, .int .u16 0, .int .u16 0, .int .u16 0, .int .u16 0, .int .u16 0, .int .u16 0, .int .u16 0, .int .u16 0, .int .u16 0]⟩ := by kernel_rfl
theorem Ti_24 : tiOf Try.prog 24 = some ⟨.array 16 22, 16, 32, [.int .u16 0, .int .u16 0, .int .u16 0, .int .u16 0, .int .u16 0, .int .u16 0, .int .u16 0, .int .u16 0, .int .u16 0, .int .u16 0, .int .u16 0, .int .u16 0, .int .u16 0, .int .u16 0, .int .u16 0, .int .u16 0]⟩ := by kernel_rfl
theorem Ti_25 : tiOf Try.prog 25 = some ⟨.slice 3, 1, 24, [.slice none 0 0]⟩ := by kernel_rfl
theorem Ti_33 : tiOf Try.prog 33 = some ⟨.slice 56, 1, 24, [.slice none 0 0]⟩ := by kernel_rfl
theorem Ti_34 : tiOf Try.prog 34 = some ⟨.slice 40, 1, 24, [.slice none 0 0]⟩ := by kernel_rfl
theorem Ti_39 : tiOf Try.prog 39 = some ⟨.struct [(3, 0, 1), (3, 1, 1)], 2, 16, [.int .i64 0, .int .i64 0]⟩ := by kernel_rfl
theorem Ti_40 : tiOf Try.prog 40 = some ⟨.struct [(3, 0, 1), (3, 1, 1)], 2, 16, [.int .i64 0, .int .i64 0]⟩ := by kernel_rfl
theorem Ti_56 : tiOf Try.prog 56 = some ⟨.array 2 3, 2, 16, [.int .i64 0, .int .i64 0]⟩ := by kernel_rfl
theorem Ti_59 : tiOf Try.prog 59 = some ⟨.int .u64, 1, 8, [.int .u64 0]⟩ := by kernel_rfl
theorem Ti_63 : tiOf Try.prog 63 = some ⟨.array 0 16, 0, 0, []⟩ := by kernel_rfl
theorem Ti_66 : tiOf Try.prog 66 = some ⟨.int .u32, 1, 4, [.int .u32 0]⟩ := by kernel_rfl
theorem Ti_67 : tiOf Try.prog 67 = some ⟨.int .u8, 1, 1, [.int .u8 0]⟩ := by kernel_rfl
theorem Ti_68 : tiOf Try.prog 68 = some ⟨.int .u8, 1, 1, [.int .u8 0]⟩ := by kernel_rfl
theorem Ti_69 : tiOf Try.prog 69 = some ⟨.func, 1, 8, [.nilFunc]⟩ := by kernel_rfl
theorem Ti_70 : tiOf Try.prog 70 = some ⟨.pointer 5, 1, 8, [.pointer none]⟩ := by kernel_rfl
theorem Ti_71 : tiOf Try.prog 71 = some ⟨.int .i32, 1, 4, [.int .i32 0]⟩ := by kernel_rfl
theorem Ti_72 : tiOf Try.prog 72 = some ⟨.int .i32, 1, 4, [.int .i32 0]⟩ := by kernel_rfl

theorem mem_lookup {t : Nat} {ti : TI} : ∀ {l : List (Nat × TI)}, l.lookup t = some ti → (t, ti) ∈ l
  | [], h => by simp at h
  | (s, x) :: r, h => by
    rw [List.lookup_cons] at h
    split at h
    · rename_i e
      cases h
      rw [eq_of_beq e]; simp
    · exact List.mem_cons_of_mem _ (mem_lookup h)

theorem all_cons {Q : Nat × TI → Prop} {x : Nat × TI} {l : List (Nat × TI)} (h : Q x) (hs : ∀ p ∈ l, Q p) : ∀ p ∈ x :: l, Q p := fun p hp => by
  rcases List.mem_cons.1 hp with rfl | hp
  · exact h
  · exact hs p hp
theorem all_nil {Q : Nat × TI → Prop} : ∀ p ∈ ([] : List (Nat × TI)), Q p := fun p hp => by simp at hp

set_option maxRecDepth 100000 in
theorem Tl_ok : ∀ p ∈ Tl, tiOf Try.prog p.1 = some p.2 :=
  all_cons Ti_1 <| all_cons Ti_2 <| all_cons Ti_3 <| all_cons Ti_4 <| all_cons Ti_5 <| all_cons Ti_6 <| all_cons Ti_9 <| all_cons Ti_10 <| all_cons Ti_11 <| all_cons Ti_12 <| all_cons Ti_15 <| all_cons Ti_16 <| all_cons Ti_17 <| all_cons Ti_21 <| all_cons Ti_22 <| all_cons Ti_23 <| all_cons Ti_24 <| all_cons Ti_25 <| all_cons Ti_33 <| all_cons Ti_34 <| all_cons Ti_39 <| all_cons Ti_40 <| all_cons Ti_56 <| all_cons Ti_59 <| all_cons Ti_63 <| all_cons Ti_66 <| all_cons Ti_67 <| all_cons Ti_68 <| all_cons Ti_69 <| all_cons Ti_70 <| all_cons Ti_71 <| all_cons Ti_72 <| all_nil 

theorem T_ok : TabOk Try.prog T := fun t ti h => Tl_ok (t, ti) (mem_lookup h)
end Go.Proofs.Try
