/- The seat's types as the logic reads them. -/
import Derived.Test.YtbocpjogbjacaaaSl11
import Derived.Test.YtbocpjogbjacaaaProg
import Derived.KernelRfl
namespace Go.Proofs.Try
open Go.Sl

def Tl : List (Nat × TI) := [
  (1, ⟨.func, 1, 8, [.nilFunc]⟩),
  (2, ⟨.int .i64, 1, 8, [.int .i64 0]⟩),
  (3, ⟨.int .i64, 1, 8, [.int .i64 0]⟩),
  (4, ⟨.bool, 1, 1, [.bool false]⟩),
  (5, ⟨.int .u8, 1, 1, [.int .u8 0]⟩),
  (6, ⟨.int .u8, 1, 1, [.int .u8 0]⟩),
  (9, ⟨.string, 1, 16, [.string ⟨#[]⟩]⟩),
  (10, ⟨.string, 1, 16, [.string ⟨#[]⟩]⟩),
  (11, ⟨.string, 1, 16, [.string ⟨#[]⟩]⟩),
  (12, ⟨.int .u64, 1, 8, [.int .u64 0]⟩),
  (15, ⟨.pointer 60, 1, 8, [.pointer none]⟩),
  (16, ⟨.pointer 63, 1, 8, [.pointer none]⟩),
  (17, ⟨.pointer 72, 1, 8, [.pointer none]⟩),
  (21, ⟨.int .i32, 1, 4, [.int .i32 0]⟩),
  (22, ⟨.slice 41, 1, 24, [.slice none 0 0]⟩),
  (23, ⟨.slice 31, 1, 24, [.slice none 0 0]⟩),
  (24, ⟨.slice 49, 1, 24, [.slice none 0 0]⟩),
  (25, ⟨.struct [(22, 0, 1), (23, 1, 1), (24, 2, 1)], 3, 72, [.slice none 0 0, .slice none 0 0, .slice none 0 0]⟩),
  (26, ⟨.struct [(22, 0, 1), (23, 1, 1), (24, 2, 1)], 3, 72, [.slice none 0 0, .slice none 0 0, .slice none 0 0]⟩),
  (29, ⟨.int .i64, 1, 8, [.int .i64 0]⟩),
  (31, ⟨.slice 36, 1, 24, [.slice none 0 0]⟩),
  (32, ⟨.int .u64, 1, 8, [.int .u64 0]⟩),
  (33, ⟨.struct [(4, 0, 1), (32, 1, 1)], 2, 16, [.bool false, .int .u64 0]⟩),
  (34, ⟨.struct [(4, 0, 1), (32, 1, 1)], 2, 16, [.bool false, .int .u64 0]⟩),
  (35, ⟨.struct [(3, 0, 1), (3, 1, 1), (3, 2, 1), (34, 3, 2), (34, 5, 2), (4, 7, 1), (4, 8, 1), (3, 9, 1), (3, 10, 1), (3, 11, 1), (3, 12, 1)], 13, 96, [.int .i64 0, .int .i64 0, .int .i64 0, .bool false, .int .u64 0, .bool false, .int .u64 0, .bool false, .bool false, .int .i64 0, .int .i64 0, .int .i64 0, .int .i64 0]⟩),
  (36, ⟨.struct [(3, 0, 1), (3, 1, 1), (3, 2, 1), (34, 3, 2), (34, 5, 2), (4, 7, 1), (4, 8, 1), (3, 9, 1), (3, 10, 1), (3, 11, 1), (3, 12, 1)], 13, 96, [.int .i64 0, .int .i64 0, .int .i64 0, .bool false, .int .u64 0, .bool false, .int .u64 0, .bool false, .bool false, .int .i64 0, .int .i64 0, .int .i64 0, .int .i64 0]⟩),
  (40, ⟨.struct [(9, 0, 1), (32, 1, 1)], 2, 24, [.string ⟨#[]⟩, .int .u64 0]⟩),
  (41, ⟨.struct [(9, 0, 1), (32, 1, 1)], 2, 24, [.string ⟨#[]⟩, .int .u64 0]⟩),
  (43, ⟨.slice 3, 1, 24, [.slice none 0 0]⟩),
  (45, ⟨.pointer 26, 1, 8, [.pointer none]⟩),
  (48, ⟨.struct [(3, 0, 1), (3, 1, 1), (32, 2, 1)], 3, 24, [.int .i64 0, .int .i64 0, .int .u64 0]⟩),
  (49, ⟨.struct [(3, 0, 1), (3, 1, 1), (32, 2, 1)], 3, 24, [.int .i64 0, .int .i64 0, .int .u64 0]⟩),
  (52, ⟨.struct [(4, 0, 1), (4, 1, 1)], 2, 2, [.bool false, .bool false]⟩),
  (53, ⟨.struct [(4, 0, 1), (4, 1, 1)], 2, 2, [.bool false, .bool false]⟩),
  (55, ⟨.array 8 4, 8, 8, [.bool false, .bool false, .bool false, .bool false, .bool false, .bool false, .bool false, .bool false]⟩),
  (61, ⟨.array 0 16, 0, 0, []⟩),
  (64, ⟨.int .u32, 1, 4, [.int .u32 0]⟩),
  (65, ⟨.int .u8, 1, 1, [.int .u8 0]⟩),
  (66, ⟨.int .u8, 1, 1, [.int .u8 0]⟩),
  (67, ⟨.func, 1, 8, [.nilFunc]⟩),
  (68, ⟨.pointer 5, 1, 8, [.pointer none]⟩),
  (69, ⟨.int .i32, 1, 4, [.int .i32 0]⟩),
  (70, ⟨.int .i32, 1, 4, [.int .i32 0]⟩)]

def T : Tab := fun t => Tl.lookup t

@[go_sem] theorem T_1 : T 1 = some ⟨.func, 1, 8, [.nilFunc]⟩ := by rfl
@[go_sem] theorem T_2 : T 2 = some ⟨.int .i64, 1, 8, [.int .i64 0]⟩ := by rfl
@[go_sem] theorem T_3 : T 3 = some ⟨.int .i64, 1, 8, [.int .i64 0]⟩ := by rfl
@[go_sem] theorem T_4 : T 4 = some ⟨.bool, 1, 1, [.bool false]⟩ := by rfl
@[go_sem] theorem T_5 : T 5 = some ⟨.int .u8, 1, 1, [.int .u8 0]⟩ := by rfl
@[go_sem] theorem T_6 : T 6 = some ⟨.int .u8, 1, 1, [.int .u8 0]⟩ := by rfl
@[go_sem] theorem T_9 : T 9 = some ⟨.string, 1, 16, [.string ⟨#[]⟩]⟩ := by rfl
@[go_sem] theorem T_10 : T 10 = some ⟨.string, 1, 16, [.string ⟨#[]⟩]⟩ := by rfl
@[go_sem] theorem T_11 : T 11 = some ⟨.string, 1, 16, [.string ⟨#[]⟩]⟩ := by rfl
@[go_sem] theorem T_12 : T 12 = some ⟨.int .u64, 1, 8, [.int .u64 0]⟩ := by rfl
@[go_sem] theorem T_15 : T 15 = some ⟨.pointer 60, 1, 8, [.pointer none]⟩ := by rfl
@[go_sem] theorem T_16 : T 16 = some ⟨.pointer 63, 1, 8, [.pointer none]⟩ := by rfl
@[go_sem] theorem T_17 : T 17 = some ⟨.pointer 72, 1, 8, [.pointer none]⟩ := by rfl
@[go_sem] theorem T_21 : T 21 = some ⟨.int .i32, 1, 4, [.int .i32 0]⟩ := by rfl
@[go_sem] theorem T_22 : T 22 = some ⟨.slice 41, 1, 24, [.slice none 0 0]⟩ := by rfl
@[go_sem] theorem T_23 : T 23 = some ⟨.slice 31, 1, 24, [.slice none 0 0]⟩ := by rfl
@[go_sem] theorem T_24 : T 24 = some ⟨.slice 49, 1, 24, [.slice none 0 0]⟩ := by rfl
@[go_sem] theorem T_25 : T 25 = some ⟨.struct [(22, 0, 1), (23, 1, 1), (24, 2, 1)], 3, 72, [.slice none 0 0, .slice none 0 0, .slice none 0 0]⟩ := by rfl
@[go_sem] theorem T_26 : T 26 = some ⟨.struct [(22, 0, 1), (23, 1, 1), (24, 2, 1)], 3, 72, [.slice none 0 0, .slice none 0 0, .slice none 0 0]⟩ := by rfl
@[go_sem] theorem T_29 : T 29 = some ⟨.int .i64, 1, 8, [.int .i64 0]⟩ := by rfl
@[go_sem] theorem T_31 : T 31 = some ⟨.slice 36, 1, 24, [.slice none 0 0]⟩ := by rfl
@[go_sem] theorem T_32 : T 32 = some ⟨.int .u64, 1, 8, [.int .u64 0]⟩ := by rfl
@[go_sem] theorem T_33 : T 33 = some ⟨.struct [(4, 0, 1), (32, 1, 1)], 2, 16, [.bool false, .int .u64 0]⟩ := by rfl
@[go_sem] theorem T_34 : T 34 = some ⟨.struct [(4, 0, 1), (32, 1, 1)], 2, 16, [.bool false, .int .u64 0]⟩ := by rfl
@[go_sem] theorem T_35 : T 35 = some ⟨.struct [(3, 0, 1), (3, 1, 1), (3, 2, 1), (34, 3, 2), (34, 5, 2), (4, 7, 1), (4, 8, 1), (3, 9, 1), (3, 10, 1), (3, 11, 1), (3, 12, 1)], 13, 96, [.int .i64 0, .int .i64 0, .int .i64 0, .bool false, .int .u64 0, .bool false, .int .u64 0, .bool false, .bool false, .int .i64 0, .int .i64 0, .int .i64 0, .int .i64 0]⟩ := by rfl
@[go_sem] theorem T_36 : T 36 = some ⟨.struct [(3, 0, 1), (3, 1, 1), (3, 2, 1), (34, 3, 2), (34, 5, 2), (4, 7, 1), (4, 8, 1), (3, 9, 1), (3, 10, 1), (3, 11, 1), (3, 12, 1)], 13, 96, [.int .i64 0, .int .i64 0, .int .i64 0, .bool false, .int .u64 0, .bool false, .int .u64 0, .bool false, .bool false, .int .i64 0, .int .i64 0, .int .i64 0, .int .i64 0]⟩ := by rfl
@[go_sem] theorem T_40 : T 40 = some ⟨.struct [(9, 0, 1), (32, 1, 1)], 2, 24, [.string ⟨#[]⟩, .int .u64 0]⟩ := by rfl
@[go_sem] theorem T_41 : T 41 = some ⟨.struct [(9, 0, 1), (32, 1, 1)], 2, 24, [.string ⟨#[]⟩, .int .u64 0]⟩ := by rfl
@[go_sem] theorem T_43 : T 43 = some ⟨.slice 3, 1, 24, [.slice none 0 0]⟩ := by rfl
@[go_sem] theorem T_45 : T 45 = some ⟨.pointer 26, 1, 8, [.pointer none]⟩ := by rfl
@[go_sem] theorem T_48 : T 48 = some ⟨.struct [(3, 0, 1), (3, 1, 1), (32, 2, 1)], 3, 24, [.int .i64 0, .int .i64 0, .int .u64 0]⟩ := by rfl
@[go_sem] theorem T_49 : T 49 = some ⟨.struct [(3, 0, 1), (3, 1, 1), (32, 2, 1)], 3, 24, [.int .i64 0, .int .i64 0, .int .u64 0]⟩ := by rfl
@[go_sem] theorem T_52 : T 52 = some ⟨.struct [(4, 0, 1), (4, 1, 1)], 2, 2, [.bool false, .bool false]⟩ := by rfl
@[go_sem] theorem T_53 : T 53 = some ⟨.struct [(4, 0, 1), (4, 1, 1)], 2, 2, [.bool false, .bool false]⟩ := by rfl
@[go_sem] theorem T_55 : T 55 = some ⟨.array 8 4, 8, 8, [.bool false, .bool false, .bool false, .bool false, .bool false, .bool false, .bool false, .bool false]⟩ := by rfl
@[go_sem] theorem T_61 : T 61 = some ⟨.array 0 16, 0, 0, []⟩ := by rfl
@[go_sem] theorem T_64 : T 64 = some ⟨.int .u32, 1, 4, [.int .u32 0]⟩ := by rfl
@[go_sem] theorem T_65 : T 65 = some ⟨.int .u8, 1, 1, [.int .u8 0]⟩ := by rfl
@[go_sem] theorem T_66 : T 66 = some ⟨.int .u8, 1, 1, [.int .u8 0]⟩ := by rfl
@[go_sem] theorem T_67 : T 67 = some ⟨.func, 1, 8, [.nilFunc]⟩ := by rfl
@[go_sem] theorem T_68 : T 68 = some ⟨.pointer 5, 1, 8, [.pointer none]⟩ := by rfl
@[go_sem] theorem T_69 : T 69 = some ⟨.int .i32, 1, 4, [.int .i32 0]⟩ := by rfl
@[go_sem] theorem T_70 : T 70 = some ⟨.int .i32, 1, 4, [.int .i32 0]⟩ := by rfl

theorem Ti_1 : tiOf Try.prog 1 = some ⟨.func, 1, 8, [.nilFunc]⟩ := by kernel_rfl
theorem Ti_2 : tiOf Try.prog 2 = some ⟨.int .i64, 1, 8, [.int .i64 0]⟩ := by kernel_rfl
theorem Ti_3 : tiOf Try.prog 3 = some ⟨.int .i64, 1, 8, [.int .i64 0]⟩ := by kernel_rfl
theorem Ti_4 : tiOf Try.prog 4 = some ⟨.bool, 1, 1, [.bool false]⟩ := by kernel_rfl
theorem Ti_5 : tiOf Try.prog 5 = some ⟨.int .u8, 1, 1, [.int .u8 0]⟩ := by kernel_rfl
theorem Ti_6 : tiOf Try.prog 6 = some ⟨.int .u8, 1, 1, [.int .u8 0]⟩ := by kernel_rfl
theorem Ti_9 : tiOf Try.prog 9 = some ⟨.string, 1, 16, [.string ⟨#[]⟩]⟩ := by kernel_rfl
theorem Ti_10 : tiOf Try.prog 10 = some ⟨.string, 1, 16, [.string ⟨#[]⟩]⟩ := by kernel_rfl
theorem Ti_11 : tiOf Try.prog 11 = some ⟨.string, 1, 16, [.string ⟨#[]⟩]⟩ := by kernel_rfl
theorem Ti_12 : tiOf Try.prog 12 = some ⟨.int .u64, 1, 8, [.int .u64 0]⟩ := by kernel_rfl
theorem Ti_15 : tiOf Try.prog 15 = some ⟨.pointer 60, 1, 8, [.pointer none]⟩ := by kernel_rfl
theorem Ti_16 : tiOf Try.prog 16 = some ⟨.pointer 63, 1, 8, [.pointer none]⟩ := by kernel_rfl
theorem Ti_17 : tiOf Try.prog 17 = some ⟨.pointer 72, 1, 8, [.pointer none]⟩ := by kernel_rfl
theorem Ti_21 : tiOf Try.prog 21 = some ⟨.int .i32, 1, 4, [.int .i32 0]⟩ := by kernel_rfl
theorem Ti_22 : tiOf Try.prog 22 = some ⟨.slice 41, 1, 24, [.slice none 0 0]⟩ := by kernel_rfl
theorem Ti_23 : tiOf Try.prog 23 = some ⟨.slice 31, 1, 24, [.slice none 0 0]⟩ := by kernel_rfl
theorem Ti_24 : tiOf Try.prog 24 = some ⟨.slice 49, 1, 24, [.slice none 0 0]⟩ := by kernel_rfl
theorem Ti_25 : tiOf Try.prog 25 = some ⟨.struct [(22, 0, 1), (23, 1, 1), (24, 2, 1)], 3, 72, [.slice none 0 0, .slice none 0 0, .slice none 0 0]⟩ := by kernel_rfl
theorem Ti_26 : tiOf Try.prog 26 = some ⟨.struct [(22, 0, 1), (23, 1, 1), (24, 2, 1)], 3, 72, [.slice none 0 0, .slice none 0 0, .slice none 0 0]⟩ := by kernel_rfl
theorem Ti_29 : tiOf Try.prog 29 = some ⟨.int .i64, 1, 8, [.int .i64 0]⟩ := by kernel_rfl
theorem Ti_31 : tiOf Try.prog 31 = some ⟨.slice 36, 1, 24, [.slice none 0 0]⟩ := by kernel_rfl
theorem Ti_32 : tiOf Try.prog 32 = some ⟨.int .u64, 1, 8, [.int .u64 0]⟩ := by kernel_rfl
theorem Ti_33 : tiOf Try.prog 33 = some ⟨.struct [(4, 0, 1), (32, 1, 1)], 2, 16, [.bool false, .int .u64 0]⟩ := by kernel_rfl
theorem Ti_34 : tiOf Try.prog 34 = some ⟨.struct [(4, 0, 1), (32, 1, 1)], 2, 16, [.bool false, .int .u64 0]⟩ := by kernel_rfl
theorem Ti_35 : tiOf Try.prog 35 = some ⟨.struct [(3, 0, 1), (3, 1, 1), (3, 2, 1), (34, 3, 2), (34, 5, 2), (4, 7, 1), (4, 8, 1), (3, 9, 1), (3, 10, 1), (3, 11, 1), (3, 12, 1)], 13, 96, [.int .i64 0, .int .i64 0, .int .i64 0, .bool false, .int .u64 0, .bool false, .int .u64 0, .bool false, .bool false, .int .i64 0, .int .i64 0, .int .i64 0, .int .i64 0]⟩ := by kernel_rfl
theorem Ti_36 : tiOf Try.prog 36 = some ⟨.struct [(3, 0, 1), (3, 1, 1), (3, 2, 1), (34, 3, 2), (34, 5, 2), (4, 7, 1), (4, 8, 1), (3, 9, 1), (3, 10, 1), (3, 11, 1), (3, 12, 1)], 13, 96, [.int .i64 0, .int .i64 0, .int .i64 0, .bool false, .int .u64 0, .bool false, .int .u64 0, .bool false, .bool false, .int .i64 0, .int .i64 0, .int .i64 0, .int .i64 0]⟩ := by kernel_rfl
theorem Ti_40 : tiOf Try.prog 40 = some ⟨.struct [(9, 0, 1), (32, 1, 1)], 2, 24, [.string ⟨#[]⟩, .int .u64 0]⟩ := by kernel_rfl
theorem Ti_41 : tiOf Try.prog 41 = some ⟨.struct [(9, 0, 1), (32, 1, 1)], 2, 24, [.string ⟨#[]⟩, .int .u64 0]⟩ := by kernel_rfl
theorem Ti_43 : tiOf Try.prog 43 = some ⟨.slice 3, 1, 24, [.slice none 0 0]⟩ := by kernel_rfl
theorem Ti_45 : tiOf Try.prog 45 = some ⟨.pointer 26, 1, 8, [.pointer none]⟩ := by kernel_rfl
theorem Ti_48 : tiOf Try.prog 48 = some ⟨.struct [(3, 0, 1), (3, 1, 1), (32, 2, 1)], 3, 24, [.int .i64 0, .int .i64 0, .int .u64 0]⟩ := by kernel_rfl
theorem Ti_49 : tiOf Try.prog 49 = some ⟨.struct [(3, 0, 1), (3, 1, 1), (32, 2, 1)], 3, 24, [.int .i64 0, .int .i64 0, .int .u64 0]⟩ := by kernel_rfl
theorem Ti_52 : tiOf Try.prog 52 = some ⟨.struct [(4, 0, 1), (4, 1, 1)], 2, 2, [.bool false, .bool false]⟩ := by kernel_rfl
theorem Ti_53 : tiOf Try.prog 53 = some ⟨.struct [(4, 0, 1), (4, 1, 1)], 2, 2, [.bool false, .bool false]⟩ := by kernel_rfl
theorem Ti_55 : tiOf Try.prog 55 = some ⟨.array 8 4, 8, 8, [.bool false, .bool false, .bool false, .bool false, .bool false, .bool false, .bool false, .bool false]⟩ := by kernel_rfl
theorem Ti_61 : tiOf Try.prog 61 = some ⟨.array 0 16, 0, 0, []⟩ := by kernel_rfl
theorem Ti_64 : tiOf Try.prog 64 = some ⟨.int .u32, 1, 4, [.int .u32 0]⟩ := by kernel_rfl
theorem Ti_65 : tiOf Try.prog 65 = some ⟨.int .u8, 1, 1, [.int .u8 0]⟩ := by kernel_rfl
theorem Ti_66 : tiOf Try.prog 66 = some ⟨.int .u8, 1, 1, [.int .u8 0]⟩ := by kernel_rfl
theorem Ti_67 : tiOf Try.prog 67 = some ⟨.func, 1, 8, [.nilFunc]⟩ := by kernel_rfl
theorem Ti_68 : tiOf Try.prog 68 = some ⟨.pointer 5, 1, 8, [.pointer none]⟩ := by kernel_rfl
theorem Ti_69 : tiOf Try.prog 69 = some ⟨.int .i32, 1, 4, [.int .i32 0]⟩ := by kernel_rfl
theorem Ti_70 : tiOf Try.prog 70 = some ⟨.int .i32, 1, 4, [.int .i32 0]⟩ := by kernel_rfl

theorem mem_lookup {t : Nat} {ti : TI} : ∀ {l : List (Nat × TI)}, l.lookup t = some ti → (t, ti) ∈ l
  | [], h => by simp at h
  | (s, x) :: r, h => by
    rw [List.lookup_cons] at h
    split at h
    · rename_i e
      cases h
      rw [eq_of_beq e]; simp
    · exact List.mem_cons_of_mem _ (mem_lookup h)

theorem all_cons {Q : Nat × TI → Prop} {x : Nat × TI} {l : List (Nat × TI)} (h : Q x) (hs : ∀ p ∈ l, Q p) : ∀ p ∈ x :: l, Q p := fun p hp => by
  rcases List.mem_cons.1 hp with rfl | hp
  · exact h
  · exact hs p hp
theorem all_nil {Q : Nat × TI → Prop} : ∀ p ∈ ([] : List (Nat × TI)), Q p := fun p hp => by simp at hp

set_option maxRecDepth 100000 in
theorem Tl_ok : ∀ p ∈ Tl, tiOf Try.prog p.1 = some p.2 :=
  all_cons Ti_1 <| all_cons Ti_2 <| all_cons Ti_3 <| all_cons Ti_4 <| all_cons Ti_5 <| all_cons Ti_6 <| all_cons Ti_9 <| all_cons Ti_10 <| all_cons Ti_11 <| all_cons Ti_12 <| all_cons Ti_15 <| all_cons Ti_16 <| all_cons Ti_17 <| all_cons Ti_21 <| all_cons Ti_22 <| all_cons Ti_23 <| all_cons Ti_24 <| all_cons Ti_25 <| all_cons Ti_26 <| all_cons Ti_29 <| all_cons Ti_31 <| all_cons Ti_32 <| all_cons Ti_33 <| all_cons Ti_34 <| all_cons Ti_35 <| all_cons Ti_36 <| all_cons Ti_40 <| all_cons Ti_41 <| all_cons Ti_43 <| all_cons Ti_45 <| all_cons Ti_48 <| all_cons Ti_49 <| all_cons Ti_52 <| all_cons Ti_53 <| all_cons Ti_55 <| all_cons Ti_61 <| all_cons Ti_64 <| all_cons Ti_65 <| all_cons Ti_66 <| all_cons Ti_67 <| all_cons Ti_68 <| all_cons Ti_69 <| all_cons Ti_70 <| all_nil 

theorem T_ok : TabOk Try.prog T := fun t ti h => Tl_ok (t, ti) (mem_lookup h)
end Go.Proofs.Try
