/- The seat's types as the logic reads them. -/
import Derived.Test.YtjdaofmhklihiaaSl11
import Derived.Test.YtjdaofmhklihiaaProg
import Derived.KernelRfl
namespace Go.Proofs.Try
open Go.Sl

def T : Tab := fun t => match t with
  | 1 => some ⟨.func, 1, 8, [.nilFunc]⟩
  | 2 => some ⟨.int .i64, 1, 8, [.int .i64 0]⟩
  | 3 => some ⟨.int .i64, 1, 8, [.int .i64 0]⟩
  | 4 => some ⟨.bool, 1, 1, [.bool false]⟩
  | 5 => some ⟨.int .u8, 1, 1, [.int .u8 0]⟩
  | 6 => some ⟨.int .u8, 1, 1, [.int .u8 0]⟩
  | 7 => some ⟨.struct [(2, 0, 1), (3, 1, 1), (4, 2, 1), (6, 3, 1)], 4, 24, [.int .i64 0, .int .i64 0, .bool false, .int .u8 0]⟩
  | 8 => some ⟨.struct [(2, 0, 1), (3, 1, 1), (4, 2, 1), (6, 3, 1)], 4, 24, [.int .i64 0, .int .i64 0, .bool false, .int .u8 0]⟩
  | 9 => some ⟨.string, 1, 16, [.string ⟨#[]⟩]⟩
  | 10 => some ⟨.string, 1, 16, [.string ⟨#[]⟩]⟩
  | 11 => some ⟨.string, 1, 16, [.string ⟨#[]⟩]⟩
  | 12 => some ⟨.int .u64, 1, 8, [.int .u64 0]⟩
  | 13 => some ⟨.struct [(9, 0, 1), (12, 1, 1)], 2, 24, [.string ⟨#[]⟩, .int .u64 0]⟩
  | 14 => some ⟨.struct [(9, 0, 1), (12, 1, 1)], 2, 24, [.string ⟨#[]⟩, .int .u64 0]⟩
  | 15 => some ⟨.pointer 62, 1, 8, [.pointer none]⟩
  | 16 => some ⟨.pointer 65, 1, 8, [.pointer none]⟩
  | 17 => some ⟨.pointer 74, 1, 8, [.pointer none]⟩
  | 18 => some ⟨.struct [(17, 0, 1)], 1, 8, [.pointer none]⟩
  | 19 => some ⟨.struct [(17, 0, 1)], 1, 8, [.pointer none]⟩
  | 21 => some ⟨.int .i32, 1, 4, [.int .i32 0]⟩
  | 22 => some ⟨.int .u16, 1, 2, [.int .u16 0]⟩
  | 23 => some ⟨.array 16 22, 16, 32, [.int .u16 0, .int .u16 0, .int .u16 0, .int .u16 0, .int .u16 0, .int .u16 0, .int .u16 0, .int .u16 0, .int .u16 0, .int .u16 0, .int .u16 0, .int .u16 0, .int .u16 0, .int .u16 0, .int .u16 0, .int .u16 0]⟩
  | 24 => some ⟨.array 16 22, 16, 32, [.int .u16 0, .int .u16 0, .int .u16 0, .int .u16 0, .int .u16 0, .int .u16 0, .int .u16 0, .int .u16 0, .int .u16 0, .int .u16 0, .int .u16 0, .int .u16 0, .int .u16 0, .int .u16 0, .int .u16 0, .int .u16 0]⟩
  | 25 => some ⟨.slice 3, 1, 24, [.slice none 0 0]⟩
  | 27 => some ⟨.func, 1, 8, [.nilFunc]⟩
  | 28 => some ⟨.func, 1, 8, [.nilFunc]⟩
  | 29 => some ⟨.func, 1, 8, [.nilFunc]⟩
  | 30 => some ⟨.func, 1, 8, [.nilFunc]⟩
  | 31 => some ⟨.func, 1, 8, [.nilFunc]⟩
  | 32 => some ⟨.func, 1, 8, [.nilFunc]⟩
  | 33 => some ⟨.slice 56, 1, 24, [.slice none 0 0]⟩
  | 34 => some ⟨.slice 40, 1, 24, [.slice none 0 0]⟩
  | 36 => some ⟨.func, 1, 8, [.nilFunc]⟩
  | 37 => some ⟨.func, 1, 8, [.nilFunc]⟩
  | 38 => some ⟨.func, 1, 8, [.nilFunc]⟩
  | 39 => some ⟨.struct [(3, 0, 1), (3, 1, 1)], 2, 16, [.int .i64 0, .int .i64 0]⟩
  | 40 => some ⟨.struct [(3, 0, 1), (3, 1, 1)], 2, 16, [.int .i64 0, .int .i64 0]⟩
  | 41 => some ⟨.func, 1, 8, [.nilFunc]⟩
  | 42 => some ⟨.func, 1, 8, [.nilFunc]⟩
  | 43 => some ⟨.func, 1, 8, [.nilFunc]⟩
  | 44 => some ⟨.func, 1, 8, [.nilFunc]⟩
  | 45 => some ⟨.func, 1, 8, [.nilFunc]⟩
  | 46 => some ⟨.func, 1, 8, [.nilFunc]⟩
  | 47 => some ⟨.func, 1, 8, [.nilFunc]⟩
  | 48 => some ⟨.func, 1, 8, [.nilFunc]⟩
  | 49 => some ⟨.func, 1, 8, [.nilFunc]⟩
  | 50 => some ⟨.func, 1, 8, [.nilFunc]⟩
  | 51 => some ⟨.func, 1, 8, [.nilFunc]⟩
  | 52 => some ⟨.func, 1, 8, [.nilFunc]⟩
  | 53 => some ⟨.func, 1, 8, [.nilFunc]⟩
  | 54 => some ⟨.func, 1, 8, [.nilFunc]⟩
  | 55 => some ⟨.func, 1, 8, [.nilFunc]⟩
  | 56 => some ⟨.array 2 3, 2, 16, [.int .i64 0, .int .i64 0]⟩
  | 57 => some ⟨.func, 1, 8, [.nilFunc]⟩
  | 58 => some ⟨.func, 1, 8, [.nilFunc]⟩
  | 59 => some ⟨.int .u64, 1, 8, [.int .u64 0]⟩
  | 60 => some ⟨.func, 1, 8, [.nilFunc]⟩
  | 61 => some ⟨.struct [(17, 0, 1), (17, 1, 1), (17, 2, 1), (9, 3, 1)], 4, 40, [.pointer none, .pointer none, .pointer none, .string ⟨#[]⟩]⟩
  | 62 => some ⟨.struct [(17, 0, 1), (17, 1, 1), (17, 2, 1), (9, 3, 1)], 4, 40, [.pointer none, .pointer none, .pointer none, .string ⟨#[]⟩]⟩
  | 63 => some ⟨.array 0 16, 0, 0, []⟩
  | 64 => some ⟨.struct [(63, 0, 0)], 0, 0, []⟩
  | 65 => some ⟨.struct [(63, 0, 0)], 0, 0, []⟩
  | 66 => some ⟨.int .u32, 1, 4, [.int .u32 0]⟩
  | 67 => some ⟨.int .u8, 1, 1, [.int .u8 0]⟩
  | 68 => some ⟨.int .u8, 1, 1, [.int .u8 0]⟩
  | 69 => some ⟨.func, 1, 8, [.nilFunc]⟩
  | 70 => some ⟨.pointer 5, 1, 8, [.pointer none]⟩
  | 71 => some ⟨.int .i32, 1, 4, [.int .i32 0]⟩
  | 72 => some ⟨.int .i32, 1, 4, [.int .i32 0]⟩
  | 73 => some ⟨.struct [(12, 0, 1), (12, 1, 1), (66, 2, 1), (67, 3, 1), (5, 4, 1), (5, 5, 1), (68, 6, 1), (69, 7, 1), (70, 8, 1), (71, 9, 1), (72, 10, 1)], 11, 48, [.int .u64 0, .int .u64 0, .int .u32 0, .int .u8 0, .int .u8 0, .int .u8 0, .int .u8 0, .nilFunc, .pointer none, .int .i32 0, .int .i32 0]⟩
  | 74 => some ⟨.struct [(12, 0, 1), (12, 1, 1), (66, 2, 1), (67, 3, 1), (5, 4, 1), (5, 5, 1), (68, 6, 1), (69, 7, 1), (70, 8, 1), (71, 9, 1), (72, 10, 1)], 11, 48, [.int .u64 0, .int .u64 0, .int .u32 0, .int .u8 0, .int .u8 0, .int .u8 0, .int .u8 0, .nilFunc, .pointer none, .int .i32 0, .int .i32 0]⟩
  | _ => none

theorem T_1 : tiOf Try.prog 1 = some ⟨.func, 1, 8, [.nilFunc]⟩ := by kernel_rfl
theorem T_2 : tiOf Try.prog 2 = some ⟨.int .i64, 1, 8, [.int .i64 0]⟩ := by kernel_rfl
theorem T_3 : tiOf Try.prog 3 = some ⟨.int .i64, 1, 8, [.int .i64 0]⟩ := by kernel_rfl
theorem T_4 : tiOf Try.prog 4 = some ⟨.bool, 1, 1, [.bool false]⟩ := by kernel_rfl
theorem T_5 : tiOf Try.prog 5 = some ⟨.int .u8, 1, 1, [.int .u8 0]⟩ := by kernel_rfl
theorem T_6 : tiOf Try.prog 6 = some ⟨.int .u8, 1, 1, [.int .u8 0]⟩ := by kernel_rfl
theorem T_7 : tiOf Try.prog 7 = some ⟨.struct [(2, 0, 1), (3, 1, 1), (4, 2, 1), (6, 3, 1)], 4, 24, [.int .i64 0, .int .i64 0, .bool false, .int .u8 0]⟩ := by kernel_rfl
theorem T_8 : tiOf Try.prog 8 = some ⟨.struct [(2, 0, 1), (3, 1, 1), (4, 2, 1), (6, 3, 1)], 4, 24, [.int .i64 0, .int .i64 0, .bool false, .int .u8 0]⟩ := by kernel_rfl
theorem T_9 : tiOf Try.prog 9 = some ⟨.string, 1, 16, [.string ⟨#[]⟩]⟩ := by kernel_rfl
theorem T_10 : tiOf Try.prog 10 = some ⟨.string, 1, 16, [.string ⟨#[]⟩]⟩ := by kernel_rfl
theorem T_11 : tiOf Try.prog 11 = some ⟨.string, 1, 16, [.string ⟨#[]⟩]⟩ := by kernel_rfl
theorem T_12 : tiOf Try.prog 12 = some ⟨.int .u64, 1, 8, [.int .u64 0]⟩ := by kernel_rfl
theorem T_13 : tiOf Try.prog 13 = some ⟨.struct [(9, 0, 1), (12, 1, 1)], 2, 24, [.string ⟨#[]⟩, .int .u64 0]⟩ := by kernel_rfl
theorem T_14 : tiOf Try.prog 14 = some ⟨.struct [(9, 0, 1), (12, 1, 1)], 2, 24, [.string ⟨#[]⟩, .int .u64 0]⟩ := by kernel_rfl
theorem T_15 : tiOf Try.prog 15 = some ⟨.pointer 62, 1, 8, [.pointer none]⟩ := by kernel_rfl
theorem T_16 : tiOf Try.prog 16 = some ⟨.pointer 65, 1, 8, [.pointer none]⟩ := by kernel_rfl
theorem T_17 : tiOf Try.prog 17 = some ⟨.pointer 74, 1, 8, [.pointer none]⟩ := by kernel_rfl
theorem T_18 : tiOf Try.prog 18 = some ⟨.struct [(17, 0, 1)], 1, 8, [.pointer none]⟩ := by kernel_rfl
theorem T_19 : tiOf Try.prog 19 = some ⟨.struct [(17, 0, 1)], 1, 8, [.pointer none]⟩ := by kernel_rfl
theorem T_21 : tiOf Try.prog 21 = some ⟨.int .i32, 1, 4, [.int .i32 0]⟩ := by kernel_rfl
theorem T_22 : tiOf Try.prog 22 = some ⟨.int .u16, 1, 2, [.int .u16 0]⟩ := by kernel_rfl
theorem T_23 : tiOf Try.prog 23 = some ⟨.array 16 22, 16, 32, [.int .u16 0, .int .u16 0, .int .u16 0, .int .u16 0, .int .u16 0, .int .u16 0, .int .u16 0, .int .u16 0, .int .u16 0, .int .u16 0, .int .u16 0, .int .u16 0, .int .u16 0, .int .u16 0, .int .u16 0, .int .u16 0]⟩ := by kernel_rfl
theorem T_24 : tiOf Try.prog 24 = some ⟨.array 16 22, 16, 32, [.int .u16 0, .int .u16 0, .int .u16 0, .int .u16 0, .int .u16 0, .int .u16 0, .int .u16 0, .int .u16 0, .int .u16 0, .int .u16 0, .int .u16 0, .int .u16 0, .int .u16 0, .int .u16 0, .int .u16 0, .int .u16 0]⟩ := by kernel_rfl
theorem T_25 : tiOf Try.prog 25 = some ⟨.slice 3, 1, 24, [.slice none 0 0]⟩ := by kernel_rfl
theorem T_27 : tiOf Try.prog 27 = some ⟨.func, 1, 8, [.nilFunc]⟩ := by kernel_rfl
theorem T_28 : tiOf Try.prog 28 = some ⟨.func, 1, 8, [.nilFunc]⟩ := by kernel_rfl
theorem T_29 : tiOf Try.prog 29 = some ⟨.func, 1, 8, [.nilFunc]⟩ := by kernel_rfl
theorem T_30 : tiOf Try.prog 30 = some ⟨.func, 1, 8, [.nilFunc]⟩ := by kernel_rfl
theorem T_31 : tiOf Try.prog 31 = some ⟨.func, 1, 8, [.nilFunc]⟩ := by kernel_rfl
theorem T_32 : tiOf Try.prog 32 = some ⟨.func, 1, 8, [.nilFunc]⟩ := by kernel_rfl
theorem T_33 : tiOf Try.prog 33 = some ⟨.slice 56, 1, 24, [.slice none 0 0]⟩ := by kernel_rfl
theorem T_34 : tiOf Try.prog 34 = some ⟨.slice 40, 1, 24, [.slice none 0 0]⟩ := by kernel_rfl
theorem T_36 : tiOf Try.prog 36 = some ⟨.func, 1, 8, [.nilFunc]⟩ := by kernel_rfl
theorem T_37 : tiOf Try.prog 37 = some ⟨.func, 1, 8, [.nilFunc]⟩ := by kernel_rfl
theorem T_38 : tiOf Try.prog 38 = some ⟨.func, 1, 8, [.nilFunc]⟩ := by kernel_rfl
theorem T_39 : tiOf Try.prog 39 = some ⟨.struct [(3, 0, 1), (3, 1, 1)], 2, 16, [.int .i64 0, .int .i64 0]⟩ := by kernel_rfl
theorem T_40 : tiOf Try.prog 40 = some ⟨.struct [(3, 0, 1), (3, 1, 1)], 2, 16, [.int .i64 0, .int .i64 0]⟩ := by kernel_rfl
theorem T_41 : tiOf Try.prog 41 = some ⟨.func, 1, 8, [.nilFunc]⟩ := by kernel_rfl
theorem T_42 : tiOf Try.prog 42 = some ⟨.func, 1, 8, [.nilFunc]⟩ := by kernel_rfl
theorem T_43 : tiOf Try.prog 43 = some ⟨.func, 1, 8, [.nilFunc]⟩ := by kernel_rfl
theorem T_44 : tiOf Try.prog 44 = some ⟨.func, 1, 8, [.nilFunc]⟩ := by kernel_rfl
theorem T_45 : tiOf Try.prog 45 = some ⟨.func, 1, 8, [.nilFunc]⟩ := by kernel_rfl
theorem T_46 : tiOf Try.prog 46 = some ⟨.func, 1, 8, [.nilFunc]⟩ := by kernel_rfl
theorem T_47 : tiOf Try.prog 47 = some ⟨.func, 1, 8, [.nilFunc]⟩ := by kernel_rfl
theorem T_48 : tiOf Try.prog 48 = some ⟨.func, 1, 8, [.nilFunc]⟩ := by kernel_rfl
theorem T_49 : tiOf Try.prog 49 = some ⟨.func, 1, 8, [.nilFunc]⟩ := by kernel_rfl
theorem T_50 : tiOf Try.prog 50 = some ⟨.func, 1, 8, [.nilFunc]⟩ := by kernel_rfl
theorem T_51 : tiOf Try.prog 51 = some ⟨.func, 1, 8, [.nilFunc]⟩ := by kernel_rfl
theorem T_52 : tiOf Try.prog 52 = some ⟨.func, 1, 8, [.nilFunc]⟩ := by kernel_rfl
theorem T_53 : tiOf Try.prog 53 = some ⟨.func, 1, 8, [.nilFunc]⟩ := by kernel_rfl
theorem T_54 : tiOf Try.prog 54 = some ⟨.func, 1, 8, [.nilFunc]⟩ := by kernel_rfl
theorem T_55 : tiOf Try.prog 55 = some ⟨.func, 1, 8, [.nilFunc]⟩ := by kernel_rfl
theorem T_56 : tiOf Try.prog 56 = some ⟨.array 2 3, 2, 16, [.int .i64 0, .int .i64 0]⟩ := by kernel_rfl
theorem T_57 : tiOf Try.prog 57 = some ⟨.func, 1, 8, [.nilFunc]⟩ := by kernel_rfl
theorem T_58 : tiOf Try.prog 58 = some ⟨.func, 1, 8, [.nilFunc]⟩ := by kernel_rfl
theorem T_59 : tiOf Try.prog 59 = some ⟨.int .u64, 1, 8, [.int .u64 0]⟩ := by kernel_rfl
theorem T_60 : tiOf Try.prog 60 = some ⟨.func, 1, 8, [.nilFunc]⟩ := by kernel_rfl
theorem T_61 : tiOf Try.prog 61 = some ⟨.struct [(17, 0, 1), (17, 1, 1), (17, 2, 1), (9, 3, 1)], 4, 40, [.pointer none, .pointer none, .pointer none, .string ⟨#[]⟩]⟩ := by kernel_rfl
theorem T_62 : tiOf Try.prog 62 = some ⟨.struct [(17, 0, 1), (17, 1, 1), (17, 2, 1), (9, 3, 1)], 4, 40, [.pointer none, .pointer none, .pointer none, .string ⟨#[]⟩]⟩ := by kernel_rfl
theorem T_63 : tiOf Try.prog 63 = some ⟨.array 0 16, 0, 0, []⟩ := by kernel_rfl
theorem T_64 : tiOf Try.prog 64 = some ⟨.struct [(63, 0, 0)], 0, 0, []⟩ := by kernel_rfl
theorem T_65 : tiOf Try.prog 65 = some ⟨.struct [(63, 0, 0)], 0, 0, []⟩ := by kernel_rfl
theorem T_66 : tiOf Try.prog 66 = some ⟨.int .u32, 1, 4, [.int .u32 0]⟩ := by kernel_rfl
theorem T_67 : tiOf Try.prog 67 = some ⟨.int .u8, 1, 1, [.int .u8 0]⟩ := by kernel_rfl
theorem T_68 : tiOf Try.prog 68 = some ⟨.int .u8, 1, 1, [.int .u8 0]⟩ := by kernel_rfl
theorem T_69 : tiOf Try.prog 69 = some ⟨.func, 1, 8, [.nilFunc]⟩ := by kernel_rfl
theorem T_70 : tiOf Try.prog 70 = some ⟨.pointer 5, 1, 8, [.pointer none]⟩ := by kernel_rfl
theorem T_71 : tiOf Try.prog 71 = some ⟨.int .i32, 1, 4, [.int .i32 0]⟩ := by kernel_rfl
theorem T_72 : tiOf Try.prog 72 = some ⟨.int .i32, 1, 4, [.int .i32 0]⟩ := by kernel_rfl
theorem T_73 : tiOf Try.prog 73 = some ⟨.struct [(12, 0, 1), (12, 1, 1), (66, 2, 1), (67, 3, 1), (5, 4, 1), (5, 5, 1), (68, 6, 1), (69, 7, 1), (70, 8, 1), (71, 9, 1), (72, 10, 1)], 11, 48, [.int .u64 0, .int .u64 0, .int .u32 0, .int .u8 0, .int .u8 0, .int .u8 0, .int .u8 0, .nilFunc, .pointer none, .int .i32 0, .int .i32 0]⟩ := by kernel_rfl
theorem T_74 : tiOf Try.prog 74 = some ⟨.struct [(12, 0, 1), (12, 1, 1), (66, 2, 1), (67, 3, 1), (5, 4, 1), (5, 5, 1), (68, 6, 1), (69, 7, 1), (70, 8, 1), (71, 9, 1), (72, 10, 1)], 11, 48, [.int .u64 0, .int .u64 0, .int .u32 0, .int .u8 0, .int .u8 0, .int .u8 0, .int .u8 0, .nilFunc, .pointer none, .int .i32 0, .int .i32 0]⟩ := by kernel_rfl

theorem T_ok : TabOk Try.prog T := by
  intro t ti h
  unfold T at h
  split at h <;> first | (cases h; assumption) | skip
  · cases h; exact T_1
  · cases h; exact T_2
  · cases h; exact T_3
  · cases h; exact T_4
  · cases h; exact T_5
  · cases h; exact T_6
  · cases h; exact T_7
  · cases h; exact T_8
  · cases h; exact T_9
  · cases h; exact T_10
  · cases h; exact T_11
  · cases h; exact T_12
  · cases h; exact T_13
  · cases h; exact T_14
  · cases h; exact T_15
  · cases h; exact T_16
  · cases h; exact T_17
  · cases h; exact T_18
  · cases h; exact T_19
  · cases h; exact T_21
  · cases h; exact T_22
  · cases h; exact T_23
  · cases h; exact T_24
  · cases h; exact T_25
  · cases h; exact T_27
  · cases h; exact T_28
  · cases h; exact T_29
  · cases h; exact T_30
  · cases h; exact T_31
  · cases h; exact T_32
  · cases h; exact T_33
  · cases h; exact T_34
  · cases h; exact T_36
  · cases h; exact T_37
  · cases h; exact T_38
  · cases h; exact T_39
  · cases h; exact T_40
  · cases h; exact T_41
  · cases h; exact T_42
  · cases h; exact T_43
  · cases h; exact T_44
  · cases h; exact T_45
  · cases h; exact T_46
  · cases h; exact T_47
  · cases h; exact T_48
  · cases h; exact T_49
  · cases h; exact T_50
  · cases h; exact T_51
  · cases h; exact T_52
  · cases h; exact T_53
  · cases h; exact T_54
  · cases h; exact T_55
  · cases h; exact T_56
  · cases h; exact T_57
  · cases h; exact T_58
  · cases h; exact T_59
  · cases h; exact T_60
  · cases h; exact T_61
  · cases h; exact T_62
  · cases h; exact T_63
  · cases h; exact T_64
  · cases h; exact T_65
  · cases h; exact T_66
  · cases h; exact T_67
  · cases h; exact T_68
  · cases h; exact T_69
  · cases h; exact T_70
  · cases h; exact T_71
  · cases h; exact T_72
  · cases h; exact T_73
  · cases h; exact T_74
  cases h
end Go.Proofs.Try
