/- The seat's types as the logic reads them. -/
import Derived.Test.YtokdphmnlcmbbaaSl11
import Derived.Test.YtokdphmnlcmbbaaProg
import Derived.KernelRfl
namespace Go.Proofs.Try
open Go.Sl

def Tl : List (Nat × TI) := [
  (1, ⟨.func, 1, 8, [.nilFunc]⟩),
  (2, ⟨.int .i64, 1, 8, [.int .i64 0]⟩),
  (3, ⟨.int .i64, 1, 8, [.int .i64 0]⟩),
  (4, ⟨.bool, 1, 1, [.bool false]⟩),
  (5, ⟨.int .u8, 1, 1, [.int .u8 0]⟩),
  (6, ⟨.int .u8, 1, 1, [.int .u8 0]⟩),
  (9, ⟨.string, 1, 16, [.string ⟨#[]⟩]⟩),
  (10, ⟨.string, 1, 16, [.string ⟨#[]⟩]⟩),
  (11, ⟨.string, 1, 16, [.string ⟨#[]⟩]⟩),
  (12, ⟨.int .u64, 1, 8, [.int .u64 0]⟩),
  (15, ⟨.pointer 134, 1, 8, [.pointer none]⟩),
  (16, ⟨.pointer 137, 1, 8, [.pointer none]⟩),
  (17, ⟨.pointer 146, 1, 8, [.pointer none]⟩),
  (21, ⟨.int .i32, 1, 4, [.int .i32 0]⟩),
  (22, ⟨.int .u64, 1, 8, [.int .u64 0]⟩),
  (26, ⟨.struct [(4, 0, 1), (22, 1, 1)], 2, 16, [.bool false, .int .u64 0]⟩),
  (27, ⟨.struct [(4, 0, 1), (22, 1, 1)], 2, 16, [.bool false, .int .u64 0]⟩),
  (28, ⟨.struct [(9, 0, 1), (22, 1, 1)], 2, 24, [.string ⟨#[]⟩, .int .u64 0]⟩),
  (29, ⟨.struct [(9, 0, 1), (22, 1, 1)], 2, 24, [.string ⟨#[]⟩, .int .u64 0]⟩),
  (30, ⟨.slice 29, 1, 24, [.slice none 0 0]⟩),
  (31, ⟨.struct [(3, 0, 1), (3, 1, 1), (3, 2, 1), (27, 3, 2), (27, 5, 2), (4, 7, 1), (4, 8, 1), (3, 9, 1), (3, 10, 1), (3, 11, 1), (3, 12, 1)], 13, 96, [.int .i64 0, .int .i64 0, .int .i64 0, .bool false, .int .u64 0, .bool false, .int .u64 0, .bool false, .bool false, .int .i64 0, .int .i64 0, .int .i64 0, .int .i64 0]⟩),
  (32, ⟨.struct [(3, 0, 1), (3, 1, 1), (3, 2, 1), (27, 3, 2), (27, 5, 2), (4, 7, 1), (4, 8, 1), (3, 9, 1), (3, 10, 1), (3, 11, 1), (3, 12, 1)], 13, 96, [.int .i64 0, .int .i64 0, .int .i64 0, .bool false, .int .u64 0, .bool false, .int .u64 0, .bool false, .bool false, .int .i64 0, .int .i64 0, .int .i64 0, .int .i64 0]⟩),
  (33, ⟨.slice 32, 1, 24, [.slice none 0 0]⟩),
  (34, ⟨.slice 33, 1, 24, [.slice none 0 0]⟩),
  (35, ⟨.slice 100, 1, 24, [.slice none 0 0]⟩),
  (36, ⟨.struct [(30, 0, 1), (34, 1, 1), (35, 2, 1)], 3, 72, [.slice none 0 0, .slice none 0 0, .slice none 0 0]⟩),
  (37, ⟨.struct [(30, 0, 1), (34, 1, 1), (35, 2, 1)], 3, 72, [.slice none 0 0, .slice none 0 0, .slice none 0 0]⟩),
  (38, ⟨.pointer 49, 1, 8, [.pointer none]⟩),
  (40, ⟨.pointer 37, 1, 8, [.pointer none]⟩),
  (41, ⟨.struct [(4, 0, 1), (22, 1, 1)], 2, 16, [.bool false, .int .u64 0]⟩),
  (42, ⟨.struct [(4, 0, 1), (22, 1, 1)], 2, 16, [.bool false, .int .u64 0]⟩),
  (43, ⟨.slice 42, 1, 24, [.slice none 0 0]⟩),
  (44, ⟨.slice 4, 1, 24, [.slice none 0 0]⟩),
  (45, ⟨.slice 3, 1, 24, [.slice none 0 0]⟩),
  (46, ⟨.slice 22, 1, 24, [.slice none 0 0]⟩),
  (47, ⟨.slice 50, 1, 24, [.slice none 0 0]⟩),
  (48, ⟨.struct [(45, 0, 1), (43, 1, 1), (45, 2, 1), (46, 3, 1), (46, 4, 1), (46, 5, 1), (46, 6, 1), (47, 7, 1), (4, 8, 1)], 9, 200, [.slice none 0 0, .slice none 0 0, .slice none 0 0, .slice none 0 0, .slice none 0 0, .slice none 0 0, .slice none 0 0, .slice none 0 0, .bool false]⟩),
  (49, ⟨.struct [(45, 0, 1), (43, 1, 1), (45, 2, 1), (46, 3, 1), (46, 4, 1), (46, 5, 1), (46, 6, 1), (47, 7, 1), (4, 8, 1)], 9, 200, [.slice none 0 0, .slice none 0 0, .slice none 0 0, .slice none 0 0, .slice none 0 0, .slice none 0 0, .slice none 0 0, .slice none 0 0, .bool false]⟩),
  (50, ⟨.array 8 42, 16, 128, [.bool false, .int .u64 0, .bool false, .int .u64 0, .bool false, .int .u64 0, .bool false, .int .u64 0, .bool false, .int .u64 0, .bool false, .int .u64 0, .bool false, .int .u64 0, .bool false, .int .u64 0]⟩),
  (53, ⟨.int .i64, 1, 8, [.int .i64 0]⟩),
  (55, ⟨.slice 103, 1, 24, [.slice none 0 0]⟩),
  (56, ⟨.slice 104, 1, 24, [.slice none 0 0]⟩),
  (57, ⟨.slice 106, 1, 24, [.slice none 0 0]⟩),
  (58, ⟨.struct [(55, 0, 1), (56, 1, 1), (57, 2, 1)], 3, 72, [.slice none 0 0, .slice none 0 0, .slice none 0 0]⟩),
  (59, ⟨.struct [(55, 0, 1), (56, 1, 1), (57, 2, 1)], 3, 72, [.slice none 0 0, .slice none 0 0, .slice none 0 0]⟩),
  (61, ⟨.slice 66, 1, 24, [.slice none 0 0]⟩),
  (63, ⟨.slice 71, 1, 24, [.slice none 0 0]⟩),
  (65, ⟨.struct [(3, 0, 1), (3, 1, 1)], 2, 16, [.int .i64 0, .int .i64 0]⟩),
  (66, ⟨.struct [(3, 0, 1), (3, 1, 1)], 2, 16, [.int .i64 0, .int .i64 0]⟩),
  (67, ⟨.struct [(4, 0, 1), (22, 1, 1)], 2, 16, [.bool false, .int .u64 0]⟩),
  (68, ⟨.struct [(3, 0, 1), (3, 1, 1), (3, 2, 1), (67, 3, 2), (67, 5, 2), (4, 7, 1), (4, 8, 1), (3, 9, 1), (3, 10, 1), (3, 11, 1), (3, 12, 1)], 13, 96, [.int .i64 0, .int .i64 0, .int .i64 0, .bool false, .int .u64 0, .bool false, .int .u64 0, .bool false, .bool false, .int .i64 0, .int .i64 0, .int .i64 0, .int .i64 0]⟩),
  (69, ⟨.struct [(3, 0, 1), (3, 1, 1), (3, 2, 1), (67, 3, 2), (67, 5, 2), (4, 7, 1), (4, 8, 1), (3, 9, 1), (3, 10, 1), (3, 11, 1), (3, 12, 1)], 13, 96, [.int .i64 0, .int .i64 0, .int .i64 0, .bool false, .int .u64 0, .bool false, .int .u64 0, .bool false, .bool false, .int .i64 0, .int .i64 0, .int .i64 0, .int .i64 0]⟩),
  (70, ⟨.struct [(3, 0, 1), (3, 1, 1), (69, 2, 13)], 15, 112, [.int .i64 0, .int .i64 0, .int .i64 0, .int .i64 0, .int .i64 0, .bool false, .int .u64 0, .bool false, .int .u64 0, .bool false, .bool false, .int .i64 0, .int .i64 0, .int .i64 0, .int .i64 0]⟩),
  (71, ⟨.struct [(3, 0, 1), (3, 1, 1), (69, 2, 13)], 15, 112, [.int .i64 0, .int .i64 0, .int .i64 0, .int .i64 0, .int .i64 0, .bool false, .int .u64 0, .bool false, .int .u64 0, .bool false, .bool false, .int .i64 0, .int .i64 0, .int .i64 0, .int .i64 0]⟩),
  (72, ⟨.slice 82, 1, 24, [.slice none 0 0]⟩),
  (75, ⟨.slice 84, 1, 24, [.slice none 0 0]⟩),
  (76, ⟨.slice 72, 1, 24, [.slice none 0 0]⟩),
  (77, ⟨.slice 45, 1, 24, [.slice none 0 0]⟩),
  (78, ⟨.struct [(75, 0, 1), (76, 1, 1), (77, 2, 1), (4, 3, 1)], 4, 80, [.slice none 0 0, .slice none 0 0, .slice none 0 0, .bool false]⟩),
  (79, ⟨.struct [(75, 0, 1), (76, 1, 1), (77, 2, 1), (4, 3, 1)], 4, 80, [.slice none 0 0, .slice none 0 0, .slice none 0 0, .bool false]⟩),
  (81, ⟨.struct [(4, 0, 1), (22, 1, 1), (45, 2, 1)], 3, 40, [.bool false, .int .u64 0, .slice none 0 0]⟩),
  (82, ⟨.struct [(4, 0, 1), (22, 1, 1), (45, 2, 1)], 3, 40, [.bool false, .int .u64 0, .slice none 0 0]⟩),
  (83, ⟨.struct [(3, 0, 1), (3, 1, 1), (82, 2, 3), (45, 5, 1), (45, 6, 1), (45, 7, 1)], 8, 128, [.int .i64 0, .int .i64 0, .bool false, .int .u64 0, .slice none 0 0, .slice none 0 0, .slice none 0 0, .slice none 0 0]⟩),
  (84, ⟨.struct [(3, 0, 1), (3, 1, 1), (82, 2, 3), (45, 5, 1), (45, 6, 1), (45, 7, 1)], 8, 128, [.int .i64 0, .int .i64 0, .bool false, .int .u64 0, .slice none 0 0, .slice none 0 0, .slice none 0 0, .slice none 0 0]⟩),
  (91, ⟨.pointer 94, 1, 8, [.pointer none]⟩),
  (92, ⟨.array 8 22, 8, 64, [.int .u64 0, .int .u64 0, .int .u64 0, .int .u64 0, .int .u64 0, .int .u64 0, .int .u64 0, .int .u64 0]⟩),
  (93, ⟨.struct [(38, 0, 1), (50, 1, 16), (92, 17, 8), (22, 25, 1), (22, 26, 1), (3, 27, 1), (3, 28, 1)], 29, 232, [.pointer none, .bool false, .int .u64 0, .bool false, .int .u64 0, .bool false, .int .u64 0, .bool false, .int .u64 0, .bool false, .int .u64 0, .bool false, .int .u64 0, .bool false, .int .u64 0, .bool false, .int .u64 0, .int .u64 0, .int .u64 0, .int .u64 0, .int .u64 0, .int .u64 0, .int .u64 0, .int .u64 0, .int .u64 0, .int .u64 0, .int .u64 0, .int .i64 0, .int .i64 0]⟩),
  (94, ⟨.struct [(38, 0, 1), (50, 1, 16), (92, 17, 8), (22, 25, 1), (22, 26, 1), (3, 27, 1), (3, 28, 1)], 29, 232, [.pointer none, .bool false, .int .u64 0, .bool false, .int .u64 0, .bool false, .int .u64 0, .bool false, .int .u64 0, .bool false, .int .u64 0, .bool false, .int .u64 0, .bool false, .int .u64 0, .bool false, .int .u64 0, .int .u64 0, .int .u64 0, .int .u64 0, .int .u64 0, .int .u64 0, .int .u64 0, .int .u64 0, .int .u64 0, .int .u64 0, .int .u64 0, .int .i64 0, .int .i64 0]⟩),
  (99, ⟨.struct [(3, 0, 1), (3, 1, 1), (22, 2, 1)], 3, 24, [.int .i64 0, .int .i64 0, .int .u64 0]⟩),
  (100, ⟨.struct [(3, 0, 1), (3, 1, 1), (22, 2, 1)], 3, 24, [.int .i64 0, .int .i64 0, .int .u64 0]⟩),
  (103, ⟨.struct [(9, 0, 1), (22, 1, 1)], 2, 24, [.string ⟨#[]⟩, .int .u64 0]⟩),
  (104, ⟨.slice 69, 1, 24, [.slice none 0 0]⟩),
  (106, ⟨.struct [(3, 0, 1), (3, 1, 1), (22, 2, 1)], 3, 24, [.int .i64 0, .int .i64 0, .int .u64 0]⟩),
  (108, ⟨.struct [(72, 0, 1), (45, 1, 1), (3, 2, 1), (45, 3, 1), (75, 4, 1), (4, 5, 1)], 6, 112, [.slice none 0 0, .slice none 0 0, .int .i64 0, .slice none 0 0, .slice none 0 0, .bool false]⟩),
  (109, ⟨.struct [(72, 0, 1), (45, 1, 1), (3, 2, 1), (45, 3, 1), (75, 4, 1), (4, 5, 1)], 6, 112, [.slice none 0 0, .slice none 0 0, .int .i64 0, .slice none 0 0, .slice none 0 0, .bool false]⟩),
  (115, ⟨.struct [(4, 0, 1), (4, 1, 1)], 2, 2, [.bool false, .bool false]⟩),
  (116, ⟨.struct [(4, 0, 1), (4, 1, 1)], 2, 2, [.bool false, .bool false]⟩),
  (120, ⟨.func, 1, 8, [.nilFunc]⟩),
  (121, ⟨.func, 1, 8, [.nilFunc]⟩),
  (135, ⟨.array 0 16, 0, 0, []⟩),
  (138, ⟨.int .u32, 1, 4, [.int .u32 0]⟩),
  (139, ⟨.int .u8, 1, 1, [.int .u8 0]⟩),
  (140, ⟨.int .u8, 1, 1, [.int .u8 0]⟩),
  (141, ⟨.func, 1, 8, [.nilFunc]⟩),
  (142, ⟨.pointer 5, 1, 8, [.pointer none]⟩),
  (143, ⟨.int .i32, 1, 4, [.int .i32 0]⟩),
  (144, ⟨.int .i32, 1, 4, [.int .i32 0]⟩)]

def T : Tab := fun t => Tl.lookup t

@[go_sem] theorem T_1 : T 1 = some ⟨.func, 1, 8, [.nilFunc]⟩ := by rfl
@[go_sem] theorem T_2 : T 2 = some ⟨.int .i64, 1, 8, [.int .i64 0]⟩ := by rfl
@[go_sem] theorem T_3 : T 3 = some ⟨.int .i64, 1, 8, [.int .i64 0]⟩ := by rfl
@[go_sem] theorem T_4 : T 4 = some ⟨.bool, 1, 1, [.bool false]⟩ := by rfl
@[go_sem] theorem T_5 : T 5 = some ⟨.int .u8, 1, 1, [.int .u8 0]⟩ := by rfl
@[go_sem] theorem T_6 : T 6 = some ⟨.int .u8, 1, 1, [.int .u8 0]⟩ := by rfl
@[go_sem] theorem T_9 : T 9 = some ⟨.string, 1, 16, [.string ⟨#[]⟩]⟩ := by rfl
@[go_sem] theorem T_10 : T 10 = some ⟨.string, 1, 16, [.string ⟨#[]⟩]⟩ := by rfl
@[go_sem] theorem T_11 : T 11 = some ⟨.string, 1, 16, [.string ⟨#[]⟩]⟩ := by rfl
@[go_sem] theorem T_12 : T 12 = some ⟨.int .u64, 1, 8, [.int .u64 0]⟩ := by rfl
@[go_sem] theorem T_15 : T 15 = some ⟨.pointer 134, 1, 8, [.pointer none]⟩ := by rfl
@[go_sem] theorem T_16 : T 16 = some ⟨.pointer 137, 1, 8, [.pointer none]⟩ := by rfl
@[go_sem] theorem T_17 : T 17 = some ⟨.pointer 146, 1, 8, [.pointer none]⟩ := by rfl
@[go_sem] theorem T_21 : T 21 = some ⟨.int .i32, 1, 4, [.int .i32 0]⟩ := by rfl
@[go_sem] theorem T_22 : T 22 = some ⟨.int .u64, 1, 8, [.int .u64 0]⟩ := by rfl
@[go_sem] theorem T_26 : T 26 = some ⟨.struct [(4, 0, 1), (22, 1, 1)], 2, 16, [.bool false, .int .u64 0]⟩ := by rfl
@[go_sem] theorem T_27 : T 27 = some ⟨.struct [(4, 0, 1), (22, 1, 1)], 2, 16, [.bool false, .int .u64 0]⟩ := by rfl
@[go_sem] theorem T_28 : T 28 = some ⟨.struct [(9, 0, 1), (22, 1, 1)], 2, 24, [.string ⟨#[]⟩, .int .u64 0]⟩ := by rfl
@[go_sem] theorem T_29 : T 29 = some ⟨.struct [(9, 0, 1), (22, 1, 1)], 2, 24, [.string ⟨#[]⟩, .int .u64 0]⟩ := by rfl
@[go_sem] theorem T_30 : T 30 = some ⟨.slice 29, 1, 24, [.slice none 0 0]⟩ := by rfl
@[go_sem] theorem T_31 : T 31 = some ⟨.struct [(3, 0, 1), (3, 1, 1), (3, 2, 1), (27, 3, 2), (27, 5, 2), (4, 7, 1), (4, 8, 1), (3, 9, 1), (3, 10, 1), (3, 11, 1), (3, 12, 1)], 13, 96, [.int .i64 0, .int .i64 0, .int .i64 0, .bool false, .int .u64 0, .bool false, .int .u64 0, .bool false, .bool false, .int .i64 0, .int .i64 0, .int .i64 0, .int .i64 0]⟩ := by rfl
@[go_sem] theorem T_32 : T 32 = some ⟨.struct [(3, 0, 1), (3, 1, 1), (3, 2, 1), (27, 3, 2), (27, 5, 2), (4, 7, 1), (4, 8, 1), (3, 9, 1), (3, 10, 1), (3, 11, 1), (3, 12, 1)], 13, 96, [.int .i64 0, .int .i64 0, .int .i64 0, .bool false, .int .u64 0, .bool false, .int .u64 0, .bool false, .bool false, .int .i64 0, .int .i64 0, .int .i64 0, .int .i64 0]⟩ := by rfl
@[go_sem] theorem T_33 : T 33 = some ⟨.slice 32, 1, 24, [.slice none 0 0]⟩ := by rfl
@[go_sem] theorem T_34 : T 34 = some ⟨.slice 33, 1, 24, [.slice none 0 0]⟩ := by rfl
@[go_sem] theorem T_35 : T 35 = some ⟨.slice 100, 1, 24, [.slice none 0 0]⟩ := by rfl
@[go_sem] theorem T_36 : T 36 = some ⟨.struct [(30, 0, 1), (34, 1, 1), (35, 2, 1)], 3, 72, [.slice none 0 0, .slice none 0 0, .slice none 0 0]⟩ := by rfl
@[go_sem] theorem T_37 : T 37 = some ⟨.struct [(30, 0, 1), (34, 1, 1), (35, 2, 1)], 3, 72, [.slice none 0 0, .slice none 0 0, .slice none 0 0]⟩ := by rfl
@[go_sem] theorem T_38 : T 38 = some ⟨.pointer 49, 1, 8, [.pointer none]⟩ := by rfl
@[go_sem] theorem T_40 : T 40 = some ⟨.pointer 37, 1, 8, [.pointer none]⟩ := by rfl
@[go_sem] theorem T_41 : T 41 = some ⟨.struct [(4, 0, 1), (22, 1, 1)], 2, 16, [.bool false, .int .u64 0]⟩ := by rfl
@[go_sem] theorem T_42 : T 42 = some ⟨.struct [(4, 0, 1), (22, 1, 1)], 2, 16, [.bool false, .int .u64 0]⟩ := by rfl
@[go_sem] theorem T_43 : T 43 = some ⟨.slice 42, 1, 24, [.slice none 0 0]⟩ := by rfl
@[go_sem] theorem T_44 : T 44 = some ⟨.slice 4, 1, 24, [.slice none 0 0]⟩ := by rfl
@[go_sem] theorem T_45 : T 45 = some ⟨.slice 3, 1, 24, [.slice none 0 0]⟩ := by rfl
@[go_sem] theorem T_46 : T 46 = some ⟨.slice 22, 1, 24, [.slice none 0 0]⟩ := by rfl
@[go_sem] theorem T_47 : T 47 = some ⟨.slice 50, 1, 24, [.slice none 0 0]⟩ := by rfl
@[go_sem] theorem T_48 : T 48 = some ⟨.struct [(45, 0, 1), (43, 1, 1), (45, 2, 1), (46, 3, 1), (46, 4, 1), (46, 5, 1), (46, 6, 1), (47, 7, 1), (4, 8, 1)], 9, 200, [.slice none 0 0, .slice none 0 0, .slice none 0 0, .slice none 0 0, .slice none 0 0, .slice none 0 0, .slice none 0 0, .slice none 0 0, .bool false]⟩ := by rfl
@[go_sem] theorem T_49 : T 49 = some ⟨.struct [(45, 0, 1), (43, 1, 1), (45, 2, 1), (46, 3, 1), (46, 4, 1), (46, 5, 1), (46, 6, 1), (47, 7, 1), (4, 8, 1)], 9, 200, [.slice none 0 0, .slice none 0 0, .slice none 0 0, .slice none 0 0, .slice none 0 0, .slice none 0 0, .slice none 0 0, .slice none 0 0, .bool false]⟩ := by rfl
@[go_sem] theorem T_50 : T 50 = some ⟨.array 8 42, 16, 128, [.bool false, .int .u64 0, .bool false, .int .u64 0, .bool false, .int .u64 0, .bool false, .int .u64 0, .bool false, .int .u64 0, .bool false, .int .u64 0, .bool false, .int .u64 0, .bool false, .int .u64 0]⟩ := by rfl
@[go_sem] theorem T_53 : T 53 = some ⟨.int .i64, 1, 8, [.int .i64 0]⟩ := by rfl
@[go_sem] theorem T_55 : T 55 = some ⟨.slice 103, 1, 24, [.slice none 0 0]⟩ := by rfl
@[go_sem] theorem T_56 : T 56 = some ⟨.slice 104, 1, 24, [.slice none 0 0]⟩ := by rfl
@[go_sem] theorem T_57 : T 57 = some ⟨.slice 106, 1, 24, [.slice none 0 0]⟩ := by rfl
@[go_sem] theorem T_58 : T 58 = some ⟨.struct [(55, 0, 1), (56, 1, 1), (57, 2, 1)], 3, 72, [.slice none 0 0, .slice none 0 0, .slice none 0 0]⟩ := by rfl
@[go_sem] theorem T_59 : T 59 = some ⟨.struct [(55, 0, 1), (56, 1, 1), (57, 2, 1)], 3, 72, [.slice none 0 0, .slice none 0 0, .slice none 0 0]⟩ := by rfl
@[go_sem] theorem T_61 : T 61 = some ⟨.slice 66, 1, 24, [.slice none 0 0]⟩ := by rfl
@[go_sem] theorem T_63 : T 63 = some ⟨.slice 71, 1, 24, [.slice none 0 0]⟩ := by rfl
@[go_sem] theorem T_65 : T 65 = some ⟨.struct [(3, 0, 1), (3, 1, 1)], 2, 16, [.int .i64 0, .int .i64 0]⟩ := by rfl
@[go_sem] theorem T_66 : T 66 = some ⟨.struct [(3, 0, 1), (3, 1, 1)], 2, 16, [.int .i64 0, .int .i64 0]⟩ := by rfl
@[go_sem] theorem T_67 : T 67 = some ⟨.struct [(4, 0, 1), (22, 1, 1)], 2, 16, [.bool false, .int .u64 0]⟩ := by rfl
@[go_sem] theorem T_68 : T 68 = some ⟨.struct [(3, 0, 1), (3, 1, 1), (3, 2, 1), (67, 3, 2), (67, 5, 2), (4, 7, 1), (4, 8, 1), (3, 9, 1), (3, 10, 1), (3, 11, 1), (3, 12, 1)], 13, 96, [.int .i64 0, .int .i64 0, .int .i64 0, .bool false, .int .u64 0, .bool false, .int .u64 0, .bool false, .bool false, .int .i64 0, .int .i64 0, .int .i64 0, .int .i64 0]⟩ := by rfl
@[go_sem] theorem T_69 : T 69 = some ⟨.struct [(3, 0, 1), (3, 1, 1), (3, 2, 1), (67, 3, 2), (67, 5, 2), (4, 7, 1), (4, 8, 1), (3, 9, 1), (3, 10, 1), (3, 11, 1), (3, 12, 1)], 13, 96, [.int .i64 0, .int .i64 0, .int .i64 0, .bool false, .int .u64 0, .bool false, .int .u64 0, .bool false, .bool false, .int .i64 0, .int .i64 0, .int .i64 0, .int .i64 0]⟩ := by rfl
@[go_sem] theorem T_70 : T 70 = some ⟨.struct [(3, 0, 1), (3, 1, 1), (69, 2, 13)], 15, 112, [.int .i64 0, .int .i64 0, .int .i64 0, .int .i64 0, .int .i64 0, .bool false, .int .u64 0, .bool false, .int .u64 0, .bool false, .bool false, .int .i64 0, .int .i64 0, .int .i64 0, .int .i64 0]⟩ := by rfl
@[go_sem] theorem T_71 : T 71 = some ⟨.struct [(3, 0, 1), (3, 1, 1), (69, 2, 13)], 15, 112, [.int .i64 0, .int .i64 0, .int .i64 0, .int .i64 0, .int .i64 0, .bool false, .int .u64 0, .bool false, .int .u64 0, .bool false, .bool false, .int .i64 0, .int .i64 0, .int .i64 0, .int .i64 0]⟩ := by rfl
@[go_sem] theorem T_72 : T 72 = some ⟨.slice 82, 1, 24, [.slice none 0 0]⟩ := by rfl
@[go_sem] theorem T_75 : T 75 = some ⟨.slice 84, 1, 24, [.slice none 0 0]⟩ := by rfl
@[go_sem] theorem T_76 : T 76 = some ⟨.slice 72, 1, 24, [.slice none 0 0]⟩ := by rfl
@[go_sem] theorem T_77 : T 77 = some ⟨.slice 45, 1, 24, [.slice none 0 0]⟩ := by rfl
@[go_sem] theorem T_78 : T 78 = some ⟨.struct [(75, 0, 1), (76, 1, 1), (77, 2, 1), (4, 3, 1)], 4, 80, [.slice none 0 0, .slice none 0 0, .slice none 0 0, .bool false]⟩ := by rfl
@[go_sem] theorem T_79 : T 79 = some ⟨.struct [(75, 0, 1), (76, 1, 1), (77, 2, 1), (4, 3, 1)], 4, 80, [.slice none 0 0, .slice none 0 0, .slice none 0 0, .bool false]⟩ := by rfl
@[go_sem] theorem T_81 : T 81 = some ⟨.struct [(4, 0, 1), (22, 1, 1), (45, 2, 1)], 3, 40, [.bool false, .int .u64 0, .slice none 0 0]⟩ := by rfl
@[go_sem] theorem T_82 : T 82 = some ⟨.struct [(4, 0, 1), (22, 1, 1), (45, 2, 1)], 3, 40, [.bool false, .int .u64 0, .slice none 0 0]⟩ := by rfl
@[go_sem] theorem T_83 : T 83 = some ⟨.struct [(3, 0, 1), (3, 1, 1), (82, 2, 3), (45, 5, 1), (45, 6, 1), (45, 7, 1)], 8, 128, [.int .i64 0, .int .i64 0, .bool false, .int .u64 0, .slice none 0 0, .slice none 0 0, .slice none 0 0, .slice none 0 0]⟩ := by rfl
@[go_sem] theorem T_84 : T 84 = some ⟨.struct [(3, 0, 1), (3, 1, 1), (82, 2, 3), (45, 5, 1), (45, 6, 1), (45, 7, 1)], 8, 128, [.int .i64 0, .int .i64 0, .bool false, .int .u64 0, .slice none 0 0, .slice none 0 0, .slice none 0 0, .slice none 0 0]⟩ := by rfl
@[go_sem] theorem T_91 : T 91 = some ⟨.pointer 94, 1, 8, [.pointer none]⟩ := by rfl
@[go_sem] theorem T_92 : T 92 = some ⟨.array 8 22, 8, 64, [.int .u64 0, .int .u64 0, .int .u64 0, .int .u64 0, .int .u64 0, .int .u64 0, .int .u64 0, .int .u64 0]⟩ := by rfl
@[go_sem] theorem T_93 : T 93 = some ⟨.struct [(38, 0, 1), (50, 1, 16), (92, 17, 8), (22, 25, 1), (22, 26, 1), (3, 27, 1), (3, 28, 1)], 29, 232, [.pointer none, .bool false, .int .u64 0, .bool false, .int .u64 0, .bool false, .int .u64 0, .bool false, .int .u64 0, .bool false, .int .u64 0, .bool false, .int .u64 0, .bool false, .int .u64 0, .bool false, .int .u64 0, .int .u64 0, .int .u64 0, .int .u64 0, .int .u64 0, .int .u64 0, .int .u64 0, .int .u64 0, .int .u64 0, .int .u64 0, .int .u64 0, .int .i64 0, .int .i64 0]⟩ := by rfl
@[go_sem] theorem T_94 : T 94 = some ⟨.struct [(38, 0, 1), (50, 1, 16), (92, 17, 8), (22, 25, 1), (22, 26, 1), (3, 27, 1), (3, 28, 1)], 29, 232, [.pointer none, .bool false, .int .u64 0, .bool false, .int .u64 0, .bool false, .int .u64 0, .bool false, .int .u64 0, .bool false, .int .u64 0, .bool false, .int .u64 0, .bool false, .int .u64 0, .bool false, .int .u64 0, .int .u64 0, .int .u64 0, .int .u64 0, .int .u64 0, .int .u64 0, .int .u64 0, .int .u64 0, .int .u64 0, .int .u64 0, .int .u64 0, .int .i64 0, .int .i64 0]⟩ := by rfl
@[go_sem] theorem T_99 : T 99 = some ⟨.struct [(3, 0, 1), (3, 1, 1), (22, 2, 1)], 3, 24, [.int .i64 0, .int .i64 0, .int .u64 0]⟩ := by rfl
@[go_sem] theorem T_100 : T 100 = some ⟨.struct [(3, 0, 1), (3, 1, 1), (22, 2, 1)], 3, 24, [.int .i64 0, .int .i64 0, .int .u64 0]⟩ := by rfl
@[go_sem] theorem T_103 : T 103 = some ⟨.struct [(9, 0, 1), (22, 1, 1)], 2, 24, [.string ⟨#[]⟩, .int .u64 0]⟩ := by rfl
@[go_sem] theorem T_104 : T 104 = some ⟨.slice 69, 1, 24, [.slice none 0 0]⟩ := by rfl
@[go_sem] theorem T_106 : T 106 = some ⟨.struct [(3, 0, 1), (3, 1, 1), (22, 2, 1)], 3, 24, [.int .i64 0, .int .i64 0, .int .u64 0]⟩ := by rfl
@[go_sem] theorem T_108 : T 108 = some ⟨.struct [(72, 0, 1), (45, 1, 1), (3, 2, 1), (45, 3, 1), (75, 4, 1), (4, 5, 1)], 6, 112, [.slice none 0 0, .slice none 0 0, .int .i64 0, .slice none 0 0, .slice none 0 0, .bool false]⟩ := by rfl
@[go_sem] theorem T_109 : T 109 = some ⟨.struct [(72, 0, 1), (45, 1, 1), (3, 2, 1), (45, 3, 1), (75, 4, 1), (4, 5, 1)], 6, 112, [.slice none 0 0, .slice none 0 0, .int .i64 0, .slice none 0 0, .slice none 0 0, .bool false]⟩ := by rfl
@[go_sem] theorem T_115 : T 115 = some ⟨.struct [(4, 0, 1), (4, 1, 1)], 2, 2, [.bool false, .bool false]⟩ := by rfl
@[go_sem] theorem T_116 : T 116 = some ⟨.struct [(4, 0, 1), (4, 1, 1)], 2, 2, [.bool false, .bool false]⟩ := by rfl
@[go_sem] theorem T_120 : T 120 = some ⟨.func, 1, 8, [.nilFunc]⟩ := by rfl
@[go_sem] theorem T_121 : T 121 = some ⟨.func, 1, 8, [.nilFunc]⟩ := by rfl
@[go_sem] theorem T_135 : T 135 = some ⟨.array 0 16, 0, 0, []⟩ := by rfl
@[go_sem] theorem T_138 : T 138 = some ⟨.int .u32, 1, 4, [.int .u32 0]⟩ := by rfl
@[go_sem] theorem T_139 : T 139 = some ⟨.int .u8, 1, 1, [.int .u8 0]⟩ := by rfl
@[go_sem] theorem T_140 : T 140 = some ⟨.int .u8, 1, 1, [.int .u8 0]⟩ := by rfl
@[go_sem] theorem T_141 : T 141 = some ⟨.func, 1, 8, [.nilFunc]⟩ := by rfl
@[go_sem] theorem T_142 : T 142 = some ⟨.pointer 5, 1, 8, [.pointer none]⟩ := by rfl
@[go_sem] theorem T_143 : T 143 = some ⟨.int .i32, 1, 4, [.int .i32 0]⟩ := by rfl
@[go_sem] theorem T_144 : T 144 = some ⟨.int .i32, 1, 4, [.int .i32 0]⟩ := by rfl

theorem Ti_1 : tiOf Try.prog 1 = some ⟨.func, 1, 8, [.nilFunc]⟩ := by kernel_rfl
theorem Ti_2 : tiOf Try.prog 2 = some ⟨.int .i64, 1, 8, [.int .i64 0]⟩ := by kernel_rfl
theorem Ti_3 : tiOf Try.prog 3 = some ⟨.int .i64, 1, 8, [.int .i64 0]⟩ := by kernel_rfl
theorem Ti_4 : tiOf Try.prog 4 = some ⟨.bool, 1, 1, [.bool false]⟩ := by kernel_rfl
theorem Ti_5 : tiOf Try.prog 5 = some ⟨.int .u8, 1, 1, [.int .u8 0]⟩ := by kernel_rfl
theorem Ti_6 : tiOf Try.prog 6 = some ⟨.int .u8, 1, 1, [.int .u8 0]⟩ := by kernel_rfl
theorem Ti_9 : tiOf Try.prog 9 = some ⟨.string, 1, 16, [.string ⟨#[]⟩]⟩ := by kernel_rfl
theorem Ti_10 : tiOf Try.prog 10 = some ⟨.string, 1, 16, [.string ⟨#[]⟩]⟩ := by kernel_rfl
theorem Ti_11 : tiOf Try.prog 11 = some ⟨.string, 1, 16, [.string ⟨#[]⟩]⟩ := by kernel_rfl
theorem Ti_12 : tiOf Try.prog 12 = some ⟨.int .u64, 1, 8, [.int .u64 0]⟩ := by kernel_rfl
theorem Ti_15 : tiOf Try.prog 15 = some ⟨.pointer 134, 1, 8, [.pointer none]⟩ := by kernel_rfl
theorem Ti_16 : tiOf Try.prog 16 = some ⟨.pointer 137, 1, 8, [.pointer none]⟩ := by kernel_rfl
theorem Ti_17 : tiOf Try.prog 17 = some ⟨.pointer 146, 1, 8, [.pointer none]⟩ := by kernel_rfl
theorem Ti_21 : tiOf Try.prog 21 = some ⟨.int .i32, 1, 4, [.int .i32 0]⟩ := by kernel_rfl
theorem Ti_22 : tiOf Try.prog 22 = some ⟨.int .u64, 1, 8, [.int .u64 0]⟩ := by kernel_rfl
theorem Ti_26 : tiOf Try.prog 26 = some ⟨.struct [(4, 0, 1), (22, 1, 1)], 2, 16, [.bool false, .int .u64 0]⟩ := by kernel_rfl
theorem Ti_27 : tiOf Try.prog 27 = some ⟨.struct [(4, 0, 1), (22, 1, 1)], 2, 16, [.bool false, .int .u64 0]⟩ := by kernel_rfl
theorem Ti_28 : tiOf Try.prog 28 = some ⟨.struct [(9, 0, 1), (22, 1, 1)], 2, 24, [.string ⟨#[]⟩, .int .u64 0]⟩ := by kernel_rfl
theorem Ti_29 : tiOf Try.prog 29 = some ⟨.struct [(9, 0, 1), (22, 1, 1)], 2, 24, [.string ⟨#[]⟩, .int .u64 0]⟩ := by kernel_rfl
theorem Ti_30 : tiOf Try.prog 30 = some ⟨.slice 29, 1, 24, [.slice none 0 0]⟩ := by kernel_rfl
theorem Ti_31 : tiOf Try.prog 31 = some ⟨.struct [(3, 0, 1), (3, 1, 1), (3, 2, 1), (27, 3, 2), (27, 5, 2), (4, 7, 1), (4, 8, 1), (3, 9, 1), (3, 10, 1), (3, 11, 1), (3, 12, 1)], 13, 96, [.int .i64 0, .int .i64 0, .int .i64 0, .bool false, .int .u64 0, .bool false, .int .u64 0, .bool false, .bool false, .int .i64 0, .int .i64 0, .int .i64 0, .int .i64 0]⟩ := by kernel_rfl
theorem Ti_32 : tiOf Try.prog 32 = some ⟨.struct [(3, 0, 1), (3, 1, 1), (3, 2, 1), (27, 3, 2), (27, 5, 2), (4, 7, 1), (4, 8, 1), (3, 9, 1), (3, 10, 1), (3, 11, 1), (3, 12, 1)], 13, 96, [.int .i64 0, .int .i64 0, .int .i64 0, .bool false, .int .u64 0, .bool false, .int .u64 0, .bool false, .bool false, .int .i64 0, .int .i64 0, .int .i64 0, .int .i64 0]⟩ := by kernel_rfl
theorem Ti_33 : tiOf Try.prog 33 = some ⟨.slice 32, 1, 24, [.slice none 0 0]⟩ := by kernel_rfl
theorem Ti_34 : tiOf Try.prog 34 = some ⟨.slice 33, 1, 24, [.slice none 0 0]⟩ := by kernel_rfl
theorem Ti_35 : tiOf Try.prog 35 = some ⟨.slice 100, 1, 24, [.slice none 0 0]⟩ := by kernel_rfl
theorem Ti_36 : tiOf Try.prog 36 = some ⟨.struct [(30, 0, 1), (34, 1, 1), (35, 2, 1)], 3, 72, [.slice none 0 0, .slice none 0 0, .slice none 0 0]⟩ := by kernel_rfl
theorem Ti_37 : tiOf Try.prog 37 = some ⟨.struct [(30, 0, 1), (34, 1, 1), (35, 2, 1)], 3, 72, [.slice none 0 0, .slice none 0 0, .slice none 0 0]⟩ := by kernel_rfl
theorem Ti_38 : tiOf Try.prog 38 = some ⟨.pointer 49, 1, 8, [.pointer none]⟩ := by kernel_rfl
theorem Ti_40 : tiOf Try.prog 40 = some ⟨.pointer 37, 1, 8, [.pointer none]⟩ := by kernel_rfl
theorem Ti_41 : tiOf Try.prog 41 = some ⟨.struct [(4, 0, 1), (22, 1, 1)], 2, 16, [.bool false, .int .u64 0]⟩ := by kernel_rfl
theorem Ti_42 : tiOf Try.prog 42 = some ⟨.struct [(4, 0, 1), (22, 1, 1)], 2, 16, [.bool false, .int .u64 0]⟩ := by kernel_rfl
theorem Ti_43 : tiOf Try.prog 43 = some ⟨.slice 42, 1, 24, [.slice none 0 0]⟩ := by kernel_rfl
theorem Ti_44 : tiOf Try.prog 44 = some ⟨.slice 4, 1, 24, [.slice none 0 0]⟩ := by kernel_rfl
theorem Ti_45 : tiOf Try.prog 45 = some ⟨.slice 3, 1, 24, [.slice none 0 0]⟩ := by kernel_rfl
theorem Ti_46 : tiOf Try.prog 46 = some ⟨.slice 22, 1, 24, [.slice none 0 0]⟩ := by kernel_rfl
theorem Ti_47 : tiOf Try.prog 47 = some ⟨.slice 50, 1, 24, [.slice none 0 0]⟩ := by kernel_rfl
theorem Ti_48 : tiOf Try.prog 48 = some ⟨.struct [(45, 0, 1), (43, 1, 1), (45, 2, 1), (46, 3, 1), (46, 4, 1), (46, 5, 1), (46, 6, 1), (47, 7, 1), (4, 8, 1)], 9, 200, [.slice none 0 0, .slice none 0 0, .slice none 0 0, .slice none 0 0, .slice none 0 0, .slice none 0 0, .slice none 0 0, .slice none 0 0, .bool false]⟩ := by kernel_rfl
theorem Ti_49 : tiOf Try.prog 49 = some ⟨.struct [(45, 0, 1), (43, 1, 1), (45, 2, 1), (46, 3, 1), (46, 4, 1), (46, 5, 1), (46, 6, 1), (47, 7, 1), (4, 8, 1)], 9, 200, [.slice none 0 0, .slice none 0 0, .slice none 0 0, .slice none 0 0, .slice none 0 0, .slice none 0 0, .slice none 0 0, .slice none 0 0, .bool false]⟩ := by kernel_rfl
theorem Ti_50 : tiOf Try.prog 50 = some ⟨.array 8 42, 16, 128, [.bool false, .int .u64 0, .bool false, .int .u64 0, .bool false, .int .u64 0, .bool false, .int .u64 0, .bool false, .int .u64 0, .bool false, .int .u64 0, .bool false, .int .u64 0, .bool false, .int .u64 0]⟩ := by kernel_rfl
theorem Ti_53 : tiOf Try.prog 53 = some ⟨.int .i64, 1, 8, [.int .i64 0]⟩ := by kernel_rfl
theorem Ti_55 : tiOf Try.prog 55 = some ⟨.slice 103, 1, 24, [.slice none 0 0]⟩ := by kernel_rfl
theorem Ti_56 : tiOf Try.prog 56 = some ⟨.slice 104, 1, 24, [.slice none 0 0]⟩ := by kernel_rfl
theorem Ti_57 : tiOf Try.prog 57 = some ⟨.slice 106, 1, 24, [.slice none 0 0]⟩ := by kernel_rfl
theorem Ti_58 : tiOf Try.prog 58 = some ⟨.struct [(55, 0, 1), (56, 1, 1), (57, 2, 1)], 3, 72, [.slice none 0 0, .slice none 0 0, .slice none 0 0]⟩ := by kernel_rfl
theorem Ti_59 : tiOf Try.prog 59 = some ⟨.struct [(55, 0, 1), (56, 1, 1), (57, 2, 1)], 3, 72, [.slice none 0 0, .slice none 0 0, .slice none 0 0]⟩ := by kernel_rfl
theorem Ti_61 : tiOf Try.prog 61 = some ⟨.slice 66, 1, 24, [.slice none 0 0]⟩ := by kernel_rfl
theorem Ti_63 : tiOf Try.prog 63 = some ⟨.slice 71, 1, 24, [.slice none 0 0]⟩ := by kernel_rfl
theorem Ti_65 : tiOf Try.prog 65 = some ⟨.struct [(3, 0, 1), (3, 1, 1)], 2, 16, [.int .i64 0, .int .i64 0]⟩ := by kernel_rfl
theorem Ti_66 : tiOf Try.prog 66 = some ⟨.struct [(3, 0, 1), (3, 1, 1)], 2, 16, [.int .i64 0, .int .i64 0]⟩ := by kernel_rfl
theorem Ti_67 : tiOf Try.prog 67 = some ⟨.struct [(4, 0, 1), (22, 1, 1)], 2, 16, [.bool false, .int .u64 0]⟩ := by kernel_rfl
theorem Ti_68 : tiOf Try.prog 68 = some ⟨.struct [(3, 0, 1), (3, 1, 1), (3, 2, 1), (67, 3, 2), (67, 5, 2), (4, 7, 1), (4, 8, 1), (3, 9, 1), (3, 10, 1), (3, 11, 1), (3, 12, 1)], 13, 96, [.int .i64 0, .int .i64 0, .int .i64 0, .bool false, .int .u64 0, .bool false, .int .u64 0, .bool false, .bool false, .int .i64 0, .int .i64 0, .int .i64 0, .int .i64 0]⟩ := by kernel_rfl
theorem Ti_69 : tiOf Try.prog 69 = some ⟨.struct [(3, 0, 1), (3, 1, 1), (3, 2, 1), (67, 3, 2), (67, 5, 2), (4, 7, 1), (4, 8, 1), (3, 9, 1), (3, 10, 1), (3, 11, 1), (3, 12, 1)], 13, 96, [.int .i64 0, .int .i64 0, .int .i64 0, .bool false, .int .u64 0, .bool false, .int .u64 0, .bool false, .bool false, .int .i64 0, .int .i64 0, .int .i64 0, .int .i64 0]⟩ := by kernel_rfl
theorem Ti_70 : tiOf Try.prog 70 = some ⟨.struct [(3, 0, 1), (3, 1, 1), (69, 2, 13)], 15, 112, [.int .i64 0, .int .i64 0, .int .i64 0, .int .i64 0, .int .i64 0, .bool false, .int .u64 0, .bool false, .int .u64 0, .bool false, .bool false, .int .i64 0, .int .i64 0, .int .i64 0, .int .i64 0]⟩ := by kernel_rfl
theorem Ti_71 : tiOf Try.prog 71 = some ⟨.struct [(3, 0, 1), (3, 1, 1), (69, 2, 13)], 15, 112, [.int .i64 0, .int .i64 0, .int .i64 0, .int .i64 0, .int .i64 0, .bool false, .int .u64 0, .bool false, .int .u64 0, .bool false, .bool false, .int .i64 0, .int .i64 0, .int .i64 0, .int .i64 0]⟩ := by kernel_rfl
theorem Ti_72 : tiOf Try.prog 72 = some ⟨.slice 82, 1, 24, [.slice none 0 0]⟩ := by kernel_rfl
theorem Ti_75 : tiOf Try.prog 75 = some ⟨.slice 84, 1, 24, [.slice none 0 0]⟩ := by kernel_rfl
theorem Ti_76 : tiOf Try.prog 76 = some ⟨.slice 72, 1, 24, [.slice none 0 0]⟩ := by kernel_rfl
theorem Ti_77 : tiOf Try.prog 77 = some ⟨.slice 45, 1, 24, [.slice none 0 0]⟩ := by kernel_rfl
theorem Ti_78 : tiOf Try.prog 78 = some ⟨.struct [(75, 0, 1), (76, 1, 1), (77, 2, 1), (4, 3, 1)], 4, 80, [.slice none 0 0, .slice none 0 0, .slice none 0 0, .bool false]⟩ := by kernel_rfl
theorem Ti_79 : tiOf Try.prog 79 = some ⟨.struct [(75, 0, 1), (76, 1, 1), (77, 2, 1), (4, 3, 1)], 4, 80, [.slice none 0 0, .slice none 0 0, .slice none 0 0, .bool false]⟩ := by kernel_rfl
theorem Ti_81 : tiOf Try.prog 81 = some ⟨.struct [(4, 0, 1), (22, 1, 1), (45, 2, 1)], 3, 40, [.bool false, .int .u64 0, .slice none 0 0]⟩ := by kernel_rfl
theorem Ti_82 : tiOf Try.prog 82 = some ⟨.struct [(4, 0, 1), (22, 1, 1), (45, 2, 1)], 3, 40, [.bool false, .int .u64 0, .slice none 0 0]⟩ := by kernel_rfl
theorem Ti_83 : tiOf Try.prog 83 = some ⟨.struct [(3, 0, 1), (3, 1, 1), (82, 2, 3), (45, 5, 1), (45, 6, 1), (45, 7, 1)], 8, 128, [.int .i64 0, .int .i64 0, .bool false, .int .u64 0, .slice none 0 0, .slice none 0 0, .slice none 0 0, .slice none 0 0]⟩ := by kernel_rfl
theorem Ti_84 : tiOf Try.prog 84 = some ⟨.struct [(3, 0, 1), (3, 1, 1), (82, 2, 3), (45, 5, 1), (45, 6, 1), (45, 7, 1)], 8, 128, [.int .i64 0, .int .i64 0, .bool false, .int .u64 0, .slice none 0 0, .slice none 0 0, .slice none 0 0, .slice none 0 0]⟩ := by kernel_rfl
theorem Ti_91 : tiOf Try.prog 91 = some ⟨.pointer 94, 1, 8, [.pointer none]⟩ := by kernel_rfl
theorem Ti_92 : tiOf Try.prog 92 = some ⟨.array 8 22, 8, 64, [.int .u64 0, .int .u64 0, .int .u64 0, .int .u64 0, .int .u64 0, .int .u64 0, .int .u64 0, .int .u64 0]⟩ := by kernel_rfl
theorem Ti_93 : tiOf Try.prog 93 = some ⟨.struct [(38, 0, 1), (50, 1, 16), (92, 17, 8), (22, 25, 1), (22, 26, 1), (3, 27, 1), (3, 28, 1)], 29, 232, [.pointer none, .bool false, .int .u64 0, .bool false, .int .u64 0, .bool false, .int .u64 0, .bool false, .int .u64 0, .bool false, .int .u64 0, .bool false, .int .u64 0, .bool false, .int .u64 0, .bool false, .int .u64 0, .int .u64 0, .int .u64 0, .int .u64 0, .int .u64 0, .int .u64 0, .int .u64 0, .int .u64 0, .int .u64 0, .int .u64 0, .int .u64 0, .int .i64 0, .int .i64 0]⟩ := by kernel_rfl
theorem Ti_94 : tiOf Try.prog 94 = some ⟨.struct [(38, 0, 1), (50, 1, 16), (92, 17, 8), (22, 25, 1), (22, 26, 1), (3, 27, 1), (3, 28, 1)], 29, 232, [.pointer none, .bool false, .int .u64 0, .bool false, .int .u64 0, .bool false, .int .u64 0, .bool false, .int .u64 0, .bool false, .int .u64 0, .bool false, .int .u64 0, .bool false, .int .u64 0, .bool false, .int .u64 0, .int .u64 0, .int .u64 0, .int .u64 0, .int .u64 0, .int .u64 0, .int .u64 0, .int .u64 0, .int .u64 0, .int .u64 0, .int .u64 0, .int .i64 0, .int .i64 0]⟩ := by kernel_rfl
theorem Ti_99 : tiOf Try.prog 99 = some ⟨.struct [(3, 0, 1), (3, 1, 1), (22, 2, 1)], 3, 24, [.int .i64 0, .int .i64 0, .int .u64 0]⟩ := by kernel_rfl
theorem Ti_100 : tiOf Try.prog 100 = some ⟨.struct [(3, 0, 1), (3, 1, 1), (22, 2, 1)], 3, 24, [.int .i64 0, .int .i64 0, .int .u64 0]⟩ := by kernel_rfl
theorem Ti_103 : tiOf Try.prog 103 = some ⟨.struct [(9, 0, 1), (22, 1, 1)], 2, 24, [.string ⟨#[]⟩, .int .u64 0]⟩ := by kernel_rfl
theorem Ti_104 : tiOf Try.prog 104 = some ⟨.slice 69, 1, 24, [.slice none 0 0]⟩ := by kernel_rfl
theorem Ti_106 : tiOf Try.prog 106 = some ⟨.struct [(3, 0, 1), (3, 1, 1), (22, 2, 1)], 3, 24, [.int .i64 0, .int .i64 0, .int .u64 0]⟩ := by kernel_rfl
theorem Ti_108 : tiOf Try.prog 108 = some ⟨.struct [(72, 0, 1), (45, 1, 1), (3, 2, 1), (45, 3, 1), (75, 4, 1), (4, 5, 1)], 6, 112, [.slice none 0 0, .slice none 0 0, .int .i64 0, .slice none 0 0, .slice none 0 0, .bool false]⟩ := by kernel_rfl
theorem Ti_109 : tiOf Try.prog 109 = some ⟨.struct [(72, 0, 1), (45, 1, 1), (3, 2, 1), (45, 3, 1), (75, 4, 1), (4, 5, 1)], 6, 112, [.slice none 0 0, .slice none 0 0, .int .i64 0, .slice none 0 0, .slice none 0 0, .bool false]⟩ := by kernel_rfl
theorem Ti_115 : tiOf Try.prog 115 = some ⟨.struct [(4, 0, 1), (4, 1, 1)], 2, 2, [.bool false, .bool false]⟩ := by kernel_rfl
theorem Ti_116 : tiOf Try.prog 116 = some ⟨.struct [(4, 0, 1), (4, 1, 1)], 2, 2, [.bool false, .bool false]⟩ := by kernel_rfl
theorem Ti_120 : tiOf Try.prog 120 = some ⟨.func, 1, 8, [.nilFunc]⟩ := by kernel_rfl
theorem Ti_121 : tiOf Try.prog 121 = some ⟨.func, 1, 8, [.nilFunc]⟩ := by kernel_rfl
theorem Ti_135 : tiOf Try.prog 135 = some ⟨.array 0 16, 0, 0, []⟩ := by kernel_rfl
theorem Ti_138 : tiOf Try.prog 138 = some ⟨.int .u32, 1, 4, [.int .u32 0]⟩ := by kernel_rfl
theorem Ti_139 : tiOf Try.prog 139 = some ⟨.int .u8, 1, 1, [.int .u8 0]⟩ := by kernel_rfl
theorem Ti_140 : tiOf Try.prog 140 = some ⟨.int .u8, 1, 1, [.int .u8 0]⟩ := by kernel_rfl
theorem Ti_141 : tiOf Try.prog 141 = some ⟨.func, 1, 8, [.nilFunc]⟩ := by kernel_rfl
theorem Ti_142 : tiOf Try.prog 142 = some ⟨.pointer 5, 1, 8, [.pointer none]⟩ := by kernel_rfl
theorem Ti_143 : tiOf Try.prog 143 = some ⟨.int .i32, 1, 4, [.int .i32 0]⟩ := by kernel_rfl
theorem Ti_144 : tiOf Try.prog 144 = some ⟨.int .i32, 1, 4, [.int .i32 0]⟩ := by kernel_rfl

theorem mem_lookup {t : Nat} {ti : TI} : ∀ {l : List (Nat × TI)}, l.lookup t = some ti → (t, ti) ∈ l
  | [], h => by simp at h
  | (s, x) :: r, h => by
    rw [List.lookup_cons] at h
    split at h
    · rename_i e
      cases h
      rw [eq_of_beq e]; simp
    · exact List.mem_cons_of_mem _ (mem_lookup h)

theorem all_cons {Q : Nat × TI → Prop} {x : Nat × TI} {l : List (Nat × TI)} (h : Q x) (hs : ∀ p ∈ l, Q p) : ∀ p ∈ x :: l, Q p := fun p hp => by
  rcases List.mem_cons.1 hp with rfl | hp
  · exact h
  · exact hs p hp
theorem all_nil {Q : Nat × TI → Prop} : ∀ p ∈ ([] : List (Nat × TI)), Q p := fun p hp => by simp at hp

set_option maxRecDepth 100000 in
theorem Tl_ok : ∀ p ∈ Tl, tiOf Try.prog p.1 = some p.2 :=
  all_cons Ti_1 <| all_cons Ti_2 <| all_cons Ti_3 <| all_cons Ti_4 <| all_cons Ti_5 <| all_cons Ti_6 <| all_cons Ti_9 <| all_cons Ti_10 <| all_cons Ti_11 <| all_cons Ti_12 <| all_cons Ti_15 <| all_cons Ti_16 <| all_cons Ti_17 <| all_cons Ti_21 <| all_cons Ti_22 <| all_cons Ti_26 <| all_cons Ti_27 <| all_cons Ti_28 <| all_cons Ti_29 <| all_cons Ti_30 <| all_cons Ti_31 <| all_cons Ti_32 <| all_cons Ti_33 <| all_cons Ti_34 <| all_cons Ti_35 <| all_cons Ti_36 <| all_cons Ti_37 <| all_cons Ti_38 <| all_cons Ti_40 <| all_cons Ti_41 <| all_cons Ti_42 <| all_cons Ti_43 <| all_cons Ti_44 <| all_cons Ti_45 <| all_cons Ti_46 <| all_cons Ti_47 <| all_cons Ti_48 <| all_cons Ti_49 <| all_cons Ti_50 <| all_cons Ti_53 <| all_cons Ti_55 <| all_cons Ti_56 <| all_cons Ti_57 <| all_cons Ti_58 <| all_cons Ti_59 <| all_cons Ti_61 <| all_cons Ti_63 <| all_cons Ti_65 <| all_cons Ti_66 <| all_cons Ti_67 <| all_cons Ti_68 <| all_cons Ti_69 <| all_cons Ti_70 <| all_cons Ti_71 <| all_cons Ti_72 <| all_cons Ti_75 <| all_cons Ti_76 <| all_cons Ti_77 <| all_cons Ti_78 <| all_cons Ti_79 <| all_cons Ti_81 <| all_cons Ti_82 <| all_cons Ti_83 <| all_cons Ti_84 <| all_cons Ti_91 <| all_cons Ti_92 <| all_cons Ti_93 <| all_cons Ti_94 <| all_cons Ti_99 <| all_cons Ti_100 <| all_cons Ti_103 <| all_cons Ti_104 <| all_cons Ti_106 <| all_cons Ti_108 <| all_cons Ti_109 <| all_cons Ti_115 <| all_cons Ti_116 <| all_cons Ti_120 <| all_cons Ti_121 <| all_cons Ti_135 <| all_cons Ti_138 <| all_cons Ti_139 <| all_cons Ti_140 <| all_cons Ti_141 <| all_cons Ti_142 <| all_cons Ti_143 <| all_cons Ti_144 <| all_nil 

theorem T_ok : TabOk Try.prog T := fun t ti h => Tl_ok (t, ti) (mem_lookup h)
end Go.Proofs.Try
