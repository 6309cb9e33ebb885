/- The table of the types that the abstract values know, checked against the program's own. -/
import Derived.Test.YtpdhoimpbiehkaaAbMach3
import Derived.Test.YtpdhoimpbiehkaaProg
import Derived.KernelRfl
namespace Go.Proofs.Ytpdhoimpbiehkaa.Ab
open Go
def tabL : List (Nat × TI) := [(2, ⟨.int .i64, 1, 8, [.int .i64 0]⟩),
  (3, ⟨.int .i64, 1, 8, [.int .i64 0]⟩),
  (4, ⟨.bool, 1, 1, [.bool false]⟩),
  (5, ⟨.int .u8, 1, 1, [.int .u8 0]⟩),
  (6, ⟨.int .u8, 1, 1, [.int .u8 0]⟩),
  (7, ⟨.struct [(0, 1), (1, 1), (2, 1), (3, 1)], 4, 24, [.int .i64 0, .int .i64 0, .bool false, .int .u8 0]⟩),
  (8, ⟨.struct [(0, 1), (1, 1), (2, 1), (3, 1)], 4, 24, [.int .i64 0, .int .i64 0, .bool false, .int .u8 0]⟩),
  (9, ⟨.str, 1, 16, [.str ⟨#[]⟩]⟩),
  (10, ⟨.str, 1, 16, [.str ⟨#[]⟩]⟩),
  (11, ⟨.str, 1, 16, [.str ⟨#[]⟩]⟩),
  (12, ⟨.int .u64, 1, 8, [.int .u64 0]⟩),
  (13, ⟨.struct [(0, 1), (1, 1)], 2, 24, [.str ⟨#[]⟩, .int .u64 0]⟩),
  (14, ⟨.struct [(0, 1), (1, 1)], 2, 24, [.str ⟨#[]⟩, .int .u64 0]⟩),
  (15, ⟨.ptr 134, 1, 8, [.nilp]⟩),
  (16, ⟨.ptr 137, 1, 8, [.nilp]⟩),
  (17, ⟨.ptr 146, 1, 8, [.nilp]⟩),
  (18, ⟨.struct [(0, 1)], 1, 8, [.nilp]⟩),
  (19, ⟨.struct [(0, 1)], 1, 8, [.nilp]⟩),
  (21, ⟨.int .i32, 1, 4, [.int .i32 0]⟩),
  (25, ⟨.slice 5, 1, 24, [.nils]⟩),
  (28, ⟨.slice 3, 1, 24, [.nils]⟩),
  (41, ⟨.slice 114, 1, 24, [.nils]⟩),
  (42, ⟨.struct [(0, 1), (1, 1), (2, 1)], 3, 40, [.int .i64 0, .int .i64 0, .nils]⟩),
  (43, ⟨.struct [(0, 1), (1, 1), (2, 1)], 3, 40, [.int .i64 0, .int .i64 0, .nils]⟩),
  (46, ⟨.slice 58, 1, 24, [.nils]⟩),
  (47, ⟨.struct [(0, 1), (1, 1), (2, 1)], 3, 40, [.int .i64 0, .int .i64 0, .nils]⟩),
  (48, ⟨.struct [(0, 1), (1, 1), (2, 1)], 3, 40, [.int .i64 0, .int .i64 0, .nils]⟩),
  (57, ⟨.struct [(0, 1), (1, 1), (2, 1), (3, 1)], 4, 32, [.int .i64 0, .int .i64 0, .int .i64 0, .int .i64 0]⟩),
  (58, ⟨.struct [(0, 1), (1, 1), (2, 1), (3, 1)], 4, 32, [.int .i64 0, .int .i64 0, .int .i64 0, .int .i64 0]⟩),
  (59, ⟨.struct [(0, 1), (1, 1)], 2, 32, [.int .i64 0, .nils]⟩),
  (60, ⟨.struct [(0, 1), (1, 1)], 2, 32, [.int .i64 0, .nils]⟩),
  (64, ⟨.struct [(0, 1), (1, 1)], 2, 32, [.int .i64 0, .nils]⟩),
  (71, ⟨.slice 28, 1, 24, [.nils]⟩),
  (99, ⟨.ptr 120, 1, 8, [.nilp]⟩),
  (102, ⟨.ptr 60, 1, 8, [.nilp]⟩),
  (110, ⟨.int .u64, 1, 8, [.int .u64 0]⟩),
  (114, ⟨.struct [(0, 1), (1, 1), (2, 1), (3, 1)], 4, 32, [.int .i64 0, .int .i64 0, .int .i64 0, .int .i64 0]⟩),
  (119, ⟨.struct [(0, 1), (1, 1), (2, 1)], 3, 40, [.nils, .int .i64 0, .int .i64 0]⟩),
  (120, ⟨.struct [(0, 1), (1, 1), (2, 1)], 3, 40, [.nils, .int .i64 0, .int .i64 0]⟩),
  (126, ⟨.int .u32, 1, 4, [.int .u32 0]⟩),
  (129, ⟨.int .u64, 1, 8, [.int .u64 0]⟩),
  (133, ⟨.struct [(0, 1), (1, 1), (2, 1), (3, 1)], 4, 40, [.nilp, .nilp, .nilp, .str ⟨#[]⟩]⟩),
  (134, ⟨.struct [(0, 1), (1, 1), (2, 1), (3, 1)], 4, 40, [.nilp, .nilp, .nilp, .str ⟨#[]⟩]⟩),
  (139, ⟨.int .u8, 1, 1, [.int .u8 0]⟩),
  (140, ⟨.int .u8, 1, 1, [.int .u8 0]⟩)]
def tab : Tab := tabOf tabL
theorem tab_ok : Tab.ok Go.Proofs.Try.prog tab := tabOf_ok (by kernel_rfl)
theorem tab_2 : tab 2 = some ⟨.int .i64, 1, 8, [.int .i64 0]⟩ := rfl
theorem tab_3 : tab 3 = some ⟨.int .i64, 1, 8, [.int .i64 0]⟩ := rfl
theorem tab_4 : tab 4 = some ⟨.bool, 1, 1, [.bool false]⟩ := rfl
theorem tab_5 : tab 5 = some ⟨.int .u8, 1, 1, [.int .u8 0]⟩ := rfl
theorem tab_6 : tab 6 = some ⟨.int .u8, 1, 1, [.int .u8 0]⟩ := rfl
theorem tab_7 : tab 7 = some ⟨.struct [(0, 1), (1, 1), (2, 1), (3, 1)], 4, 24, [.int .i64 0, .int .i64 0, .bool false, .int .u8 0]⟩ := rfl
theorem tab_8 : tab 8 = some ⟨.struct [(0, 1), (1, 1), (2, 1), (3, 1)], 4, 24, [.int .i64 0, .int .i64 0, .bool false, .int .u8 0]⟩ := rfl
theorem tab_9 : tab 9 = some ⟨.str, 1, 16, [.str ⟨#[]⟩]⟩ := rfl
theorem tab_10 : tab 10 = some ⟨.str, 1, 16, [.str ⟨#[]⟩]⟩ := rfl
theorem tab_11 : tab 11 = some ⟨.str, 1, 16, [.str ⟨#[]⟩]⟩ := rfl
theorem tab_12 : tab 12 = some ⟨.int .u64, 1, 8, [.int .u64 0]⟩ := rfl
theorem tab_13 : tab 13 = some ⟨.struct [(0, 1), (1, 1)], 2, 24, [.str ⟨#[]⟩, .int .u64 0]⟩ := rfl
theorem tab_14 : tab 14 = some ⟨.struct [(0, 1), (1, 1)], 2, 24, [.str ⟨#[]⟩, .int .u64 0]⟩ := rfl
theorem tab_15 : tab 15 = some ⟨.ptr 134, 1, 8, [.nilp]⟩ := rfl
theorem tab_16 : tab 16 = some ⟨.ptr 137, 1, 8, [.nilp]⟩ := rfl
theorem tab_17 : tab 17 = some ⟨.ptr 146, 1, 8, [.nilp]⟩ := rfl
theorem tab_18 : tab 18 = some ⟨.struct [(0, 1)], 1, 8, [.nilp]⟩ := rfl
theorem tab_19 : tab 19 = some ⟨.struct [(0, 1)], 1, 8, [.nilp]⟩ := rfl
theorem tab_21 : tab 21 = some ⟨.int .i32, 1, 4, [.int .i32 0]⟩ := rfl
theorem tab_25 : tab 25 = some ⟨.slice 5, 1, 24, [.nils]⟩ := rfl
theorem tab_28 : tab 28 = some ⟨.slice 3, 1, 24, [.nils]⟩ := rfl
theorem tab_41 : tab 41 = some ⟨.slice 114, 1, 24, [.nils]⟩ := rfl
theorem tab_42 : tab 42 = some ⟨.struct [(0, 1), (1, 1), (2, 1)], 3, 40, [.int .i64 0, .int .i64 0, .nils]⟩ := rfl
theorem tab_43 : tab 43 = some ⟨.struct [(0, 1), (1, 1), (2, 1)], 3, 40, [.int .i64 0, .int .i64 0, .nils]⟩ := rfl
theorem tab_46 : tab 46 = some ⟨.slice 58, 1, 24, [.nils]⟩ := rfl
theorem tab_47 : tab 47 = some ⟨.struct [(0, 1), (1, 1), (2, 1)], 3, 40, [.int .i64 0, .int .i64 0, .nils]⟩ := rfl
theorem tab_48 : tab 48 = some ⟨.struct [(0, 1), (1, 1), (2, 1)], 3, 40, [.int .i64 0, .int .i64 0, .nils]⟩ := rfl
theorem tab_57 : tab 57 = some ⟨.struct [(0, 1), (1, 1), (2, 1), (3, 1)], 4, 32, [.int .i64 0, .int .i64 0, .int .i64 0, .int .i64 0]⟩ := rfl
theorem tab_58 : tab 58 = some ⟨.struct [(0, 1), (1, 1), (2, 1), (3, 1)], 4, 32, [.int .i64 0, .int .i64 0, .int .i64 0, .int .i64 0]⟩ := rfl
theorem tab_59 : tab 59 = some ⟨.struct [(0, 1), (1, 1)], 2, 32, [.int .i64 0, .nils]⟩ := rfl
theorem tab_60 : tab 60 = some ⟨.struct [(0, 1), (1, 1)], 2, 32, [.int .i64 0, .nils]⟩ := rfl
theorem tab_64 : tab 64 = some ⟨.struct [(0, 1), (1, 1)], 2, 32, [.int .i64 0, .nils]⟩ := rfl
theorem tab_71 : tab 71 = some ⟨.slice 28, 1, 24, [.nils]⟩ := rfl
theorem tab_99 : tab 99 = some ⟨.ptr 120, 1, 8, [.nilp]⟩ := rfl
theorem tab_102 : tab 102 = some ⟨.ptr 60, 1, 8, [.nilp]⟩ := rfl
theorem tab_110 : tab 110 = some ⟨.int .u64, 1, 8, [.int .u64 0]⟩ := rfl
theorem tab_114 : tab 114 = some ⟨.struct [(0, 1), (1, 1), (2, 1), (3, 1)], 4, 32, [.int .i64 0, .int .i64 0, .int .i64 0, .int .i64 0]⟩ := rfl
theorem tab_119 : tab 119 = some ⟨.struct [(0, 1), (1, 1), (2, 1)], 3, 40, [.nils, .int .i64 0, .int .i64 0]⟩ := rfl
theorem tab_120 : tab 120 = some ⟨.struct [(0, 1), (1, 1), (2, 1)], 3, 40, [.nils, .int .i64 0, .int .i64 0]⟩ := rfl
theorem tab_126 : tab 126 = some ⟨.int .u32, 1, 4, [.int .u32 0]⟩ := rfl
theorem tab_129 : tab 129 = some ⟨.int .u64, 1, 8, [.int .u64 0]⟩ := rfl
theorem tab_133 : tab 133 = some ⟨.struct [(0, 1), (1, 1), (2, 1), (3, 1)], 4, 40, [.nilp, .nilp, .nilp, .str ⟨#[]⟩]⟩ := rfl
theorem tab_134 : tab 134 = some ⟨.struct [(0, 1), (1, 1), (2, 1), (3, 1)], 4, 40, [.nilp, .nilp, .nilp, .str ⟨#[]⟩]⟩ := rfl
theorem tab_139 : tab 139 = some ⟨.int .u8, 1, 1, [.int .u8 0]⟩ := rfl
theorem tab_140 : tab 140 = some ⟨.int .u8, 1, 1, [.int .u8 0]⟩ := rfl
end Go.Proofs.Ytpdhoimpbiehkaa.Ab
