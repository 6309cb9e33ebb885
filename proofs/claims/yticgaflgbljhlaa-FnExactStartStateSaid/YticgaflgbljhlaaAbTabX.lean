/- The table of the types that the abstract values know, checked against the program's own. -/
import Derived.Test.YticgaflgbljhlaaFwB
import Derived.Test.YticgaflgbljhlaaProg
import Derived.KernelRfl
namespace Go.Proofs.Yticgaflgbljhlaa.Ab
open Go
def tabL : List (Nat × TI) := [(2, ⟨.int .i64, 1, 8, [.int .i64 0]⟩),
  (3, ⟨.int .i64, 1, 8, [.int .i64 0]⟩),
  (4, ⟨.bool, 1, 1, [.bool false]⟩),
  (5, ⟨.int .u8, 1, 1, [.int .u8 0]⟩),
  (6, ⟨.int .u8, 1, 1, [.int .u8 0]⟩),
  (7, ⟨.struct [(0, 1), (1, 1), (2, 1), (3, 1)], 4, 24, [.int .i64 0, .int .i64 0, .bool false, .int .u8 0]⟩),
  (8, ⟨.struct [(0, 1), (1, 1), (2, 1), (3, 1)], 4, 24, [.int .i64 0, .int .i64 0, .bool false, .int .u8 0]⟩),
  (9, ⟨.str, 1, 16, [.str ⟨#[]⟩]⟩),
  (10, ⟨.str, 1, 16, [.str ⟨#[]⟩]⟩),
  (11, ⟨.str, 1, 16, [.str ⟨#[]⟩]⟩),
  (12, ⟨.int .u64, 1, 8, [.int .u64 0]⟩),
  (13, ⟨.struct [(0, 1), (1, 1)], 2, 24, [.str ⟨#[]⟩, .int .u64 0]⟩),
  (14, ⟨.struct [(0, 1), (1, 1)], 2, 24, [.str ⟨#[]⟩, .int .u64 0]⟩),
  (15, ⟨.ptr 195, 1, 8, [.nilp]⟩),
  (16, ⟨.ptr 198, 1, 8, [.nilp]⟩),
  (17, ⟨.ptr 208, 1, 8, [.nilp]⟩),
  (18, ⟨.struct [(0, 1)], 1, 8, [.nilp]⟩),
  (19, ⟨.struct [(0, 1)], 1, 8, [.nilp]⟩),
  (21, ⟨.int .i32, 1, 4, [.int .i32 0]⟩),
  (22, ⟨.slice 140, 1, 24, [.nils]⟩),
  (23, ⟨.slice 142, 1, 24, [.nils]⟩),
  (24, ⟨.struct [(0, 1), (1, 1)], 2, 48, [.nils, .nils]⟩),
  (25, ⟨.struct [(0, 1), (1, 1)], 2, 48, [.nils, .nils]⟩),
  (26, ⟨.slice 144, 1, 24, [.nils]⟩),
  (27, ⟨.slice 49, 1, 24, [.nils]⟩),
  (28, ⟨.struct [(0, 1), (1, 1), (2, 1), (3, 1)], 4, 80, [.nils, .nils, .nils, .int .i64 0]⟩),
  (29, ⟨.struct [(0, 1), (1, 1), (2, 1), (3, 1)], 4, 80, [.nils, .nils, .nils, .int .i64 0]⟩),
  (33, ⟨.slice 80, 1, 24, [.nils]⟩),
  (34, ⟨.slice 92, 1, 24, [.nils]⟩),
  (35, ⟨.struct [(0, 1), (1, 1)], 2, 48, [.nils, .nils]⟩),
  (36, ⟨.struct [(0, 1), (1, 1)], 2, 48, [.nils, .nils]⟩),
  (38, ⟨.slice 89, 1, 24, [.nils]⟩),
  (39, ⟨.struct [(0, 1), (1, 1), (2, 1), (3, 1)], 4, 80, [.nils, .nils, .nils, .int .i64 0]⟩),
  (40, ⟨.struct [(0, 1), (1, 1), (2, 1), (3, 1)], 4, 80, [.nils, .nils, .nils, .int .i64 0]⟩),
  (49, ⟨.slice 3, 1, 24, [.nils]⟩),
  (72, ⟨.slice 5, 1, 24, [.nils]⟩),
  (78, ⟨.slice 134, 1, 24, [.nils]⟩),
  (79, ⟨.struct [(0, 1), (1, 1), (2, 1)], 3, 40, [.int .i64 0, .int .i64 0, .nils]⟩),
  (80, ⟨.struct [(0, 1), (1, 1), (2, 1)], 3, 40, [.int .i64 0, .int .i64 0, .nils]⟩),
  (88, ⟨.struct [(0, 1), (1, 1)], 2, 32, [.int .i64 0, .nils]⟩),
  (89, ⟨.struct [(0, 1), (1, 1)], 2, 32, [.int .i64 0, .nils]⟩),
  (91, ⟨.struct [(0, 1), (1, 1), (2, 1), (3, 1), (4, 1)], 5, 56, [.int .i64 0, .int .i64 0, .int .i64 0, .int .i64 0, .nils]⟩),
  (92, ⟨.struct [(0, 1), (1, 1), (2, 1), (3, 1), (4, 1)], 5, 56, [.int .i64 0, .int .i64 0, .int .i64 0, .int .i64 0, .nils]⟩),
  (115, ⟨.ptr 92, 1, 8, [.nilp]⟩),
  (117, ⟨.ptr 162, 1, 8, [.nilp]⟩),
  (127, ⟨.ptr 169, 1, 8, [.nilp]⟩),
  (133, ⟨.struct [(0, 1), (1, 1), (2, 1), (3, 1)], 4, 32, [.int .i64 0, .int .i64 0, .int .i64 0, .int .i64 0]⟩),
  (134, ⟨.struct [(0, 1), (1, 1), (2, 1), (3, 1)], 4, 32, [.int .i64 0, .int .i64 0, .int .i64 0, .int .i64 0]⟩),
  (138, ⟨.slice 189, 1, 24, [.nils]⟩),
  (139, ⟨.struct [(0, 1), (1, 1), (2, 1)], 3, 40, [.int .i64 0, .int .i64 0, .nils]⟩),
  (140, ⟨.struct [(0, 1), (1, 1), (2, 1)], 3, 40, [.int .i64 0, .int .i64 0, .nils]⟩),
  (142, ⟨.struct [(0, 1), (1, 1), (2, 1), (3, 1), (4, 1)], 5, 56, [.int .i64 0, .int .i64 0, .int .i64 0, .int .i64 0, .nils]⟩),
  (144, ⟨.struct [(0, 1), (1, 1)], 2, 32, [.int .i64 0, .nils]⟩),
  (156, ⟨.slice 33, 1, 24, [.nils]⟩),
  (158, ⟨.slice 4, 1, 24, [.nils]⟩),
  (161, ⟨.struct [(0, 2), (2, 4), (6, 1), (7, 1), (8, 1)], 9, 200, [.nils, .nils, .nils, .nils, .nils, .int .i64 0, .nils, .nils, .nils]⟩),
  (162, ⟨.struct [(0, 2), (2, 4), (6, 1), (7, 1), (8, 1)], 9, 200, [.nils, .nils, .nils, .nils, .nils, .int .i64 0, .nils, .nils, .nils]⟩),
  (163, ⟨.slice 27, 1, 24, [.nils]⟩),
  (168, ⟨.struct [(0, 1), (1, 1), (2, 1)], 3, 40, [.nils, .int .i64 0, .int .i64 0]⟩),
  (169, ⟨.struct [(0, 1), (1, 1), (2, 1)], 3, 40, [.nils, .int .i64 0, .int .i64 0]⟩),
  (175, ⟨.ptr 89, 1, 8, [.nilp]⟩),
  (189, ⟨.struct [(0, 1), (1, 1), (2, 1), (3, 1)], 4, 32, [.int .i64 0, .int .i64 0, .int .i64 0, .int .i64 0]⟩),
  (192, ⟨.int .u64, 1, 8, [.int .u64 0]⟩),
  (194, ⟨.struct [(0, 1), (1, 1), (2, 1), (3, 1)], 4, 40, [.nilp, .nilp, .nilp, .str ⟨#[]⟩]⟩),
  (195, ⟨.struct [(0, 1), (1, 1), (2, 1), (3, 1)], 4, 40, [.nilp, .nilp, .nilp, .str ⟨#[]⟩]⟩),
  (200, ⟨.int .u32, 1, 4, [.int .u32 0]⟩),
  (201, ⟨.int .u8, 1, 1, [.int .u8 0]⟩),
  (202, ⟨.int .u8, 1, 1, [.int .u8 0]⟩),
  (204, ⟨.ptr 5, 1, 8, [.nilp]⟩),
  (205, ⟨.int .i32, 1, 4, [.int .i32 0]⟩),
  (206, ⟨.int .i32, 1, 4, [.int .i32 0]⟩)]
def tab : Tab := tabOf tabL
theorem tab_ok : Tab.ok Go.Proofs.Try.prog tab := tabOf_ok (by kernel_rfl)
theorem tab_2 : tab 2 = some ⟨.int .i64, 1, 8, [.int .i64 0]⟩ := rfl
theorem tab_3 : tab 3 = some ⟨.int .i64, 1, 8, [.int .i64 0]⟩ := rfl
theorem tab_4 : tab 4 = some ⟨.bool, 1, 1, [.bool false]⟩ := rfl
theorem tab_5 : tab 5 = some ⟨.int .u8, 1, 1, [.int .u8 0]⟩ := rfl
theorem tab_6 : tab 6 = some ⟨.int .u8, 1, 1, [.int .u8 0]⟩ := rfl
theorem tab_7 : tab 7 = some ⟨.struct [(0, 1), (1, 1), (2, 1), (3, 1)], 4, 24, [.int .i64 0, .int .i64 0, .bool false, .int .u8 0]⟩ := rfl
theorem tab_8 : tab 8 = some ⟨.struct [(0, 1), (1, 1), (2, 1), (3, 1)], 4, 24, [.int .i64 0, .int .i64 0, .bool false, .int .u8 0]⟩ := rfl
theorem tab_9 : tab 9 = some ⟨.str, 1, 16, [.str ⟨#[]⟩]⟩ := rfl
theorem tab_10 : tab 10 = some ⟨.str, 1, 16, [.str ⟨#[]⟩]⟩ := rfl
theorem tab_11 : tab 11 = some ⟨.str, 1, 16, [.str ⟨#[]⟩]⟩ := rfl
theorem tab_12 : tab 12 = some ⟨.int .u64, 1, 8, [.int .u64 0]⟩ := rfl
theorem tab_13 : tab 13 = some ⟨.struct [(0, 1), (1, 1)], 2, 24, [.str ⟨#[]⟩, .int .u64 0]⟩ := rfl
theorem tab_14 : tab 14 = some ⟨.struct [(0, 1), (1, 1)], 2, 24, [.str ⟨#[]⟩, .int .u64 0]⟩ := rfl
theorem tab_15 : tab 15 = some ⟨.ptr 195, 1, 8, [.nilp]⟩ := rfl
theorem tab_16 : tab 16 = some ⟨.ptr 198, 1, 8, [.nilp]⟩ := rfl
theorem tab_17 : tab 17 = some ⟨.ptr 208, 1, 8, [.nilp]⟩ := rfl
theorem tab_18 : tab 18 = some ⟨.struct [(0, 1)], 1, 8, [.nilp]⟩ := rfl
theorem tab_19 : tab 19 = some ⟨.struct [(0, 1)], 1, 8, [.nilp]⟩ := rfl
theorem tab_21 : tab 21 = some ⟨.int .i32, 1, 4, [.int .i32 0]⟩ := rfl
theorem tab_22 : tab 22 = some ⟨.slice 140, 1, 24, [.nils]⟩ := rfl
theorem tab_23 : tab 23 = some ⟨.slice 142, 1, 24, [.nils]⟩ := rfl
theorem tab_24 : tab 24 = some ⟨.struct [(0, 1), (1, 1)], 2, 48, [.nils, .nils]⟩ := rfl
theorem tab_25 : tab 25 = some ⟨.struct [(0, 1), (1, 1)], 2, 48, [.nils, .nils]⟩ := rfl
theorem tab_26 : tab 26 = some ⟨.slice 144, 1, 24, [.nils]⟩ := rfl
theorem tab_27 : tab 27 = some ⟨.slice 49, 1, 24, [.nils]⟩ := rfl
theorem tab_28 : tab 28 = some ⟨.struct [(0, 1), (1, 1), (2, 1), (3, 1)], 4, 80, [.nils, .nils, .nils, .int .i64 0]⟩ := rfl
theorem tab_29 : tab 29 = some ⟨.struct [(0, 1), (1, 1), (2, 1), (3, 1)], 4, 80, [.nils, .nils, .nils, .int .i64 0]⟩ := rfl
theorem tab_33 : tab 33 = some ⟨.slice 80, 1, 24, [.nils]⟩ := rfl
theorem tab_34 : tab 34 = some ⟨.slice 92, 1, 24, [.nils]⟩ := rfl
theorem tab_35 : tab 35 = some ⟨.struct [(0, 1), (1, 1)], 2, 48, [.nils, .nils]⟩ := rfl
theorem tab_36 : tab 36 = some ⟨.struct [(0, 1), (1, 1)], 2, 48, [.nils, .nils]⟩ := rfl
theorem tab_38 : tab 38 = some ⟨.slice 89, 1, 24, [.nils]⟩ := rfl
theorem tab_39 : tab 39 = some ⟨.struct [(0, 1), (1, 1), (2, 1), (3, 1)], 4, 80, [.nils, .nils, .nils, .int .i64 0]⟩ := rfl
theorem tab_40 : tab 40 = some ⟨.struct [(0, 1), (1, 1), (2, 1), (3, 1)], 4, 80, [.nils, .nils, .nils, .int .i64 0]⟩ := rfl
theorem tab_49 : tab 49 = some ⟨.slice 3, 1, 24, [.nils]⟩ := rfl
theorem tab_72 : tab 72 = some ⟨.slice 5, 1, 24, [.nils]⟩ := rfl
theorem tab_78 : tab 78 = some ⟨.slice 134, 1, 24, [.nils]⟩ := rfl
theorem tab_79 : tab 79 = some ⟨.struct [(0, 1), (1, 1), (2, 1)], 3, 40, [.int .i64 0, .int .i64 0, .nils]⟩ := rfl
theorem tab_80 : tab 80 = some ⟨.struct [(0, 1), (1, 1), (2, 1)], 3, 40, [.int .i64 0, .int .i64 0, .nils]⟩ := rfl
theorem tab_88 : tab 88 = some ⟨.struct [(0, 1), (1, 1)], 2, 32, [.int .i64 0, .nils]⟩ := rfl
theorem tab_89 : tab 89 = some ⟨.struct [(0, 1), (1, 1)], 2, 32, [.int .i64 0, .nils]⟩ := rfl
theorem tab_91 : tab 91 = some ⟨.struct [(0, 1), (1, 1), (2, 1), (3, 1), (4, 1)], 5, 56, [.int .i64 0, .int .i64 0, .int .i64 0, .int .i64 0, .nils]⟩ := rfl
theorem tab_92 : tab 92 = some ⟨.struct [(0, 1), (1, 1), (2, 1), (3, 1), (4, 1)], 5, 56, [.int .i64 0, .int .i64 0, .int .i64 0, .int .i64 0, .nils]⟩ := rfl
theorem tab_115 : tab 115 = some ⟨.ptr 92, 1, 8, [.nilp]⟩ := rfl
theorem tab_117 : tab 117 = some ⟨.ptr 162, 1, 8, [.nilp]⟩ := rfl
theorem tab_127 : tab 127 = some ⟨.ptr 169, 1, 8, [.nilp]⟩ := rfl
theorem tab_133 : tab 133 = some ⟨.struct [(0, 1), (1, 1), (2, 1), (3, 1)], 4, 32, [.int .i64 0, .int .i64 0, .int .i64 0, .int .i64 0]⟩ := rfl
theorem tab_134 : tab 134 = some ⟨.struct [(0, 1), (1, 1), (2, 1), (3, 1)], 4, 32, [.int .i64 0, .int .i64 0, .int .i64 0, .int .i64 0]⟩ := rfl
theorem tab_138 : tab 138 = some ⟨.slice 189, 1, 24, [.nils]⟩ := rfl
theorem tab_139 : tab 139 = some ⟨.struct [(0, 1), (1, 1), (2, 1)], 3, 40, [.int .i64 0, .int .i64 0, .nils]⟩ := rfl
theorem tab_140 : tab 140 = some ⟨.struct [(0, 1), (1, 1), (2, 1)], 3, 40, [.int .i64 0, .int .i64 0, .nils]⟩ := rfl
theorem tab_142 : tab 142 = some ⟨.struct [(0, 1), (1, 1), (2, 1), (3, 1), (4, 1)], 5, 56, [.int .i64 0, .int .i64 0, .int .i64 0, .int .i64 0, .nils]⟩ := rfl
theorem tab_144 : tab 144 = some ⟨.struct [(0, 1), (1, 1)], 2, 32, [.int .i64 0, .nils]⟩ := rfl
theorem tab_156 : tab 156 = some ⟨.slice 33, 1, 24, [.nils]⟩ := rfl
theorem tab_158 : tab 158 = some ⟨.slice 4, 1, 24, [.nils]⟩ := rfl
theorem tab_161 : tab 161 = some ⟨.struct [(0, 2), (2, 4), (6, 1), (7, 1), (8, 1)], 9, 200, [.nils, .nils, .nils, .nils, .nils, .int .i64 0, .nils, .nils, .nils]⟩ := rfl
theorem tab_162 : tab 162 = some ⟨.struct [(0, 2), (2, 4), (6, 1), (7, 1), (8, 1)], 9, 200, [.nils, .nils, .nils, .nils, .nils, .int .i64 0, .nils, .nils, .nils]⟩ := rfl
theorem tab_163 : tab 163 = some ⟨.slice 27, 1, 24, [.nils]⟩ := rfl
theorem tab_168 : tab 168 = some ⟨.struct [(0, 1), (1, 1), (2, 1)], 3, 40, [.nils, .int .i64 0, .int .i64 0]⟩ := rfl
theorem tab_169 : tab 169 = some ⟨.struct [(0, 1), (1, 1), (2, 1)], 3, 40, [.nils, .int .i64 0, .int .i64 0]⟩ := rfl
theorem tab_175 : tab 175 = some ⟨.ptr 89, 1, 8, [.nilp]⟩ := rfl
theorem tab_189 : tab 189 = some ⟨.struct [(0, 1), (1, 1), (2, 1), (3, 1)], 4, 32, [.int .i64 0, .int .i64 0, .int .i64 0, .int .i64 0]⟩ := rfl
theorem tab_192 : tab 192 = some ⟨.int .u64, 1, 8, [.int .u64 0]⟩ := rfl
theorem tab_194 : tab 194 = some ⟨.struct [(0, 1), (1, 1), (2, 1), (3, 1)], 4, 40, [.nilp, .nilp, .nilp, .str ⟨#[]⟩]⟩ := rfl
theorem tab_195 : tab 195 = some ⟨.struct [(0, 1), (1, 1), (2, 1), (3, 1)], 4, 40, [.nilp, .nilp, .nilp, .str ⟨#[]⟩]⟩ := rfl
theorem tab_200 : tab 200 = some ⟨.int .u32, 1, 4, [.int .u32 0]⟩ := rfl
theorem tab_201 : tab 201 = some ⟨.int .u8, 1, 1, [.int .u8 0]⟩ := rfl
theorem tab_202 : tab 202 = some ⟨.int .u8, 1, 1, [.int .u8 0]⟩ := rfl
theorem tab_204 : tab 204 = some ⟨.ptr 5, 1, 8, [.nilp]⟩ := rfl
theorem tab_205 : tab 205 = some ⟨.int .i32, 1, 4, [.int .i32 0]⟩ := rfl
theorem tab_206 : tab 206 = some ⟨.int .i32, 1, 4, [.int .i32 0]⟩ := rfl
end Go.Proofs.Yticgaflgbljhlaa.Ab
