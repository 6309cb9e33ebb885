/- The table of the types that the abstract values know, checked against the program's own. -/
import Derived.Test.YtnjonjgjfcbgeaaFwB
import Derived.Test.YtnjonjgjfcbgeaaProg
import Derived.KernelRfl
namespace Go.Proofs.Ytnjonjgjfcbgeaa.Ab
open Go
def tabL : List (Nat × TI) := [(2, ⟨.int .i64, 1, 8, [.int .i64 0]⟩),
  (3, ⟨.int .i64, 1, 8, [.int .i64 0]⟩),
  (4, ⟨.bool, 1, 1, [.bool false]⟩),
  (5, ⟨.int .u8, 1, 1, [.int .u8 0]⟩),
  (6, ⟨.int .u8, 1, 1, [.int .u8 0]⟩),
  (7, ⟨.struct [(0, 1), (1, 1), (2, 1), (3, 1)], 4, 24, [.int .i64 0, .int .i64 0, .bool false, .int .u8 0]⟩),
  (8, ⟨.struct [(0, 1), (1, 1), (2, 1), (3, 1)], 4, 24, [.int .i64 0, .int .i64 0, .bool false, .int .u8 0]⟩),
  (9, ⟨.str, 1, 16, [.str ⟨#[]⟩]⟩),
  (10, ⟨.str, 1, 16, [.str ⟨#[]⟩]⟩),
  (11, ⟨.str, 1, 16, [.str ⟨#[]⟩]⟩),
  (12, ⟨.int .u64, 1, 8, [.int .u64 0]⟩),
  (13, ⟨.struct [(0, 1), (1, 1)], 2, 24, [.str ⟨#[]⟩, .int .u64 0]⟩),
  (14, ⟨.struct [(0, 1), (1, 1)], 2, 24, [.str ⟨#[]⟩, .int .u64 0]⟩),
  (15, ⟨.ptr 173, 1, 8, [.nilp]⟩),
  (16, ⟨.ptr 176, 1, 8, [.nilp]⟩),
  (17, ⟨.ptr 186, 1, 8, [.nilp]⟩),
  (18, ⟨.struct [(0, 1)], 1, 8, [.nilp]⟩),
  (19, ⟨.struct [(0, 1)], 1, 8, [.nilp]⟩),
  (21, ⟨.int .i32, 1, 4, [.int .i32 0]⟩),
  (22, ⟨.slice 5, 1, 24, [.nils]⟩),
  (23, ⟨.slice 3, 1, 24, [.nils]⟩),
  (27, ⟨.slice 23, 1, 24, [.nils]⟩),
  (30, ⟨.slice 100, 1, 24, [.nils]⟩),
  (31, ⟨.struct [(0, 1), (1, 1), (2, 1)], 3, 40, [.int .i64 0, .int .i64 0, .nils]⟩),
  (32, ⟨.struct [(0, 1), (1, 1), (2, 1)], 3, 40, [.int .i64 0, .int .i64 0, .nils]⟩),
  (38, ⟨.struct [(0, 1), (1, 1)], 2, 32, [.int .i64 0, .nils]⟩),
  (39, ⟨.struct [(0, 1), (1, 1)], 2, 32, [.int .i64 0, .nils]⟩),
  (45, ⟨.slice 125, 1, 24, [.nils]⟩),
  (46, ⟨.slice 151, 1, 24, [.nils]⟩),
  (47, ⟨.struct [(0, 1), (1, 1)], 2, 48, [.nils, .nils]⟩),
  (48, ⟨.struct [(0, 1), (1, 1)], 2, 48, [.nils, .nils]⟩),
  (51, ⟨.slice 32, 1, 24, [.nils]⟩),
  (52, ⟨.slice 110, 1, 24, [.nils]⟩),
  (53, ⟨.struct [(0, 1), (1, 1)], 2, 48, [.nils, .nils]⟩),
  (54, ⟨.struct [(0, 1), (1, 1)], 2, 48, [.nils, .nils]⟩),
  (78, ⟨.slice 161, 1, 24, [.nils]⟩),
  (79, ⟨.struct [(0, 1), (1, 1), (2, 1), (3, 1)], 4, 80, [.nils, .nils, .nils, .int .i64 0]⟩),
  (80, ⟨.struct [(0, 1), (1, 1), (2, 1), (3, 1)], 4, 80, [.nils, .nils, .nils, .int .i64 0]⟩),
  (83, ⟨.slice 39, 1, 24, [.nils]⟩),
  (84, ⟨.struct [(0, 1), (1, 1), (2, 1), (3, 1)], 4, 80, [.nils, .nils, .nils, .int .i64 0]⟩),
  (85, ⟨.struct [(0, 1), (1, 1), (2, 1), (3, 1)], 4, 80, [.nils, .nils, .nils, .int .i64 0]⟩),
  (92, ⟨.ptr 139, 1, 8, [.nilp]⟩),
  (99, ⟨.struct [(0, 1), (1, 1), (2, 1), (3, 1)], 4, 32, [.int .i64 0, .int .i64 0, .int .i64 0, .int .i64 0]⟩),
  (100, ⟨.struct [(0, 1), (1, 1), (2, 1), (3, 1)], 4, 32, [.int .i64 0, .int .i64 0, .int .i64 0, .int .i64 0]⟩),
  (107, ⟨.ptr 39, 1, 8, [.nilp]⟩),
  (109, ⟨.struct [(0, 1), (1, 1), (2, 1), (3, 1), (4, 1)], 5, 56, [.int .i64 0, .int .i64 0, .int .i64 0, .int .i64 0, .nils]⟩),
  (110, ⟨.struct [(0, 1), (1, 1), (2, 1), (3, 1), (4, 1)], 5, 56, [.int .i64 0, .int .i64 0, .int .i64 0, .int .i64 0, .nils]⟩),
  (123, ⟨.slice 167, 1, 24, [.nils]⟩),
  (124, ⟨.struct [(0, 1), (1, 1), (2, 1)], 3, 40, [.int .i64 0, .int .i64 0, .nils]⟩),
  (125, ⟨.struct [(0, 1), (1, 1), (2, 1)], 3, 40, [.int .i64 0, .int .i64 0, .nils]⟩),
  (138, ⟨.struct [(0, 1), (1, 1), (2, 1)], 3, 40, [.nils, .int .i64 0, .int .i64 0]⟩),
  (139, ⟨.struct [(0, 1), (1, 1), (2, 1)], 3, 40, [.nils, .int .i64 0, .int .i64 0]⟩),
  (151, ⟨.struct [(0, 1), (1, 1), (2, 1), (3, 1), (4, 1)], 5, 56, [.int .i64 0, .int .i64 0, .int .i64 0, .int .i64 0, .nils]⟩),
  (161, ⟨.struct [(0, 1), (1, 1)], 2, 32, [.int .i64 0, .nils]⟩),
  (167, ⟨.struct [(0, 1), (1, 1), (2, 1), (3, 1)], 4, 32, [.int .i64 0, .int .i64 0, .int .i64 0, .int .i64 0]⟩),
  (169, ⟨.int .u64, 1, 8, [.int .u64 0]⟩),
  (172, ⟨.struct [(0, 1), (1, 1), (2, 1), (3, 1)], 4, 40, [.nilp, .nilp, .nilp, .str ⟨#[]⟩]⟩),
  (173, ⟨.struct [(0, 1), (1, 1), (2, 1), (3, 1)], 4, 40, [.nilp, .nilp, .nilp, .str ⟨#[]⟩]⟩),
  (178, ⟨.int .u32, 1, 4, [.int .u32 0]⟩),
  (179, ⟨.int .u8, 1, 1, [.int .u8 0]⟩),
  (180, ⟨.int .u8, 1, 1, [.int .u8 0]⟩),
  (182, ⟨.ptr 5, 1, 8, [.nilp]⟩),
  (183, ⟨.int .i32, 1, 4, [.int .i32 0]⟩),
  (184, ⟨.int .i32, 1, 4, [.int .i32 0]⟩)]
def tab : Tab := tabOf tabL
theorem tab_ok : Tab.ok Go.Proofs.Try.prog tab := tabOf_ok (by kernel_rfl)
theorem tab_2 : tab 2 = some ⟨.int .i64, 1, 8, [.int .i64 0]⟩ := rfl
theorem tab_3 : tab 3 = some ⟨.int .i64, 1, 8, [.int .i64 0]⟩ := rfl
theorem tab_4 : tab 4 = some ⟨.bool, 1, 1, [.bool false]⟩ := rfl
theorem tab_5 : tab 5 = some ⟨.int .u8, 1, 1, [.int .u8 0]⟩ := rfl
theorem tab_6 : tab 6 = some ⟨.int .u8, 1, 1, [.int .u8 0]⟩ := rfl
theorem tab_7 : tab 7 = some ⟨.struct [(0, 1), (1, 1), (2, 1), (3, 1)], 4, 24, [.int .i64 0, .int .i64 0, .bool false, .int .u8 0]⟩ := rfl
theorem tab_8 : tab 8 = some ⟨.struct [(0, 1), (1, 1), (2, 1), (3, 1)], 4, 24, [.int .i64 0, .int .i64 0, .bool false, .int .u8 0]⟩ := rfl
theorem tab_9 : tab 9 = some ⟨.str, 1, 16, [.str ⟨#[]⟩]⟩ := rfl
theorem tab_10 : tab 10 = some ⟨.str, 1, 16, [.str ⟨#[]⟩]⟩ := rfl
theorem tab_11 : tab 11 = some ⟨.str, 1, 16, [.str ⟨#[]⟩]⟩ := rfl
theorem tab_12 : tab 12 = some ⟨.int .u64, 1, 8, [.int .u64 0]⟩ := rfl
theorem tab_13 : tab 13 = some ⟨.struct [(0, 1), (1, 1)], 2, 24, [.str ⟨#[]⟩, .int .u64 0]⟩ := rfl
theorem tab_14 : tab 14 = some ⟨.struct [(0, 1), (1, 1)], 2, 24, [.str ⟨#[]⟩, .int .u64 0]⟩ := rfl
theorem tab_15 : tab 15 = some ⟨.ptr 173, 1, 8, [.nilp]⟩ := rfl
theorem tab_16 : tab 16 = some ⟨.ptr 176, 1, 8, [.nilp]⟩ := rfl
theorem tab_17 : tab 17 = some ⟨.ptr 186, 1, 8, [.nilp]⟩ := rfl
theorem tab_18 : tab 18 = some ⟨.struct [(0, 1)], 1, 8, [.nilp]⟩ := rfl
theorem tab_19 : tab 19 = some ⟨.struct [(0, 1)], 1, 8, [.nilp]⟩ := rfl
theorem tab_21 : tab 21 = some ⟨.int .i32, 1, 4, [.int .i32 0]⟩ := rfl
theorem tab_22 : tab 22 = some ⟨.slice 5, 1, 24, [.nils]⟩ := rfl
theorem tab_23 : tab 23 = some ⟨.slice 3, 1, 24, [.nils]⟩ := rfl
theorem tab_27 : tab 27 = some ⟨.slice 23, 1, 24, [.nils]⟩ := rfl
theorem tab_30 : tab 30 = some ⟨.slice 100, 1, 24, [.nils]⟩ := rfl
theorem tab_31 : tab 31 = some ⟨.struct [(0, 1), (1, 1), (2, 1)], 3, 40, [.int .i64 0, .int .i64 0, .nils]⟩ := rfl
theorem tab_32 : tab 32 = some ⟨.struct [(0, 1), (1, 1), (2, 1)], 3, 40, [.int .i64 0, .int .i64 0, .nils]⟩ := rfl
theorem tab_38 : tab 38 = some ⟨.struct [(0, 1), (1, 1)], 2, 32, [.int .i64 0, .nils]⟩ := rfl
theorem tab_39 : tab 39 = some ⟨.struct [(0, 1), (1, 1)], 2, 32, [.int .i64 0, .nils]⟩ := rfl
theorem tab_45 : tab 45 = some ⟨.slice 125, 1, 24, [.nils]⟩ := rfl
theorem tab_46 : tab 46 = some ⟨.slice 151, 1, 24, [.nils]⟩ := rfl
theorem tab_47 : tab 47 = some ⟨.struct [(0, 1), (1, 1)], 2, 48, [.nils, .nils]⟩ := rfl
theorem tab_48 : tab 48 = some ⟨.struct [(0, 1), (1, 1)], 2, 48, [.nils, .nils]⟩ := rfl
theorem tab_51 : tab 51 = some ⟨.slice 32, 1, 24, [.nils]⟩ := rfl
theorem tab_52 : tab 52 = some ⟨.slice 110, 1, 24, [.nils]⟩ := rfl
theorem tab_53 : tab 53 = some ⟨.struct [(0, 1), (1, 1)], 2, 48, [.nils, .nils]⟩ := rfl
theorem tab_54 : tab 54 = some ⟨.struct [(0, 1), (1, 1)], 2, 48, [.nils, .nils]⟩ := rfl
theorem tab_78 : tab 78 = some ⟨.slice 161, 1, 24, [.nils]⟩ := rfl
theorem tab_79 : tab 79 = some ⟨.struct [(0, 1), (1, 1), (2, 1), (3, 1)], 4, 80, [.nils, .nils, .nils, .int .i64 0]⟩ := rfl
theorem tab_80 : tab 80 = some ⟨.struct [(0, 1), (1, 1), (2, 1), (3, 1)], 4, 80, [.nils, .nils, .nils, .int .i64 0]⟩ := rfl
theorem tab_83 : tab 83 = some ⟨.slice 39, 1, 24, [.nils]⟩ := rfl
theorem tab_84 : tab 84 = some ⟨.struct [(0, 1), (1, 1), (2, 1), (3, 1)], 4, 80, [.nils, .nils, .nils, .int .i64 0]⟩ := rfl
theorem tab_85 : tab 85 = some ⟨.struct [(0, 1), (1, 1), (2, 1), (3, 1)], 4, 80, [.nils, .nils, .nils, .int .i64 0]⟩ := rfl
theorem tab_92 : tab 92 = some ⟨.ptr 139, 1, 8, [.nilp]⟩ := rfl
theorem tab_99 : tab 99 = some ⟨.struct [(0, 1), (1, 1), (2, 1), (3, 1)], 4, 32, [.int .i64 0, .int .i64 0, .int .i64 0, .int .i64 0]⟩ := rfl
theorem tab_100 : tab 100 = some ⟨.struct [(0, 1), (1, 1), (2, 1), (3, 1)], 4, 32, [.int .i64 0, .int .i64 0, .int .i64 0, .int .i64 0]⟩ := rfl
theorem tab_107 : tab 107 = some ⟨.ptr 39, 1, 8, [.nilp]⟩ := rfl
theorem tab_109 : tab 109 = some ⟨.struct [(0, 1), (1, 1), (2, 1), (3, 1), (4, 1)], 5, 56, [.int .i64 0, .int .i64 0, .int .i64 0, .int .i64 0, .nils]⟩ := rfl
theorem tab_110 : tab 110 = some ⟨.struct [(0, 1), (1, 1), (2, 1), (3, 1), (4, 1)], 5, 56, [.int .i64 0, .int .i64 0, .int .i64 0, .int .i64 0, .nils]⟩ := rfl
theorem tab_123 : tab 123 = some ⟨.slice 167, 1, 24, [.nils]⟩ := rfl
theorem tab_124 : tab 124 = some ⟨.struct [(0, 1), (1, 1), (2, 1)], 3, 40, [.int .i64 0, .int .i64 0, .nils]⟩ := rfl
theorem tab_125 : tab 125 = some ⟨.struct [(0, 1), (1, 1), (2, 1)], 3, 40, [.int .i64 0, .int .i64 0, .nils]⟩ := rfl
theorem tab_138 : tab 138 = some ⟨.struct [(0, 1), (1, 1), (2, 1)], 3, 40, [.nils, .int .i64 0, .int .i64 0]⟩ := rfl
theorem tab_139 : tab 139 = some ⟨.struct [(0, 1), (1, 1), (2, 1)], 3, 40, [.nils, .int .i64 0, .int .i64 0]⟩ := rfl
theorem tab_151 : tab 151 = some ⟨.struct [(0, 1), (1, 1), (2, 1), (3, 1), (4, 1)], 5, 56, [.int .i64 0, .int .i64 0, .int .i64 0, .int .i64 0, .nils]⟩ := rfl
theorem tab_161 : tab 161 = some ⟨.struct [(0, 1), (1, 1)], 2, 32, [.int .i64 0, .nils]⟩ := rfl
theorem tab_167 : tab 167 = some ⟨.struct [(0, 1), (1, 1), (2, 1), (3, 1)], 4, 32, [.int .i64 0, .int .i64 0, .int .i64 0, .int .i64 0]⟩ := rfl
theorem tab_169 : tab 169 = some ⟨.int .u64, 1, 8, [.int .u64 0]⟩ := rfl
theorem tab_172 : tab 172 = some ⟨.struct [(0, 1), (1, 1), (2, 1), (3, 1)], 4, 40, [.nilp, .nilp, .nilp, .str ⟨#[]⟩]⟩ := rfl
theorem tab_173 : tab 173 = some ⟨.struct [(0, 1), (1, 1), (2, 1), (3, 1)], 4, 40, [.nilp, .nilp, .nilp, .str ⟨#[]⟩]⟩ := rfl
theorem tab_178 : tab 178 = some ⟨.int .u32, 1, 4, [.int .u32 0]⟩ := rfl
theorem tab_179 : tab 179 = some ⟨.int .u8, 1, 1, [.int .u8 0]⟩ := rfl
theorem tab_180 : tab 180 = some ⟨.int .u8, 1, 1, [.int .u8 0]⟩ := rfl
theorem tab_182 : tab 182 = some ⟨.ptr 5, 1, 8, [.nilp]⟩ := rfl
theorem tab_183 : tab 183 = some ⟨.int .i32, 1, 4, [.int .i32 0]⟩ := rfl
theorem tab_184 : tab 184 = some ⟨.int .i32, 1, 4, [.int .i32 0]⟩ := rfl
end Go.Proofs.Ytnjonjgjfcbgeaa.Ab
