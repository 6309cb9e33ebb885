/- The table of the types that the abstract values know, checked against the program's own. -/
import Derived.Test.YtmijpnghcggdfaaFwB
import Derived.Test.YtmijpnghcggdfaaProg
import Derived.KernelRfl
namespace Go.Proofs.Ytmijpnghcggdfaa.Ab
open Go
def tabL : List (Nat × TI) := [(2, ⟨.int .i64, 1, 8, [.int .i64 0]⟩),
  (3, ⟨.int .i64, 1, 8, [.int .i64 0]⟩),
  (4, ⟨.bool, 1, 1, [.bool false]⟩),
  (5, ⟨.int .u8, 1, 1, [.int .u8 0]⟩),
  (6, ⟨.int .u8, 1, 1, [.int .u8 0]⟩),
  (7, ⟨.struct [(0, 1), (1, 1), (2, 1), (3, 1)], 4, 24, [.int .i64 0, .int .i64 0, .bool false, .int .u8 0]⟩),
  (8, ⟨.struct [(0, 1), (1, 1), (2, 1), (3, 1)], 4, 24, [.int .i64 0, .int .i64 0, .bool false, .int .u8 0]⟩),
  (9, ⟨.str, 1, 16, [.str ⟨#[]⟩]⟩),
  (10, ⟨.str, 1, 16, [.str ⟨#[]⟩]⟩),
  (11, ⟨.str, 1, 16, [.str ⟨#[]⟩]⟩),
  (12, ⟨.int .u64, 1, 8, [.int .u64 0]⟩),
  (13, ⟨.struct [(0, 1), (1, 1)], 2, 24, [.str ⟨#[]⟩, .int .u64 0]⟩),
  (14, ⟨.struct [(0, 1), (1, 1)], 2, 24, [.str ⟨#[]⟩, .int .u64 0]⟩),
  (15, ⟨.ptr 129, 1, 8, [.nilp]⟩),
  (16, ⟨.ptr 132, 1, 8, [.nilp]⟩),
  (17, ⟨.ptr 141, 1, 8, [.nilp]⟩),
  (18, ⟨.struct [(0, 1)], 1, 8, [.nilp]⟩),
  (19, ⟨.struct [(0, 1)], 1, 8, [.nilp]⟩),
  (21, ⟨.int .i32, 1, 4, [.int .i32 0]⟩),
  (22, ⟨.slice 3, 1, 24, [.nils]⟩),
  (29, ⟨.slice 38, 1, 24, [.nils]⟩),
  (30, ⟨.struct [(0, 1), (1, 1), (2, 1)], 3, 40, [.int .i64 0, .int .i64 0, .nils]⟩),
  (31, ⟨.struct [(0, 1), (1, 1), (2, 1)], 3, 40, [.int .i64 0, .int .i64 0, .nils]⟩),
  (36, ⟨.slice 5, 1, 24, [.nils]⟩),
  (37, ⟨.struct [(0, 1), (1, 1), (2, 1), (3, 1)], 4, 32, [.int .i64 0, .int .i64 0, .int .i64 0, .int .i64 0]⟩),
  (38, ⟨.struct [(0, 1), (1, 1), (2, 1), (3, 1)], 4, 32, [.int .i64 0, .int .i64 0, .int .i64 0, .int .i64 0]⟩),
  (41, ⟨.struct [(0, 1), (1, 1)], 2, 32, [.int .i64 0, .nils]⟩),
  (42, ⟨.struct [(0, 1), (1, 1)], 2, 32, [.int .i64 0, .nils]⟩),
  (53, ⟨.slice 22, 1, 24, [.nils]⟩),
  (61, ⟨.slice 118, 1, 24, [.nils]⟩),
  (62, ⟨.struct [(0, 1), (1, 1), (2, 1)], 3, 40, [.int .i64 0, .int .i64 0, .nils]⟩),
  (63, ⟨.struct [(0, 1), (1, 1), (2, 1)], 3, 40, [.int .i64 0, .int .i64 0, .nils]⟩),
  (64, ⟨.struct [(0, 1), (1, 1)], 2, 32, [.int .i64 0, .nils]⟩),
  (84, ⟨.ptr 42, 1, 8, [.nilp]⟩),
  (87, ⟨.ptr 109, 1, 8, [.nilp]⟩),
  (100, ⟨.int .u64, 1, 8, [.int .u64 0]⟩),
  (108, ⟨.struct [(0, 1), (1, 1), (2, 1)], 3, 40, [.nils, .int .i64 0, .int .i64 0]⟩),
  (109, ⟨.struct [(0, 1), (1, 1), (2, 1)], 3, 40, [.nils, .int .i64 0, .int .i64 0]⟩),
  (118, ⟨.struct [(0, 1), (1, 1), (2, 1), (3, 1)], 4, 32, [.int .i64 0, .int .i64 0, .int .i64 0, .int .i64 0]⟩),
  (120, ⟨.int .u32, 1, 4, [.int .u32 0]⟩),
  (123, ⟨.int .u64, 1, 8, [.int .u64 0]⟩),
  (128, ⟨.struct [(0, 1), (1, 1), (2, 1), (3, 1)], 4, 40, [.nilp, .nilp, .nilp, .str ⟨#[]⟩]⟩),
  (129, ⟨.struct [(0, 1), (1, 1), (2, 1), (3, 1)], 4, 40, [.nilp, .nilp, .nilp, .str ⟨#[]⟩]⟩),
  (134, ⟨.int .u8, 1, 1, [.int .u8 0]⟩),
  (135, ⟨.int .u8, 1, 1, [.int .u8 0]⟩),
  (137, ⟨.ptr 5, 1, 8, [.nilp]⟩),
  (138, ⟨.int .i32, 1, 4, [.int .i32 0]⟩),
  (139, ⟨.int .i32, 1, 4, [.int .i32 0]⟩)]
def tab : Tab := tabOf tabL
theorem tab_ok : Tab.ok Go.Proofs.Try.prog tab := tabOf_ok (by kernel_rfl)
theorem tab_2 : tab 2 = some ⟨.int .i64, 1, 8, [.int .i64 0]⟩ := rfl
theorem tab_3 : tab 3 = some ⟨.int .i64, 1, 8, [.int .i64 0]⟩ := rfl
theorem tab_4 : tab 4 = some ⟨.bool, 1, 1, [.bool false]⟩ := rfl
theorem tab_5 : tab 5 = some ⟨.int .u8, 1, 1, [.int .u8 0]⟩ := rfl
theorem tab_6 : tab 6 = some ⟨.int .u8, 1, 1, [.int .u8 0]⟩ := rfl
theorem tab_7 : tab 7 = some ⟨.struct [(0, 1), (1, 1), (2, 1), (3, 1)], 4, 24, [.int .i64 0, .int .i64 0, .bool false, .int .u8 0]⟩ := rfl
theorem tab_8 : tab 8 = some ⟨.struct [(0, 1), (1, 1), (2, 1), (3, 1)], 4, 24, [.int .i64 0, .int .i64 0, .bool false, .int .u8 0]⟩ := rfl
theorem tab_9 : tab 9 = some ⟨.str, 1, 16, [.str ⟨#[]⟩]⟩ := rfl
theorem tab_10 : tab 10 = some ⟨.str, 1, 16, [.str ⟨#[]⟩]⟩ := rfl
theorem tab_11 : tab 11 = some ⟨.str, 1, 16, [.str ⟨#[]⟩]⟩ := rfl
theorem tab_12 : tab 12 = some ⟨.int .u64, 1, 8, [.int .u64 0]⟩ := rfl
theorem tab_13 : tab 13 = some ⟨.struct [(0, 1), (1, 1)], 2, 24, [.str ⟨#[]⟩, .int .u64 0]⟩ := rfl
theorem tab_14 : tab 14 = some ⟨.struct [(0, 1), (1, 1)], 2, 24, [.str ⟨#[]⟩, .int .u64 0]⟩ := rfl
theorem tab_15 : tab 15 = some ⟨.ptr 129, 1, 8, [.nilp]⟩ := rfl
theorem tab_16 : tab 16 = some ⟨.ptr 132, 1, 8, [.nilp]⟩ := rfl
theorem tab_17 : tab 17 = some ⟨.ptr 141, 1, 8, [.nilp]⟩ := rfl
theorem tab_18 : tab 18 = some ⟨.struct [(0, 1)], 1, 8, [.nilp]⟩ := rfl
theorem tab_19 : tab 19 = some ⟨.struct [(0, 1)], 1, 8, [.nilp]⟩ := rfl
theorem tab_21 : tab 21 = some ⟨.int .i32, 1, 4, [.int .i32 0]⟩ := rfl
theorem tab_22 : tab 22 = some ⟨.slice 3, 1, 24, [.nils]⟩ := rfl
theorem tab_29 : tab 29 = some ⟨.slice 38, 1, 24, [.nils]⟩ := rfl
theorem tab_30 : tab 30 = some ⟨.struct [(0, 1), (1, 1), (2, 1)], 3, 40, [.int .i64 0, .int .i64 0, .nils]⟩ := rfl
theorem tab_31 : tab 31 = some ⟨.struct [(0, 1), (1, 1), (2, 1)], 3, 40, [.int .i64 0, .int .i64 0, .nils]⟩ := rfl
theorem tab_36 : tab 36 = some ⟨.slice 5, 1, 24, [.nils]⟩ := rfl
theorem tab_37 : tab 37 = some ⟨.struct [(0, 1), (1, 1), (2, 1), (3, 1)], 4, 32, [.int .i64 0, .int .i64 0, .int .i64 0, .int .i64 0]⟩ := rfl
theorem tab_38 : tab 38 = some ⟨.struct [(0, 1), (1, 1), (2, 1), (3, 1)], 4, 32, [.int .i64 0, .int .i64 0, .int .i64 0, .int .i64 0]⟩ := rfl
theorem tab_41 : tab 41 = some ⟨.struct [(0, 1), (1, 1)], 2, 32, [.int .i64 0, .nils]⟩ := rfl
theorem tab_42 : tab 42 = some ⟨.struct [(0, 1), (1, 1)], 2, 32, [.int .i64 0, .nils]⟩ := rfl
theorem tab_53 : tab 53 = some ⟨.slice 22, 1, 24, [.nils]⟩ := rfl
theorem tab_61 : tab 61 = some ⟨.slice 118, 1, 24, [.nils]⟩ := rfl
theorem tab_62 : tab 62 = some ⟨.struct [(0, 1), (1, 1), (2, 1)], 3, 40, [.int .i64 0, .int .i64 0, .nils]⟩ := rfl
theorem tab_63 : tab 63 = some ⟨.struct [(0, 1), (1, 1), (2, 1)], 3, 40, [.int .i64 0, .int .i64 0, .nils]⟩ := rfl
theorem tab_64 : tab 64 = some ⟨.struct [(0, 1), (1, 1)], 2, 32, [.int .i64 0, .nils]⟩ := rfl
theorem tab_84 : tab 84 = some ⟨.ptr 42, 1, 8, [.nilp]⟩ := rfl
theorem tab_87 : tab 87 = some ⟨.ptr 109, 1, 8, [.nilp]⟩ := rfl
theorem tab_100 : tab 100 = some ⟨.int .u64, 1, 8, [.int .u64 0]⟩ := rfl
theorem tab_108 : tab 108 = some ⟨.struct [(0, 1), (1, 1), (2, 1)], 3, 40, [.nils, .int .i64 0, .int .i64 0]⟩ := rfl
theorem tab_109 : tab 109 = some ⟨.struct [(0, 1), (1, 1), (2, 1)], 3, 40, [.nils, .int .i64 0, .int .i64 0]⟩ := rfl
theorem tab_118 : tab 118 = some ⟨.struct [(0, 1), (1, 1), (2, 1), (3, 1)], 4, 32, [.int .i64 0, .int .i64 0, .int .i64 0, .int .i64 0]⟩ := rfl
theorem tab_120 : tab 120 = some ⟨.int .u32, 1, 4, [.int .u32 0]⟩ := rfl
theorem tab_123 : tab 123 = some ⟨.int .u64, 1, 8, [.int .u64 0]⟩ := rfl
theorem tab_128 : tab 128 = some ⟨.struct [(0, 1), (1, 1), (2, 1), (3, 1)], 4, 40, [.nilp, .nilp, .nilp, .str ⟨#[]⟩]⟩ := rfl
theorem tab_129 : tab 129 = some ⟨.struct [(0, 1), (1, 1), (2, 1), (3, 1)], 4, 40, [.nilp, .nilp, .nilp, .str ⟨#[]⟩]⟩ := rfl
theorem tab_134 : tab 134 = some ⟨.int .u8, 1, 1, [.int .u8 0]⟩ := rfl
theorem tab_135 : tab 135 = some ⟨.int .u8, 1, 1, [.int .u8 0]⟩ := rfl
theorem tab_137 : tab 137 = some ⟨.ptr 5, 1, 8, [.nilp]⟩ := rfl
theorem tab_138 : tab 138 = some ⟨.int .i32, 1, 4, [.int .i32 0]⟩ := rfl
theorem tab_139 : tab 139 = some ⟨.int .i32, 1, 4, [.int .i32 0]⟩ := rfl
end Go.Proofs.Ytmijpnghcggdfaa.Ab
