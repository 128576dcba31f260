import Derived.Test.YtcdjheflchglaaaSimC
import Derived.Test.YtcdjheflchglaaaProg
set_option maxRecDepth 100000
namespace Go.Proofs.Sim.Se
open Go Go.Proofs Go.Proofs.Sim
noncomputable def TT0 : TT := [(0, ⟨(.tuple []), 1, 0, [.any], [.raw (Go.Value.tuple #[])], false, false, []⟩),
  (1, ⟨.other, 1, 8, [.any], [.raw (Go.Value.nilFunc)], false, false, []⟩),
  (2, ⟨(.int .i64), 1, 8, [.int .i64], [.int .i64 0], false, false, []⟩),
  (3, ⟨(.int .i64), 1, 8, [.int .i64], [.int .i64 0], false, false, []⟩),
  (4, ⟨.bool, 1, 1, [.bool], [.bool false], false, false, []⟩),
  (5, ⟨(.int .u8), 1, 1, [.int .u8], [.int .u8 0], false, false, []⟩),
  (6, ⟨(.int .u8), 1, 1, [.int .u8], [.int .u8 0], false, false, []⟩),
  (7, ⟨(.struct [(0, 1), (1, 1), (2, 1), (3, 1)]), 4, 24, [.int .i64, .int .i64, .bool, .int .u8], [.int .i64 0, .int .i64 0, .bool false, .int .u8 0], true, true, [2, 3, 4, 6]⟩),
  (8, ⟨(.struct [(0, 1), (1, 1), (2, 1), (3, 1)]), 4, 24, [.int .i64, .int .i64, .bool, .int .u8], [.int .i64 0, .int .i64 0, .bool false, .int .u8 0], true, true, [2, 3, 4, 6]⟩),
  (9, ⟨.str, 1, 16, [.str], [.str []], false, false, []⟩),
  (10, ⟨.str, 1, 16, [.str], [.str []], false, false, []⟩),
  (11, ⟨.str, 1, 16, [.str], [.str []], false, false, []⟩),
  (12, ⟨(.int .u64), 1, 8, [.int .u64], [.int .u64 0], false, false, []⟩),
  (13, ⟨(.struct [(0, 1), (1, 1)]), 2, 24, [.str, .int .u64], [.str [], .int .u64 0], true, false, [9, 12]⟩),
  (14, ⟨(.struct [(0, 1), (1, 1)]), 2, 24, [.str, .int .u64], [.str [], .int .u64 0], true, false, [9, 12]⟩),
  (15, ⟨(.pointer 181), 1, 8, [.any], [.raw (Go.Value.pointer none)], false, false, []⟩),
  (16, ⟨(.pointer 184), 1, 8, [.any], [.raw (Go.Value.pointer none)], false, false, []⟩),
  (17, ⟨(.pointer 192), 1, 8, [.any], [.raw (Go.Value.pointer none)], false, false, []⟩),
  (18, ⟨(.struct [(0, 1)]), 1, 8, [.any], [.raw (Go.Value.pointer none)], true, false, [17]⟩),
  (19, ⟨(.struct [(0, 1)]), 1, 8, [.any], [.raw (Go.Value.pointer none)], true, false, [17]⟩),
  (20, ⟨.iface, 1, 16, [.ifc], [.ifc true], false, false, []⟩),
  (21, ⟨(.int .i32), 1, 4, [.int .i32], [.int .i32 0], false, false, []⟩),
  (22, ⟨(.slice 61 4 32 [.int .i64, .int .i64, .int .i64, .int .i64]), 1, 24, [.sl 4 61], [.sl .nil 4 []], false, false, []⟩),
  (23, ⟨.other, 1, 8, [.any], [.raw (Go.Value.nilFunc)], false, false, []⟩),
  (24, ⟨(.slice 39 7 104 [.str, .int .i64, .int .i64, .int .i64, .str, .sl 6 37, .sl 7 39]), 1, 24, [.sl 7 39], [.sl .nil 7 []], false, false, []⟩),
  (25, ⟨(.int .i64), 1, 8, [.int .i64], [.int .i64 0], false, false, []⟩),
  (26, ⟨(.tuple [24, 9, 25]), 1, 0, [.any], [.raw (Go.Value.tuple
  #[Go.Value.slice none (0 : Nat) (0 : Nat), Go.Value.string { data := #[] }, Go.Value.int .i64 (0 : Int)])], false, false, []⟩),
  (27, ⟨.other, 1, 8, [.any], [.raw (Go.Value.nilFunc)], false, false, []⟩),
  (28, ⟨(.tuple [24, 9, 3]), 1, 0, [.any], [.raw (Go.Value.tuple
  #[Go.Value.slice none (0 : Nat) (0 : Nat), Go.Value.string { data := #[] }, Go.Value.int .i64 (0 : Int)])], false, false, []⟩),
  (29, ⟨.other, 1, 8, [.any], [.raw (Go.Value.nilFunc)], false, false, []⟩),
  (30, ⟨.other, 1, 8, [.any], [.raw (Go.Value.nilFunc)], false, false, []⟩),
  (31, ⟨.other, 1, 8, [.any], [.raw (Go.Value.nilFunc)], false, false, []⟩),
  (32, ⟨.other, 1, 8, [.any], [.raw (Go.Value.nilFunc)], false, false, []⟩),
  (33, ⟨.other, 1, 8, [.any], [.raw (Go.Value.nilFunc)], false, false, []⟩),
  (34, ⟨.other, 1, 8, [.any], [.raw (Go.Value.nilFunc)], false, false, []⟩),
  (35, ⟨(.slice 37 6 88 [.int .i64, .int .i64, .int .i64, .str, .sl 6 37, .sl 7 39]), 1, 24, [.sl 6 37], [.sl .nil 6 []], false, false, []⟩),
  (36, ⟨(.struct [(0, 1), (1, 1), (2, 1), (3, 1), (4, 1), (5, 1)]), 6, 88, [.int .i64, .int .i64, .int .i64, .str, .sl 6 37, .sl 7 39], [.int .i64 0, .int .i64 0, .int .i64 0, .str [], .sl .nil 6 [], .sl .nil 7 []], true, false, [3, 3, 3, 9, 35, 24]⟩),
  (37, ⟨(.struct [(0, 1), (1, 1), (2, 1), (3, 1), (4, 1), (5, 1)]), 6, 88, [.int .i64, .int .i64, .int .i64, .str, .sl 6 37, .sl 7 39], [.int .i64 0, .int .i64 0, .int .i64 0, .str [], .sl .nil 6 [], .sl .nil 7 []], true, false, [3, 3, 3, 9, 35, 24]⟩),
  (38, ⟨(.struct [(0, 1), (1, 6)]), 7, 104, [.str, .int .i64, .int .i64, .int .i64, .str, .sl 6 37, .sl 7 39], [.str [], .int .i64 0, .int .i64 0, .int .i64 0, .str [], .sl .nil 6 [], .sl .nil 7 []], true, false, [9, 37]⟩),
  (39, ⟨(.struct [(0, 1), (1, 6)]), 7, 104, [.str, .int .i64, .int .i64, .int .i64, .str, .sl 6 37, .sl 7 39], [.str [], .int .i64 0, .int .i64 0, .int .i64 0, .str [], .sl .nil 6 [], .sl .nil 7 []], true, false, [9, 37]⟩),
  (40, ⟨(.tuple [22, 25]), 1, 0, [.any], [.raw (Go.Value.tuple #[Go.Value.slice none (0 : Nat) (0 : Nat), Go.Value.int .i64 (0 : Int)])], false, false, []⟩),
  (41, ⟨.other, 1, 8, [.any], [.raw (Go.Value.nilFunc)], false, false, []⟩),
  (42, ⟨(.tuple [22, 3]), 1, 0, [.any], [.raw (Go.Value.tuple #[Go.Value.slice none (0 : Nat) (0 : Nat), Go.Value.int .i64 (0 : Int)])], false, false, []⟩),
  (43, ⟨.other, 1, 8, [.any], [.raw (Go.Value.nilFunc)], false, false, []⟩),
  (44, ⟨.other, 1, 8, [.any], [.raw (Go.Value.nilFunc)], false, false, []⟩),
  (45, ⟨.other, 1, 8, [.any], [.raw (Go.Value.nilFunc)], false, false, []⟩),
  (46, ⟨.other, 1, 8, [.any], [.raw (Go.Value.nilFunc)], false, false, []⟩),
  (47, ⟨(.tuple [37, 3, 25]), 1, 0, [.any], [.raw (Go.Value.tuple
  #[Go.Value.agg
      #[Go.Value.int .i64 (0 : Int), Go.Value.int .i64 (0 : Int),
        Go.Value.int .i64 (0 : Int), Go.Value.string { data := #[] }, Go.Value.slice none (0 : Nat) (0 : Nat),
        Go.Value.slice none (0 : Nat) (0 : Nat)],
    Go.Value.int .i64 (0 : Int), Go.Value.int .i64 (0 : Int)])], false, false, []⟩),
  (48, ⟨.other, 1, 8, [.any], [.raw (Go.Value.nilFunc)], false, false, []⟩),
  (49, ⟨(.tuple [37, 3, 3]), 1, 0, [.any], [.raw (Go.Value.tuple
  #[Go.Value.agg
      #[Go.Value.int .i64 (0 : Int), Go.Value.int .i64 (0 : Int),
        Go.Value.int .i64 (0 : Int), Go.Value.string { data := #[] }, Go.Value.slice none (0 : Nat) (0 : Nat),
        Go.Value.slice none (0 : Nat) (0 : Nat)],
    Go.Value.int .i64 (0 : Int), Go.Value.int .i64 (0 : Int)])], false, false, []⟩),
  (50, ⟨.other, 1, 8, [.any], [.raw (Go.Value.nilFunc)], false, false, []⟩),
  (51, ⟨.other, 1, 8, [.any], [.raw (Go.Value.nilFunc)], false, false, []⟩),
  (52, ⟨.other, 1, 8, [.any], [.raw (Go.Value.nilFunc)], false, false, []⟩),
  (53, ⟨(.tuple [37, 25]), 1, 0, [.any], [.raw (Go.Value.tuple
  #[Go.Value.agg
      #[Go.Value.int .i64 (0 : Int), Go.Value.int .i64 (0 : Int),
        Go.Value.int .i64 (0 : Int), Go.Value.string { data := #[] }, Go.Value.slice none (0 : Nat) (0 : Nat),
        Go.Value.slice none (0 : Nat) (0 : Nat)],
    Go.Value.int .i64 (0 : Int)])], false, false, []⟩),
  (54, ⟨.other, 1, 8, [.any], [.raw (Go.Value.nilFunc)], false, false, []⟩),
  (55, ⟨(.tuple [37, 3]), 1, 0, [.any], [.raw (Go.Value.tuple
  #[Go.Value.agg
      #[Go.Value.int .i64 (0 : Int), Go.Value.int .i64 (0 : Int),
        Go.Value.int .i64 (0 : Int), Go.Value.string { data := #[] }, Go.Value.slice none (0 : Nat) (0 : Nat),
        Go.Value.slice none (0 : Nat) (0 : Nat)],
    Go.Value.int .i64 (0 : Int)])], false, false, []⟩),
  (56, ⟨.other, 1, 8, [.any], [.raw (Go.Value.nilFunc)], false, false, []⟩),
  (57, ⟨.other, 1, 8, [.any], [.raw (Go.Value.nilFunc)], false, false, []⟩),
  (58, ⟨(.struct [(0, 1), (1, 1), (2, 1)]), 3, 24, [.int .i64, .int .i64, .int .i64], [.int .i64 0, .int .i64 0, .int .i64 0], true, true, [3, 3, 3]⟩),
  (59, ⟨(.struct [(0, 1), (1, 1), (2, 1)]), 3, 24, [.int .i64, .int .i64, .int .i64], [.int .i64 0, .int .i64 0, .int .i64 0], true, true, [3, 3, 3]⟩),
  (60, ⟨(.struct [(0, 1), (1, 3)]), 4, 32, [.int .i64, .int .i64, .int .i64, .int .i64], [.int .i64 0, .int .i64 0, .int .i64 0, .int .i64 0], true, true, [3, 59]⟩),
  (61, ⟨(.struct [(0, 1), (1, 3)]), 4, 32, [.int .i64, .int .i64, .int .i64, .int .i64], [.int .i64 0, .int .i64 0, .int .i64 0, .int .i64 0], true, true, [3, 59]⟩),
  (62, ⟨.other, 1, 8, [.any], [.raw (Go.Value.nilFunc)], false, false, []⟩),
  (63, ⟨(.slice 3 1 8 [.int .i64]), 1, 24, [.sl 1 3], [.sl .nil 1 []], false, false, []⟩),
  (64, ⟨.other, 1, 8, [.any], [.raw (Go.Value.nilFunc)], false, false, []⟩),
  (65, ⟨.other, 1, 8, [.any], [.raw (Go.Value.nilFunc)], false, false, []⟩),
  (66, ⟨.other, 1, 8, [.any], [.raw (Go.Value.nilFunc)], false, false, []⟩),
  (67, ⟨(.tuple [65, 66]), 1, 0, [.any], [.raw (Go.Value.tuple #[Go.Value.nilFunc, Go.Value.nilFunc])], false, false, []⟩),
  (68, ⟨.other, 1, 8, [.any], [.raw (Go.Value.nilFunc)], false, false, []⟩),
  (69, ⟨.other, 1, 8, [.any], [.raw (Go.Value.nilFunc)], false, false, []⟩),
  (70, ⟨.other, 1, 8, [.any], [.raw (Go.Value.nilFunc)], false, false, []⟩),
  (71, ⟨.other, 1, 8, [.any], [.raw (Go.Value.nilFunc)], false, false, []⟩),
  (72, ⟨(.tuple [9, 3]), 1, 0, [.any], [.raw (Go.Value.tuple #[Go.Value.string { data := #[] }, Go.Value.int .i64 (0 : Int)])], false, false, []⟩),
  (73, ⟨.other, 1, 8, [.any], [.raw (Go.Value.nilFunc)], false, false, []⟩),
  (74, ⟨.other, 1, 8, [.any], [.raw (Go.Value.nilFunc)], false, false, []⟩),
  (75, ⟨.other, 1, 8, [.any], [.raw (Go.Value.nilFunc)], false, false, []⟩),
  (76, ⟨(.tuple [63, 3]), 1, 0, [.any], [.raw (Go.Value.tuple #[Go.Value.slice none (0 : Nat) (0 : Nat), Go.Value.int .i64 (0 : Int)])], false, false, []⟩),
  (77, ⟨.other, 1, 8, [.any], [.raw (Go.Value.nilFunc)], false, false, []⟩),
  (78, ⟨(.tuple [63, 4]), 1, 0, [.any], [.raw (Go.Value.tuple #[Go.Value.slice none (0 : Nat) (0 : Nat), Go.Value.bool false])], false, false, []⟩),
  (79, ⟨.other, 1, 8, [.any], [.raw (Go.Value.nilFunc)], false, false, []⟩),
  (80, ⟨.other, 1, 8, [.any], [.raw (Go.Value.nilFunc)], false, false, []⟩),
  (81, ⟨(.slice 5 1 1 [.int .u8]), 1, 24, [.sl 1 5], [.sl .nil 1 []], false, false, []⟩),
  (82, ⟨(.tuple [63, 25]), 1, 0, [.any], [.raw (Go.Value.tuple #[Go.Value.slice none (0 : Nat) (0 : Nat), Go.Value.int .i64 (0 : Int)])], false, false, []⟩),
  (83, ⟨.other, 1, 8, [.any], [.raw (Go.Value.nilFunc)], false, false, []⟩),
  (84, ⟨.other, 1, 8, [.any], [.raw (Go.Value.nilFunc)], false, false, []⟩),
  (85, ⟨(.pointer 89), 1, 8, [.any], [.raw (Go.Value.pointer none)], false, false, []⟩),
  (86, ⟨(.struct [(0, 1), (1, 1)]), 2, 24, [.str, .int .i64], [.str [], .int .i64 0], true, true, [9, 3]⟩),
  (87, ⟨(.struct [(0, 1), (1, 1)]), 2, 24, [.str, .int .i64], [.str [], .int .i64 0], true, true, [9, 3]⟩),
  (88, ⟨(.struct [(0, 2), (2, 1)]), 3, 32, [.str, .int .i64, .int .i64], [.str [], .int .i64 0, .int .i64 0], true, true, [87, 3]⟩),
  (89, ⟨(.struct [(0, 2), (2, 1)]), 3, 32, [.str, .int .i64, .int .i64], [.str [], .int .i64 0, .int .i64 0], true, true, [87, 3]⟩),
  (90, ⟨.other, 1, 8, [.any], [.raw (Go.Value.nilFunc)], false, false, []⟩),
  (91, ⟨.other, 1, 8, [.any], [.raw (Go.Value.nilFunc)], false, false, []⟩),
  (92, ⟨.other, 1, 8, [.any], [.raw (Go.Value.nilFunc)], false, false, []⟩),
  (93, ⟨.other, 1, 8, [.any], [.raw (Go.Value.nilFunc)], false, false, []⟩),
  (94, ⟨(.struct [(0, 1), (1, 1), (2, 1), (3, 1), (4, 1)]), 5, 48, [.int .i64, .int .i64, .str, .int .i64, .int .i64], [.int .i64 0, .int .i64 0, .str [], .int .i64 0, .int .i64 0], true, true, [3, 3, 9, 3, 3]⟩),
  (95, ⟨(.struct [(0, 1), (1, 1), (2, 1), (3, 1), (4, 1)]), 5, 48, [.int .i64, .int .i64, .str, .int .i64, .int .i64], [.int .i64 0, .int .i64 0, .str [], .int .i64 0, .int .i64 0], true, true, [3, 3, 9, 3, 3]⟩),
  (96, ⟨(.tuple [95, 25]), 1, 0, [.any], [.raw (Go.Value.tuple
  #[Go.Value.agg
      #[Go.Value.int .i64 (0 : Int), Go.Value.int .i64 (0 : Int), Go.Value.string { data := #[] },
        Go.Value.int .i64 (0 : Int), Go.Value.int .i64 (0 : Int)],
    Go.Value.int .i64 (0 : Int)])], false, false, []⟩),
  (97, ⟨.other, 1, 8, [.any], [.raw (Go.Value.nilFunc)], false, false, []⟩),
  (98, ⟨(.tuple [95, 3]), 1, 0, [.any], [.raw (Go.Value.tuple
  #[Go.Value.agg
      #[Go.Value.int .i64 (0 : Int), Go.Value.int .i64 (0 : Int), Go.Value.string { data := #[] },
        Go.Value.int .i64 (0 : Int), Go.Value.int .i64 (0 : Int)],
    Go.Value.int .i64 (0 : Int)])], false, false, []⟩),
  (99, ⟨.other, 1, 8, [.any], [.raw (Go.Value.nilFunc)], false, false, []⟩),
  (100, ⟨(.array 8 5 1), 8, 8, [.int .u8, .int .u8, .int .u8, .int .u8, .int .u8, .int .u8, .int .u8, .int .u8], [.int .u8 0, .int .u8 0, .int .u8 0, .int .u8 0, .int .u8 0, .int .u8 0, .int .u8 0, .int .u8 0], true, false, []⟩),
  (101, ⟨.other, 1, 8, [.any], [.raw (Go.Value.nilFunc)], false, false, []⟩),
  (102, ⟨(.tuple [9, 25]), 1, 0, [.any], [.raw (Go.Value.tuple #[Go.Value.string { data := #[] }, Go.Value.int .i64 (0 : Int)])], false, false, []⟩),
  (103, ⟨.other, 1, 8, [.any], [.raw (Go.Value.nilFunc)], false, false, []⟩),
  (104, ⟨.other, 1, 8, [.any], [.raw (Go.Value.nilFunc)], false, false, []⟩),
  (105, ⟨(.tuple [37, 4]), 1, 0, [.any], [.raw (Go.Value.tuple
  #[Go.Value.agg
      #[Go.Value.int .i64 (0 : Int), Go.Value.int .i64 (0 : Int),
        Go.Value.int .i64 (0 : Int), Go.Value.string { data := #[] }, Go.Value.slice none (0 : Nat) (0 : Nat),
        Go.Value.slice none (0 : Nat) (0 : Nat)],
    Go.Value.bool false])], false, false, []⟩),
  (106, ⟨.other, 1, 8, [.any], [.raw (Go.Value.nilFunc)], false, false, []⟩),
  (107, ⟨.other, 1, 8, [.any], [.raw (Go.Value.nilFunc)], false, false, []⟩),
  (108, ⟨(.tuple [3, 4]), 1, 0, [.any], [.raw (Go.Value.tuple #[Go.Value.int .i64 (0 : Int), Go.Value.bool false])], false, false, []⟩),
  (109, ⟨.other, 1, 8, [.any], [.raw (Go.Value.nilFunc)], false, false, []⟩),
  (110, ⟨(.tuple [3, 25]), 1, 0, [.any], [.raw (Go.Value.tuple #[Go.Value.int .i64 (0 : Int), Go.Value.int .i64 (0 : Int)])], false, false, []⟩),
  (111, ⟨.other, 1, 8, [.any], [.raw (Go.Value.nilFunc)], false, false, []⟩),
  (112, ⟨.other, 1, 8, [.any], [.raw (Go.Value.nilFunc)], false, false, []⟩),
  (113, ⟨(.tuple [3, 3]), 1, 0, [.any], [.raw (Go.Value.tuple #[Go.Value.int .i64 (0 : Int), Go.Value.int .i64 (0 : Int)])], false, false, []⟩),
  (114, ⟨.other, 1, 8, [.any], [.raw (Go.Value.nilFunc)], false, false, []⟩),
  (115, ⟨.other, 1, 8, [.any], [.raw (Go.Value.nilFunc)], false, false, []⟩),
  (116, ⟨.other, 1, 8, [.any], [.raw (Go.Value.nilFunc)], false, false, []⟩),
  (117, ⟨.other, 1, 8, [.any], [.raw (Go.Value.nilFunc)], false, false, []⟩),
  (118, ⟨(.struct [(0, 1), (1, 1), (2, 1), (3, 1), (4, 1)]), 5, 5, [.bool, .bool, .bool, .bool, .bool], [.bool false, .bool false, .bool false, .bool false, .bool false], true, true, [4, 4, 4, 4, 4]⟩),
  (119, ⟨(.struct [(0, 1), (1, 1), (2, 1), (3, 1), (4, 1)]), 5, 5, [.bool, .bool, .bool, .bool, .bool], [.bool false, .bool false, .bool false, .bool false, .bool false], true, true, [4, 4, 4, 4, 4]⟩),
  (120, ⟨(.tuple [119, 4]), 1, 0, [.any], [.raw (Go.Value.tuple
  #[Go.Value.agg
      #[Go.Value.bool false, Go.Value.bool false, Go.Value.bool false, Go.Value.bool false, Go.Value.bool false],
    Go.Value.bool false])], false, false, []⟩),
  (121, ⟨.other, 1, 8, [.any], [.raw (Go.Value.nilFunc)], false, false, []⟩),
  (122, ⟨.other, 1, 8, [.any], [.raw (Go.Value.nilFunc)], false, false, []⟩),
  (123, ⟨.other, 1, 8, [.any], [.raw (Go.Value.nilFunc)], false, false, []⟩),
  (124, ⟨.other, 1, 8, [.any], [.raw (Go.Value.nilFunc)], false, false, []⟩),
  (125, ⟨.other, 1, 8, [.any], [.raw (Go.Value.nilFunc)], false, false, []⟩),
  (126, ⟨(.pointer 128), 1, 8, [.any], [.raw (Go.Value.pointer none)], false, false, []⟩),
  (127, ⟨(.struct [(0, 1), (1, 1), (2, 1)]), 3, 48, [.str, .int .i64, .sl 1 5], [.str [], .int .i64 0, .sl .nil 1 []], true, false, [9, 3, 81]⟩),
  (128, ⟨(.struct [(0, 1), (1, 1), (2, 1)]), 3, 48, [.str, .int .i64, .sl 1 5], [.str [], .int .i64 0, .sl .nil 1 []], true, false, [9, 3, 81]⟩),
  (129, ⟨.other, 1, 8, [.any], [.raw (Go.Value.nilFunc)], false, false, []⟩),
  (130, ⟨(.tuple [9, 3, 3]), 1, 0, [.any], [.raw (Go.Value.tuple
  #[Go.Value.string { data := #[] }, Go.Value.int .i64 (0 : Int), Go.Value.int .i64 (0 : Int)])], false, false, []⟩),
  (131, ⟨.other, 1, 8, [.any], [.raw (Go.Value.nilFunc)], false, false, []⟩),
  (132, ⟨.other, 1, 8, [.any], [.raw (Go.Value.nilFunc)], false, false, []⟩),
  (133, ⟨.other, 1, 8, [.any], [.raw (Go.Value.nilFunc)], false, false, []⟩),
  (134, ⟨.other, 1, 8, [.any], [.raw (Go.Value.nilFunc)], false, false, []⟩),
  (135, ⟨.other, 1, 8, [.any], [.raw (Go.Value.nilFunc)], false, false, []⟩),
  (136, ⟨.other, 1, 8, [.any], [.raw (Go.Value.nilFunc)], false, false, []⟩),
  (137, ⟨(.int .u64), 1, 8, [.int .u64], [.int .u64 0], false, false, []⟩),
  (138, ⟨(.int .u64), 1, 8, [.int .u64], [.int .u64 0], false, false, []⟩),
  (139, ⟨(.pointer 87), 1, 8, [.any], [.raw (Go.Value.pointer none)], false, false, []⟩),
  (140, ⟨.other, 1, 8, [.any], [.raw (Go.Value.nilFunc)], false, false, []⟩),
  (141, ⟨.map, 1, 8, [.any], [.raw (Go.Value.map none)], false, false, []⟩),
  (142, ⟨(.tuple [9, 4, 25]), 1, 0, [.any], [.raw (Go.Value.tuple #[Go.Value.string { data := #[] }, Go.Value.bool false, Go.Value.int .i64 (0 : Int)])], false, false, []⟩),
  (143, ⟨.other, 1, 8, [.any], [.raw (Go.Value.nilFunc)], false, false, []⟩),
  (144, ⟨.other, 1, 8, [.any], [.raw (Go.Value.nilFunc)], false, false, []⟩),
  (145, ⟨.other, 1, 8, [.any], [.raw (Go.Value.nilFunc)], false, false, []⟩),
  (146, ⟨.other, 1, 8, [.any], [.raw (Go.Value.nilFunc)], false, false, []⟩),
  (147, ⟨.other, 1, 8, [.any], [.raw (Go.Value.nilFunc)], false, false, []⟩),
  (148, ⟨.other, 1, 8, [.any], [.raw (Go.Value.nilFunc)], false, false, []⟩),
  (149, ⟨(.tuple [37, 3, 4]), 1, 0, [.any], [.raw (Go.Value.tuple
  #[Go.Value.agg
      #[Go.Value.int .i64 (0 : Int), Go.Value.int .i64 (0 : Int),
        Go.Value.int .i64 (0 : Int), Go.Value.string { data := #[] }, Go.Value.slice none (0 : Nat) (0 : Nat),
        Go.Value.slice none (0 : Nat) (0 : Nat)],
    Go.Value.int .i64 (0 : Int), Go.Value.bool false])], false, false, []⟩),
  (150, ⟨.other, 1, 8, [.any], [.raw (Go.Value.nilFunc)], false, false, []⟩),
  (151, ⟨.other, 1, 8, [.any], [.raw (Go.Value.nilFunc)], false, false, []⟩),
  (152, ⟨.other, 1, 8, [.any], [.raw (Go.Value.nilFunc)], false, false, []⟩),
  (153, ⟨.other, 1, 8, [.any], [.raw (Go.Value.nilFunc)], false, false, []⟩),
  (154, ⟨.other, 1, 8, [.any], [.raw (Go.Value.nilFunc)], false, false, []⟩),
  (155, ⟨.other, 1, 8, [.any], [.raw (Go.Value.nilFunc)], false, false, []⟩),
  (156, ⟨.other, 1, 8, [.any], [.raw (Go.Value.nilFunc)], false, false, []⟩),
  (157, ⟨.other, 1, 8, [.any], [.raw (Go.Value.nilFunc)], false, false, []⟩),
  (158, ⟨.other, 1, 8, [.any], [.raw (Go.Value.nilFunc)], false, false, []⟩),
  (159, ⟨(.tuple [5, 4]), 1, 0, [.any], [.raw (Go.Value.tuple #[Go.Value.int .u8 (0 : Int), Go.Value.bool false])], false, false, []⟩),
  (160, ⟨.other, 1, 8, [.any], [.raw (Go.Value.nilFunc)], false, false, []⟩),
  (161, ⟨.other, 1, 8, [.any], [.raw (Go.Value.nilFunc)], false, false, []⟩),
  (162, ⟨.other, 1, 8, [.any], [.raw (Go.Value.nilFunc)], false, false, []⟩),
  (163, ⟨.other, 1, 8, [.any], [.raw (Go.Value.nilFunc)], false, false, []⟩),
  (164, ⟨.other, 1, 8, [.any], [.raw (Go.Value.nilFunc)], false, false, []⟩),
  (165, ⟨.other, 1, 8, [.any], [.raw (Go.Value.nilFunc)], false, false, []⟩),
  (166, ⟨.other, 1, 8, [.any], [.raw (Go.Value.nilFunc)], false, false, []⟩),
  (167, ⟨.other, 1, 8, [.any], [.raw (Go.Value.nilFunc)], false, false, []⟩),
  (168, ⟨(.tuple [4, 9]), 1, 0, [.any], [.raw (Go.Value.tuple #[Go.Value.bool false, Go.Value.string { data := #[] }])], false, false, []⟩),
  (169, ⟨.other, 1, 8, [.any], [.raw (Go.Value.nilFunc)], false, false, []⟩),
  (170, ⟨.other, 1, 8, [.any], [.raw (Go.Value.nilFunc)], false, false, []⟩),
  (171, ⟨.other, 1, 8, [.any], [.raw (Go.Value.nilFunc)], false, false, []⟩),
  (172, ⟨.other, 1, 8, [.any], [.raw (Go.Value.nilFunc)], false, false, []⟩),
  (173, ⟨.other, 1, 8, [.any], [.raw (Go.Value.nilFunc)], false, false, []⟩),
  (174, ⟨.other, 1, 8, [.any], [.raw (Go.Value.nilFunc)], false, false, []⟩),
  (175, ⟨.other, 1, 8, [.any], [.raw (Go.Value.nilFunc)], false, false, []⟩),
  (176, ⟨.other, 1, 8, [.any], [.raw (Go.Value.nilFunc)], false, false, []⟩),
  (177, ⟨(.int .u32), 1, 4, [.int .u32], [.int .u32 0], false, false, []⟩),
  (178, ⟨(.tuple [177, 177]), 1, 0, [.any], [.raw (Go.Value.tuple #[Go.Value.int .u32 (0 : Int), Go.Value.int .u32 (0 : Int)])], false, false, []⟩),
  (179, ⟨.other, 1, 8, [.any], [.raw (Go.Value.nilFunc)], false, false, []⟩),
  (180, ⟨(.struct [(0, 1), (1, 1), (2, 1), (3, 1)]), 4, 40, [.any, .any, .any, .str], [.raw (Go.Value.pointer none), .raw (Go.Value.pointer none), .raw (Go.Value.pointer none), .str []], true, false, [17, 17, 17, 9]⟩),
  (181, ⟨(.struct [(0, 1), (1, 1), (2, 1), (3, 1)]), 4, 40, [.any, .any, .any, .str], [.raw (Go.Value.pointer none), .raw (Go.Value.pointer none), .raw (Go.Value.pointer none), .str []], true, false, [17, 17, 17, 9]⟩),
  (182, ⟨(.array 0 16 1), 0, 0, [], [], true, false, []⟩),
  (183, ⟨(.struct [(0, 0)]), 0, 0, [], [], true, false, [182]⟩),
  (184, ⟨(.struct [(0, 0)]), 0, 0, [], [], true, false, [182]⟩),
  (185, ⟨(.int .u8), 1, 1, [.int .u8], [.int .u8 0], false, false, []⟩),
  (186, ⟨(.int .u8), 1, 1, [.int .u8], [.int .u8 0], false, false, []⟩),
  (187, ⟨.other, 1, 8, [.any], [.raw (Go.Value.nilFunc)], false, false, []⟩),
  (188, ⟨(.pointer 5), 1, 8, [.any], [.raw (Go.Value.pointer none)], false, false, []⟩),
  (189, ⟨(.int .i32), 1, 4, [.int .i32], [.int .i32 0], false, false, []⟩),
  (190, ⟨(.int .i32), 1, 4, [.int .i32], [.int .i32 0], false, false, []⟩),
  (191, ⟨(.struct [(0, 1), (1, 1), (2, 1), (3, 1), (4, 1), (5, 1), (6, 1), (7, 1), (8, 1), (9, 1), (10, 1)]), 11, 48, [.int .u64, .int .u64, .int .u32, .int .u8, .int .u8, .int .u8, .int .u8, .any, .any, .int .i32, .int .i32], [.int .u64 0, .int .u64 0, .int .u32 0, .int .u8 0, .int .u8 0, .int .u8 0, .int .u8 0, .raw (Go.Value.nilFunc), .raw (Go.Value.pointer none), .int .i32 0, .int .i32 0], true, false, [12, 12, 177, 185, 5, 5, 186, 187, 188, 189, 190]⟩),
  (192, ⟨(.struct [(0, 1), (1, 1), (2, 1), (3, 1), (4, 1), (5, 1), (6, 1), (7, 1), (8, 1), (9, 1), (10, 1)]), 11, 48, [.int .u64, .int .u64, .int .u32, .int .u8, .int .u8, .int .u8, .int .u8, .any, .any, .int .i32, .int .i32], [.int .u64 0, .int .u64 0, .int .u32 0, .int .u8 0, .int .u8 0, .int .u8 0, .int .u8 0, .raw (Go.Value.nilFunc), .raw (Go.Value.pointer none), .int .i32 0, .int .i32 0], true, false, [12, 12, 177, 185, 5, 5, 186, 187, 188, 189, 190]⟩),
  (193, ⟨.other, 1, 8, [.any], [.raw (Go.Value.pointer none)], false, false, []⟩)]
abbrev fn_l18_ParseTells : Nat := 6
abbrev fn_l18_parsed : Nat := 20
abbrev fn_parse_Value : Nat := 21
abbrev fn_r18_Value : Nat := 22
abbrev fn_r16_Equal : Nat := 23
abbrev fn_parse_Whole : Nat := 24
abbrev fn_parse_reader_value : Nat := 45
abbrev fn_value_Plain : Nat := 46
abbrev fn_r18_read : Nat := 47
abbrev fn_r16_Plain : Nat := 48
abbrev fn_token_Next : Nat := 50
abbrev fn_r15_Next : Nat := 51
abbrev fn_parse_cursor_take : Nat := 64
abbrev fn_parse_reader_number : Nat := 65
abbrev fn_parse_word : Nat := 66
abbrev fn_parse_reader_list : Nat := 68
abbrev fn_parse_reader_dict : Nat := 69
abbrev fn_value_has : Nat := 70
abbrev fn_value_plainPairs : Nat := 71
abbrev fn_r18_number : Nat := 72
abbrev fn_r18_word : Nat := 73
abbrev fn_r18_list : Nat := 74
abbrev fn_r18_dict : Nat := 75
abbrev fn_r16_pairs : Nat := 76
abbrev fn_token_Skip : Nat := 77
abbrev fn_token_scanner_token : Nat := 78
abbrev fn_r15_Skip : Nat := 80
abbrev fn_r15_name : Nat := 81
abbrev fn_r15_sign : Nat := 82
abbrev fn_r15_plain : Nat := 83
abbrev fn_r15_hex : Nat := 84
abbrev fn_r01_Kind : Nat := 85
abbrev fn_r15_word : Nat := 86
abbrev fn_parse_reader_link : Nat := 92
abbrev fn_parse_reader_key : Nat := 93
abbrev fn_slices_Clone_Pair : Nat := 94
abbrev fn_slices_SortStableFunc_Pair : Nat := 95
abbrev fn_value_plainPairs_1 : Nat := 96
abbrev fn_cmp_Compare_string : Nat := 97
abbrev fn_slices_CompactFunc_Pair : Nat := 98
abbrev fn_value_plainPairs_2 : Nat := 99
abbrev fn_r18_link : Nat := 100
abbrev fn_r16_put : Nat := 101
abbrev fn_octet_Span : Nat := 102
abbrev fn_octet_Ends : Nat := 103
abbrev fn_token_scanner_name : Nat := 105
abbrev fn_token_scanner_text : Nat := 106
abbrev fn_token_scanner_hex : Nat := 108
abbrev fn_token_scanner_word : Nat := 109
abbrev fn_r01_Hex : Nat := 110
abbrev fn_r01_Ends : Nat := 111
abbrev fn_r15_meant : Nat := 112
abbrev fn_r01_in : Nat := 113
abbrev fn_r01_Span : Nat := 114
abbrev fn_r02_Loose : Nat := 115
abbrev fn_slices_stableCmpFunc_Pair : Nat := 117
abbrev fn_cmp_isNaN_string : Nat := 118
abbrev fn_octet_within : Nat := 119
abbrev fn_octet_Kind : Nat := 120
abbrev fn_token_scanner_escaped : Nat := 122
abbrev fn_token_scanner_escape : Nat := 124
abbrev fn_token_scanner_hex_1 : Nat := 125
abbrev fn_octet_Hex : Nat := 126
abbrev fn_digits_Loose : Nat := 127
abbrev fn_r02_Fixed : Nat := 128
abbrev fn_slices_insertionSortCmpFunc_Pair : Nat := 131
abbrev fn_slices_symMergeCmpFunc_Pair : Nat := 132
abbrev fn_token_scanner_octal : Nat := 133
abbrev fn_digits_signed : Nat := 134
abbrev fn_digits_Fixed : Nat := 135
abbrev fn_r02_Count : Nat := 136
abbrev fn_slices_rotateCmpFunc_Pair : Nat := 137
abbrev fn_strings_Contains : Nat := 138
abbrev fn_digits_Count : Nat := 139
abbrev fn_slices_swapRangeCmpFunc_Pair : Nat := 141
abbrev fn_digits_digit : Nat := 143
abbrev fn_digits_taker_1 : Nat := 144
abbrev ty_int : Nat := 3
abbrev ty_uint8 : Nat := 5
abbrev ty_string : Nat := 9
abbrev ty_api_Value : Nat := 37
abbrev ty_api_Pair : Nat := 39
abbrev ty_parse_cursor : Nat := 87
abbrev ty_parse_reader : Nat := 89
abbrev ty_api_Token : Nat := 95
abbrev ty_value_fieldSet : Nat := 119
abbrev ty_token_scanner : Nat := 128
noncomputable def ai_crossing_putter : AC := (annot [] [2, 3] (codeOf Try.f28) 0).1
noncomputable def ai_crossing_putter_1 : AC := (annot [] [] (codeOf Try.f53) 0).1
noncomputable def ai_crossing_putter_2 : AC := (annot [] [1] (codeOf Try.f55) 0).1
noncomputable def ai_digits_taker : AC := (annot [] [2] (codeOf Try.f140) 0).1
noncomputable def ai_digits_taker_1 : AC := (annot [] [2] (codeOf Try.f144) 0).1
noncomputable def ai_parse_none : AC := (annot [] [2, 3] (codeOf Try.f49) 0).1
noncomputable def ai_token_bad : AC := (annot [] [2, 3] (codeOf Try.f79) 0).1
noncomputable def ai_token_scanner_told : AC := (annot [] [4, 5] (codeOf Try.f123) 0).1
noncomputable def ai_token_scanner_more : AC := (annot [] [2, 3] (codeOf Try.f121) 0).1
noncomputable def ai_token_scanner_sign : AC := (annot [] [6, 7] (codeOf Try.f104) 0).1
noncomputable def ai_token_scanner_twice : AC := (annot [] [2] (codeOf Try.f107) 0).1
noncomputable def ai_token_scanner_hex_1 : AC := (annot [] [] (codeOf Try.f125) 0).1
noncomputable def ai_parse_reader_inside : AC := (annot [] [4, 5] (codeOf Try.f67) 0).1
noncomputable def ai_parse_cursor_peek : AC := (annot [] [2, 3] (codeOf Try.f91) 0).1
noncomputable def inl0 : List (Nat × AC × Nat × List ResultVar) := [(28, ai_crossing_putter, 9, [.tmp 2, .tmp 3]), (53, ai_crossing_putter_1, 21, []), (55, ai_crossing_putter_2, 4, [.tmp 1]), (140, ai_digits_taker, 5, [.tmp 2]), (144, ai_digits_taker_1, 23, [.tmp 2]), (49, ai_parse_none, 6, [.cell 2 37, .tmp 3]), (79, ai_token_bad, 6, [.cell 2 95, .tmp 3]), (123, ai_token_scanner_told, 13, [.cell 4 95, .tmp 5]), (121, ai_token_scanner_more, 23, [.tmp 2, .tmp 3]), (104, ai_token_scanner_sign, 18, [.cell 6 95, .tmp 7]), (107, ai_token_scanner_twice, 36, [.tmp 2]), (125, ai_token_scanner_hex_1, 37, []), (67, ai_parse_reader_inside, 37, [.cell 4 37, .tmp 5]), (91, ai_parse_cursor_peek, 15, [.cell 2 95, .tmp 3])]
def wr0 : List (Nat × Nat) := [(95, 1), (117, 1), (131, 1), (132, 1), (137, 1), (141, 1), (98, 1), (94, 2), (41, 2), (44, 2), (133, 4)]
def self0 : List (Nat × Nat) := []
noncomputable def E0 : Env := ⟨Try.prog, TT0, 0, glkI inl0, glkS self0, glkM wr0⟩
end Go.Proofs.Sim.Se
