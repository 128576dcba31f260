import Derived.Test.YtkdjpnfpmpchnaaDoorSimC
import Derived.Test.YtkdjpnfpmpchnaaDoorProg
set_option maxRecDepth 100000
namespace Go.Proofs.Sim.Se
open Go Go.Proofs Go.Proofs.Sim
noncomputable def TT0 : TT := [(0, ⟨(.tuple []), 1, 0, [.any], [.raw (Go.Value.tuple #[])], false, false⟩),
  (1, ⟨.other, 1, 8, [.any], [.raw (Go.Value.nilFunc)], false, false⟩),
  (2, ⟨(.int Go.IntKind.i64), 1, 8, [.int Go.IntKind.i64], [.int Go.IntKind.i64 0], false, false⟩),
  (3, ⟨(.int Go.IntKind.i64), 1, 8, [.int Go.IntKind.i64], [.int Go.IntKind.i64 0], false, false⟩),
  (4, ⟨.bool, 1, 1, [.bool], [.bool false], false, false⟩),
  (5, ⟨(.int Go.IntKind.u8), 1, 1, [.int Go.IntKind.u8], [.int Go.IntKind.u8 0], false, false⟩),
  (6, ⟨(.int Go.IntKind.u8), 1, 1, [.int Go.IntKind.u8], [.int Go.IntKind.u8 0], false, false⟩),
  (7, ⟨(.struct [(0, 1), (1, 1), (2, 1), (3, 1)]), 4, 24, [.int Go.IntKind.i64, .int Go.IntKind.i64, .bool, .int Go.IntKind.u8], [.int Go.IntKind.i64 0, .int Go.IntKind.i64 0, .bool false, .int Go.IntKind.u8 0], true, true⟩),
  (8, ⟨(.struct [(0, 1), (1, 1), (2, 1), (3, 1)]), 4, 24, [.int Go.IntKind.i64, .int Go.IntKind.i64, .bool, .int Go.IntKind.u8], [.int Go.IntKind.i64 0, .int Go.IntKind.i64 0, .bool false, .int Go.IntKind.u8 0], true, true⟩),
  (9, ⟨.str, 1, 16, [.str], [.str []], false, false⟩),
  (10, ⟨.str, 1, 16, [.str], [.str []], false, false⟩),
  (11, ⟨.str, 1, 16, [.str], [.str []], false, false⟩),
  (12, ⟨(.int Go.IntKind.u64), 1, 8, [.int Go.IntKind.u64], [.int Go.IntKind.u64 0], false, false⟩),
  (13, ⟨(.struct [(0, 1), (1, 1)]), 2, 24, [.str, .int Go.IntKind.u64], [.str [], .int Go.IntKind.u64 0], true, false⟩),
  (14, ⟨(.struct [(0, 1), (1, 1)]), 2, 24, [.str, .int Go.IntKind.u64], [.str [], .int Go.IntKind.u64 0], true, false⟩),
  (15, ⟨(.pointer 139), 1, 8, [.any], [.raw (Go.Value.pointer none)], false, false⟩),
  (16, ⟨(.pointer 142), 1, 8, [.any], [.raw (Go.Value.pointer none)], false, false⟩),
  (17, ⟨(.pointer 149), 1, 8, [.any], [.raw (Go.Value.pointer none)], false, false⟩),
  (18, ⟨(.struct [(0, 1)]), 1, 8, [.any], [.raw (Go.Value.pointer none)], true, false⟩),
  (19, ⟨(.struct [(0, 1)]), 1, 8, [.any], [.raw (Go.Value.pointer none)], true, false⟩),
  (20, ⟨.iface, 1, 16, [.ifc], [.ifc true], false, false⟩),
  (21, ⟨(.int Go.IntKind.i32), 1, 4, [.int Go.IntKind.i32], [.int Go.IntKind.i32 0], false, false⟩),
  (22, ⟨(.slice 53 4 32 [.int Go.IntKind.i64, .int Go.IntKind.i64, .int Go.IntKind.i64, .int Go.IntKind.i64]), 1, 24, [.sl 4 53], [.sl .nil 4 []], false, false⟩),
  (23, ⟨.other, 1, 8, [.any], [.raw (Go.Value.nilFunc)], false, false⟩),
  (24, ⟨(.int Go.IntKind.i64), 1, 8, [.int Go.IntKind.i64], [.int Go.IntKind.i64 0], false, false⟩),
  (25, ⟨(.tuple [9, 24]), 1, 0, [.any], [.raw (Go.Value.tuple #[Go.Value.string { data := #[] }, Go.Value.int Go.IntKind.i64 (0 : Int)])], false, false⟩),
  (26, ⟨.other, 1, 8, [.any], [.raw (Go.Value.nilFunc)], false, false⟩),
  (27, ⟨(.tuple [9, 3]), 1, 0, [.any], [.raw (Go.Value.tuple #[Go.Value.string { data := #[] }, Go.Value.int Go.IntKind.i64 (0 : Int)])], false, false⟩),
  (28, ⟨.other, 1, 8, [.any], [.raw (Go.Value.nilFunc)], false, false⟩),
  (29, ⟨.other, 1, 8, [.any], [.raw (Go.Value.nilFunc)], false, false⟩),
  (30, ⟨.other, 1, 8, [.any], [.raw (Go.Value.nilFunc)], false, false⟩),
  (31, ⟨.other, 1, 8, [.any], [.raw (Go.Value.nilFunc)], false, false⟩),
  (32, ⟨(.tuple [22, 3, 24]), 1, 0, [.any], [.raw (Go.Value.tuple
  #[Go.Value.slice none (0 : Nat) (0 : Nat), Go.Value.int Go.IntKind.i64 (0 : Int),
    Go.Value.int Go.IntKind.i64 (0 : Int)])], false, false⟩),
  (33, ⟨.other, 1, 8, [.any], [.raw (Go.Value.nilFunc)], false, false⟩),
  (34, ⟨(.tuple [22, 3, 3]), 1, 0, [.any], [.raw (Go.Value.tuple
  #[Go.Value.slice none (0 : Nat) (0 : Nat), Go.Value.int Go.IntKind.i64 (0 : Int),
    Go.Value.int Go.IntKind.i64 (0 : Int)])], false, false⟩),
  (35, ⟨.other, 1, 8, [.any], [.raw (Go.Value.nilFunc)], false, false⟩),
  (36, ⟨.other, 1, 8, [.any], [.raw (Go.Value.nilFunc)], false, false⟩),
  (37, ⟨.other, 1, 8, [.any], [.raw (Go.Value.nilFunc)], false, false⟩),
  (38, ⟨.other, 1, 8, [.any], [.raw (Go.Value.nilFunc)], false, false⟩),
  (39, ⟨.other, 1, 8, [.any], [.raw (Go.Value.nilFunc)], false, false⟩),
  (40, ⟨.other, 1, 8, [.any], [.raw (Go.Value.nilFunc)], false, false⟩),
  (41, ⟨.other, 1, 8, [.any], [.raw (Go.Value.nilFunc)], false, false⟩),
  (42, ⟨.other, 1, 8, [.any], [.raw (Go.Value.nilFunc)], false, false⟩),
  (43, ⟨(.tuple [3, 24]), 1, 0, [.any], [.raw (Go.Value.tuple #[Go.Value.int Go.IntKind.i64 (0 : Int), Go.Value.int Go.IntKind.i64 (0 : Int)])], false, false⟩),
  (44, ⟨.other, 1, 8, [.any], [.raw (Go.Value.nilFunc)], false, false⟩),
  (45, ⟨(.tuple [3, 3]), 1, 0, [.any], [.raw (Go.Value.tuple #[Go.Value.int Go.IntKind.i64 (0 : Int), Go.Value.int Go.IntKind.i64 (0 : Int)])], false, false⟩),
  (46, ⟨.other, 1, 8, [.any], [.raw (Go.Value.nilFunc)], false, false⟩),
  (47, ⟨.other, 1, 8, [.any], [.raw (Go.Value.nilFunc)], false, false⟩),
  (48, ⟨.other, 1, 8, [.any], [.raw (Go.Value.nilFunc)], false, false⟩),
  (49, ⟨.other, 1, 8, [.any], [.raw (Go.Value.nilFunc)], false, false⟩),
  (50, ⟨(.struct [(0, 1), (1, 1), (2, 1)]), 3, 24, [.int Go.IntKind.i64, .int Go.IntKind.i64, .int Go.IntKind.i64], [.int Go.IntKind.i64 0, .int Go.IntKind.i64 0, .int Go.IntKind.i64 0], true, true⟩),
  (51, ⟨(.struct [(0, 1), (1, 1), (2, 1)]), 3, 24, [.int Go.IntKind.i64, .int Go.IntKind.i64, .int Go.IntKind.i64], [.int Go.IntKind.i64 0, .int Go.IntKind.i64 0, .int Go.IntKind.i64 0], true, true⟩),
  (52, ⟨(.struct [(0, 1), (1, 3)]), 4, 32, [.int Go.IntKind.i64, .int Go.IntKind.i64, .int Go.IntKind.i64, .int Go.IntKind.i64], [.int Go.IntKind.i64 0, .int Go.IntKind.i64 0, .int Go.IntKind.i64 0, .int Go.IntKind.i64 0], true, true⟩),
  (53, ⟨(.struct [(0, 1), (1, 3)]), 4, 32, [.int Go.IntKind.i64, .int Go.IntKind.i64, .int Go.IntKind.i64, .int Go.IntKind.i64], [.int Go.IntKind.i64 0, .int Go.IntKind.i64 0, .int Go.IntKind.i64 0, .int Go.IntKind.i64 0], true, true⟩),
  (54, ⟨.other, 1, 8, [.any], [.raw (Go.Value.nilFunc)], false, false⟩),
  (55, ⟨(.pointer 58), 1, 8, [.any], [.raw (Go.Value.pointer none)], false, false⟩),
  (56, ⟨(.slice 5 1 1 [.int Go.IntKind.u8]), 1, 24, [.sl 1 5], [.sl .nil 1 []], false, false⟩),
  (57, ⟨(.struct [(0, 1), (1, 1)]), 2, 32, [.any, .sl 1 5], [.raw (Go.Value.pointer none), .sl .nil 1 []], true, false⟩),
  (58, ⟨(.struct [(0, 1), (1, 1)]), 2, 32, [.any, .sl 1 5], [.raw (Go.Value.pointer none), .sl .nil 1 []], true, false⟩),
  (59, ⟨.iface, 1, 16, [.ifc], [.ifc true], false, false⟩),
  (60, ⟨.iface, 1, 16, [.ifc], [.ifc true], false, false⟩),
  (61, ⟨(.tuple [3, 60]), 1, 0, [.any], [.raw (Go.Value.tuple #[Go.Value.int Go.IntKind.i64 (0 : Int), Go.Value.nilIface])], false, false⟩),
  (62, ⟨.other, 1, 8, [.any], [.raw (Go.Value.nilFunc)], false, false⟩),
  (63, ⟨.other, 1, 8, [.any], [.raw (Go.Value.nilFunc)], false, false⟩),
  (64, ⟨.other, 1, 8, [.any], [.raw (Go.Value.nilFunc)], false, false⟩),
  (65, ⟨.other, 1, 8, [.any], [.raw (Go.Value.nilFunc)], false, false⟩),
  (66, ⟨.other, 1, 8, [.any], [.raw (Go.Value.nilFunc)], false, false⟩),
  (67, ⟨.other, 1, 8, [.any], [.raw (Go.Value.nilFunc)], false, false⟩),
  (68, ⟨.other, 1, 8, [.any], [.raw (Go.Value.nilFunc)], false, false⟩),
  (69, ⟨.other, 1, 8, [.any], [.raw (Go.Value.nilFunc)], false, false⟩),
  (70, ⟨(.pointer 72), 1, 8, [.any], [.raw (Go.Value.pointer none)], false, false⟩),
  (71, ⟨(.struct [(0, 1), (1, 1)]), 2, 24, [.str, .int Go.IntKind.i64], [.str [], .int Go.IntKind.i64 0], true, true⟩),
  (72, ⟨(.struct [(0, 1), (1, 1)]), 2, 24, [.str, .int Go.IntKind.i64], [.str [], .int Go.IntKind.i64 0], true, true⟩),
  (73, ⟨(.tuple [22, 24]), 1, 0, [.any], [.raw (Go.Value.tuple #[Go.Value.slice none (0 : Nat) (0 : Nat), Go.Value.int Go.IntKind.i64 (0 : Int)])], false, false⟩),
  (74, ⟨.other, 1, 8, [.any], [.raw (Go.Value.nilFunc)], false, false⟩),
  (75, ⟨.other, 1, 8, [.any], [.raw (Go.Value.nilFunc)], false, false⟩),
  (76, ⟨(.tuple [3, 3, 3]), 1, 0, [.any], [.raw (Go.Value.tuple
  #[Go.Value.int Go.IntKind.i64 (0 : Int), Go.Value.int Go.IntKind.i64 (0 : Int), Go.Value.int Go.IntKind.i64 (0 : Int)])], false, false⟩),
  (77, ⟨.other, 1, 8, [.any], [.raw (Go.Value.nilFunc)], false, false⟩),
  (78, ⟨(.tuple [51, 3]), 1, 0, [.any], [.raw (Go.Value.tuple
  #[Go.Value.agg
      #[Go.Value.int Go.IntKind.i64 (0 : Int), Go.Value.int Go.IntKind.i64 (0 : Int),
        Go.Value.int Go.IntKind.i64 (0 : Int)],
    Go.Value.int Go.IntKind.i64 (0 : Int)])], false, false⟩),
  (79, ⟨.other, 1, 8, [.any], [.raw (Go.Value.nilFunc)], false, false⟩),
  (80, ⟨.other, 1, 8, [.any], [.raw (Go.Value.nilFunc)], false, false⟩),
  (81, ⟨(.tuple [4, 9]), 1, 0, [.any], [.raw (Go.Value.tuple #[Go.Value.bool false, Go.Value.string { data := #[] }])], false, false⟩),
  (82, ⟨.other, 1, 8, [.any], [.raw (Go.Value.nilFunc)], false, false⟩),
  (83, ⟨.other, 1, 8, [.any], [.raw (Go.Value.nilFunc)], false, false⟩),
  (84, ⟨.other, 1, 8, [.any], [.raw (Go.Value.nilFunc)], false, false⟩),
  (85, ⟨.other, 1, 8, [.any], [.raw (Go.Value.nilFunc)], false, false⟩),
  (86, ⟨(.pointer 5), 1, 8, [.any], [.raw (Go.Value.pointer none)], false, false⟩),
  (87, ⟨.other, 1, 8, [.any], [.raw (Go.Value.nilFunc)], false, false⟩),
  (88, ⟨.other, 1, 8, [.any], [.raw (Go.Value.nilFunc)], false, false⟩),
  (89, ⟨(.tuple [51, 24]), 1, 0, [.any], [.raw (Go.Value.tuple
  #[Go.Value.agg
      #[Go.Value.int Go.IntKind.i64 (0 : Int), Go.Value.int Go.IntKind.i64 (0 : Int),
        Go.Value.int Go.IntKind.i64 (0 : Int)],
    Go.Value.int Go.IntKind.i64 (0 : Int)])], false, false⟩),
  (90, ⟨.other, 1, 8, [.any], [.raw (Go.Value.nilFunc)], false, false⟩),
  (91, ⟨(.int Go.IntKind.u64), 1, 8, [.int Go.IntKind.u64], [.int Go.IntKind.u64 0], false, false⟩),
  (92, ⟨(.tuple [91, 91]), 1, 0, [.any], [.raw (Go.Value.tuple #[Go.Value.int Go.IntKind.u64 (0 : Int), Go.Value.int Go.IntKind.u64 (0 : Int)])], false, false⟩),
  (93, ⟨.other, 1, 8, [.any], [.raw (Go.Value.nilFunc)], false, false⟩),
  (94, ⟨.other, 1, 8, [.any], [.raw (Go.Value.nilFunc)], false, false⟩),
  (95, ⟨.other, 1, 8, [.any], [.raw (Go.Value.nilFunc)], false, false⟩),
  (96, ⟨.other, 1, 8, [.any], [.raw (Go.Value.pointer none)], false, false⟩),
  (97, ⟨.other, 1, 8, [.any], [.raw (Go.Value.nilFunc)], false, false⟩),
  (98, ⟨(.int Go.IntKind.u32), 1, 4, [.int Go.IntKind.u32], [.int Go.IntKind.u32 0], false, false⟩),
  (99, ⟨(.tuple [98, 98]), 1, 0, [.any], [.raw (Go.Value.tuple #[Go.Value.int Go.IntKind.u32 (0 : Int), Go.Value.int Go.IntKind.u32 (0 : Int)])], false, false⟩),
  (100, ⟨.other, 1, 8, [.any], [.raw (Go.Value.nilFunc)], false, false⟩),
  (101, ⟨(.int Go.IntKind.u64), 1, 8, [.int Go.IntKind.u64], [.int Go.IntKind.u64 0], false, false⟩),
  (102, ⟨(.tuple [101, 101]), 1, 0, [.any], [.raw (Go.Value.tuple #[Go.Value.int Go.IntKind.u64 (0 : Int), Go.Value.int Go.IntKind.u64 (0 : Int)])], false, false⟩),
  (103, ⟨.other, 1, 8, [.any], [.raw (Go.Value.nilFunc)], false, false⟩),
  (104, ⟨.other, 1, 8, [.any], [.raw (Go.Value.nilFunc)], false, false⟩),
  (105, ⟨.other, 1, 8, [.any], [.raw (Go.Value.nilFunc)], false, false⟩),
  (106, ⟨(.int Go.IntKind.i64), 1, 8, [.int Go.IntKind.i64], [.int Go.IntKind.i64 0], false, false⟩),
  (107, ⟨(.tuple [2, 60]), 1, 0, [.any], [.raw (Go.Value.tuple #[Go.Value.int Go.IntKind.i64 (0 : Int), Go.Value.nilIface])], false, false⟩),
  (108, ⟨.other, 1, 8, [.any], [.raw (Go.Value.nilFunc)], false, false⟩),
  (109, ⟨(.pointer 122), 1, 8, [.any], [.raw (Go.Value.pointer none)], false, false⟩),
  (110, ⟨.other, 1, 8, [.any], [.raw (Go.Value.nilFunc)], false, false⟩),
  (111, ⟨.other, 1, 8, [.any], [.raw (Go.Value.nilFunc)], false, false⟩),
  (112, ⟨.other, 1, 8, [.any], [.raw (Go.Value.nilFunc)], false, false⟩),
  (113, ⟨(.array 24 5 1), 24, 24, [.int Go.IntKind.u8, .int Go.IntKind.u8, .int Go.IntKind.u8, .int Go.IntKind.u8, .int Go.IntKind.u8, .int Go.IntKind.u8, .int Go.IntKind.u8, .int Go.IntKind.u8, .int Go.IntKind.u8, .int Go.IntKind.u8, .int Go.IntKind.u8, .int Go.IntKind.u8, .int Go.IntKind.u8, .int Go.IntKind.u8, .int Go.IntKind.u8, .int Go.IntKind.u8, .int Go.IntKind.u8, .int Go.IntKind.u8, .int Go.IntKind.u8, .int Go.IntKind.u8, .int Go.IntKind.u8, .int Go.IntKind.u8, .int Go.IntKind.u8, .int Go.IntKind.u8], [.int Go.IntKind.u8 0, .int Go.IntKind.u8 0, .int Go.IntKind.u8 0, .int Go.IntKind.u8 0, .int Go.IntKind.u8 0, .int Go.IntKind.u8 0, .int Go.IntKind.u8 0, .int Go.IntKind.u8 0, .int Go.IntKind.u8 0, .int Go.IntKind.u8 0, .int Go.IntKind.u8 0, .int Go.IntKind.u8 0, .int Go.IntKind.u8 0, .int Go.IntKind.u8 0, .int Go.IntKind.u8 0, .int Go.IntKind.u8 0, .int Go.IntKind.u8 0, .int Go.IntKind.u8 0, .int Go.IntKind.u8 0, .int Go.IntKind.u8 0, .int Go.IntKind.u8 0, .int Go.IntKind.u8 0, .int Go.IntKind.u8 0, .int Go.IntKind.u8 0], true, false⟩),
  (114, ⟨.other, 1, 8, [.any], [.raw (Go.Value.nilFunc)], false, false⟩),
  (115, ⟨.other, 1, 8, [.any], [.raw (Go.Value.nilFunc)], false, false⟩),
  (116, ⟨(.tuple [56, 9]), 1, 0, [.any], [.raw (Go.Value.tuple #[Go.Value.slice none (0 : Nat) (0 : Nat), Go.Value.string { data := #[] }])], false, false⟩),
  (117, ⟨.other, 1, 8, [.any], [.raw (Go.Value.nilFunc)], false, false⟩),
  (118, ⟨(.tuple [101, 60]), 1, 0, [.any], [.raw (Go.Value.tuple #[Go.Value.int Go.IntKind.u64 (0 : Int), Go.Value.nilIface])], false, false⟩),
  (119, ⟨.other, 1, 8, [.any], [.raw (Go.Value.nilFunc)], false, false⟩),
  (120, ⟨.other, 1, 8, [.any], [.raw (Go.Value.nilFunc)], false, false⟩),
  (121, ⟨(.struct [(0, 1), (1, 1), (2, 1)]), 3, 48, [.str, .str, .ifc], [.str [], .str [], .ifc true], true, false⟩),
  (122, ⟨(.struct [(0, 1), (1, 1), (2, 1)]), 3, 48, [.str, .str, .ifc], [.str [], .str [], .ifc true], true, false⟩),
  (123, ⟨.other, 1, 8, [.any], [.raw (Go.Value.nilFunc)], false, false⟩),
  (124, ⟨.other, 1, 8, [.any], [.raw (Go.Value.nilFunc)], false, false⟩),
  (125, ⟨.other, 1, 8, [.any], [.raw (Go.Value.nilFunc)], false, false⟩),
  (126, ⟨(.array 20 101 1), 20, 160, [.int Go.IntKind.u64, .int Go.IntKind.u64, .int Go.IntKind.u64, .int Go.IntKind.u64, .int Go.IntKind.u64, .int Go.IntKind.u64, .int Go.IntKind.u64, .int Go.IntKind.u64, .int Go.IntKind.u64, .int Go.IntKind.u64, .int Go.IntKind.u64, .int Go.IntKind.u64, .int Go.IntKind.u64, .int Go.IntKind.u64, .int Go.IntKind.u64, .int Go.IntKind.u64, .int Go.IntKind.u64, .int Go.IntKind.u64, .int Go.IntKind.u64, .int Go.IntKind.u64], [.int Go.IntKind.u64 0, .int Go.IntKind.u64 0, .int Go.IntKind.u64 0, .int Go.IntKind.u64 0, .int Go.IntKind.u64 0, .int Go.IntKind.u64 0, .int Go.IntKind.u64 0, .int Go.IntKind.u64 0, .int Go.IntKind.u64 0, .int Go.IntKind.u64 0, .int Go.IntKind.u64 0, .int Go.IntKind.u64 0, .int Go.IntKind.u64 0, .int Go.IntKind.u64 0, .int Go.IntKind.u64 0, .int Go.IntKind.u64 0, .int Go.IntKind.u64 0, .int Go.IntKind.u64 0, .int Go.IntKind.u64 0, .int Go.IntKind.u64 0], true, false⟩),
  (127, ⟨(.array 65 5 1), 65, 65, [.int Go.IntKind.u8, .int Go.IntKind.u8, .int Go.IntKind.u8, .int Go.IntKind.u8, .int Go.IntKind.u8, .int Go.IntKind.u8, .int Go.IntKind.u8, .int Go.IntKind.u8, .int Go.IntKind.u8, .int Go.IntKind.u8, .int Go.IntKind.u8, .int Go.IntKind.u8, .int Go.IntKind.u8, .int Go.IntKind.u8, .int Go.IntKind.u8, .int Go.IntKind.u8, .int Go.IntKind.u8, .int Go.IntKind.u8, .int Go.IntKind.u8, .int Go.IntKind.u8, .int Go.IntKind.u8, .int Go.IntKind.u8, .int Go.IntKind.u8, .int Go.IntKind.u8, .int Go.IntKind.u8, .int Go.IntKind.u8, .int Go.IntKind.u8, .int Go.IntKind.u8, .int Go.IntKind.u8, .int Go.IntKind.u8, .int Go.IntKind.u8, .int Go.IntKind.u8, .int Go.IntKind.u8, .int Go.IntKind.u8, .int Go.IntKind.u8, .int Go.IntKind.u8, .int Go.IntKind.u8, .int Go.IntKind.u8, .int Go.IntKind.u8, .int Go.IntKind.u8, .int Go.IntKind.u8, .int Go.IntKind.u8, .int Go.IntKind.u8, .int Go.IntKind.u8, .int Go.IntKind.u8, .int Go.IntKind.u8, .int Go.IntKind.u8, .int Go.IntKind.u8, .int Go.IntKind.u8, .int Go.IntKind.u8, .int Go.IntKind.u8, .int Go.IntKind.u8, .int Go.IntKind.u8, .int Go.IntKind.u8, .int Go.IntKind.u8, .int Go.IntKind.u8, .int Go.IntKind.u8, .int Go.IntKind.u8, .int Go.IntKind.u8, .int Go.IntKind.u8, .int Go.IntKind.u8, .int Go.IntKind.u8, .int Go.IntKind.u8, .int Go.IntKind.u8, .int Go.IntKind.u8], [.int Go.IntKind.u8 0, .int Go.IntKind.u8 0, .int Go.IntKind.u8 0, .int Go.IntKind.u8 0, .int Go.IntKind.u8 0, .int Go.IntKind.u8 0, .int Go.IntKind.u8 0, .int Go.IntKind.u8 0, .int Go.IntKind.u8 0, .int Go.IntKind.u8 0, .int Go.IntKind.u8 0, .int Go.IntKind.u8 0, .int Go.IntKind.u8 0, .int Go.IntKind.u8 0, .int Go.IntKind.u8 0, .int Go.IntKind.u8 0, .int Go.IntKind.u8 0, .int Go.IntKind.u8 0, .int Go.IntKind.u8 0, .int Go.IntKind.u8 0, .int Go.IntKind.u8 0, .int Go.IntKind.u8 0, .int Go.IntKind.u8 0, .int Go.IntKind.u8 0, .int Go.IntKind.u8 0, .int Go.IntKind.u8 0, .int Go.IntKind.u8 0, .int Go.IntKind.u8 0, .int Go.IntKind.u8 0, .int Go.IntKind.u8 0, .int Go.IntKind.u8 0, .int Go.IntKind.u8 0, .int Go.IntKind.u8 0, .int Go.IntKind.u8 0, .int Go.IntKind.u8 0, .int Go.IntKind.u8 0, .int Go.IntKind.u8 0, .int Go.IntKind.u8 0, .int Go.IntKind.u8 0, .int Go.IntKind.u8 0, .int Go.IntKind.u8 0, .int Go.IntKind.u8 0, .int Go.IntKind.u8 0, .int Go.IntKind.u8 0, .int Go.IntKind.u8 0, .int Go.IntKind.u8 0, .int Go.IntKind.u8 0, .int Go.IntKind.u8 0, .int Go.IntKind.u8 0, .int Go.IntKind.u8 0, .int Go.IntKind.u8 0, .int Go.IntKind.u8 0, .int Go.IntKind.u8 0, .int Go.IntKind.u8 0, .int Go.IntKind.u8 0, .int Go.IntKind.u8 0, .int Go.IntKind.u8 0, .int Go.IntKind.u8 0, .int Go.IntKind.u8 0, .int Go.IntKind.u8 0, .int Go.IntKind.u8 0, .int Go.IntKind.u8 0, .int Go.IntKind.u8 0, .int Go.IntKind.u8 0, .int Go.IntKind.u8 0], true, false⟩),
  (128, ⟨.other, 1, 8, [.any], [.raw (Go.Value.nilFunc)], false, false⟩),
  (129, ⟨.other, 1, 8, [.any], [.raw (Go.Value.nilFunc)], false, false⟩),
  (130, ⟨.other, 1, 8, [.any], [.raw (Go.Value.nilFunc)], false, false⟩),
  (131, ⟨(.pointer 133), 1, 8, [.any], [.raw (Go.Value.pointer none)], false, false⟩),
  (132, ⟨(.struct [(0, 1)]), 1, 16, [.str], [.str []], true, true⟩),
  (133, ⟨(.struct [(0, 1)]), 1, 16, [.str], [.str []], true, true⟩),
  (134, ⟨.other, 1, 8, [.any], [.raw (Go.Value.nilFunc)], false, false⟩),
  (135, ⟨.other, 1, 8, [.any], [.raw (Go.Value.nilFunc)], false, false⟩),
  (136, ⟨(.array 32 5 1), 32, 32, [.int Go.IntKind.u8, .int Go.IntKind.u8, .int Go.IntKind.u8, .int Go.IntKind.u8, .int Go.IntKind.u8, .int Go.IntKind.u8, .int Go.IntKind.u8, .int Go.IntKind.u8, .int Go.IntKind.u8, .int Go.IntKind.u8, .int Go.IntKind.u8, .int Go.IntKind.u8, .int Go.IntKind.u8, .int Go.IntKind.u8, .int Go.IntKind.u8, .int Go.IntKind.u8, .int Go.IntKind.u8, .int Go.IntKind.u8, .int Go.IntKind.u8, .int Go.IntKind.u8, .int Go.IntKind.u8, .int Go.IntKind.u8, .int Go.IntKind.u8, .int Go.IntKind.u8, .int Go.IntKind.u8, .int Go.IntKind.u8, .int Go.IntKind.u8, .int Go.IntKind.u8, .int Go.IntKind.u8, .int Go.IntKind.u8, .int Go.IntKind.u8, .int Go.IntKind.u8], [.int Go.IntKind.u8 0, .int Go.IntKind.u8 0, .int Go.IntKind.u8 0, .int Go.IntKind.u8 0, .int Go.IntKind.u8 0, .int Go.IntKind.u8 0, .int Go.IntKind.u8 0, .int Go.IntKind.u8 0, .int Go.IntKind.u8 0, .int Go.IntKind.u8 0, .int Go.IntKind.u8 0, .int Go.IntKind.u8 0, .int Go.IntKind.u8 0, .int Go.IntKind.u8 0, .int Go.IntKind.u8 0, .int Go.IntKind.u8 0, .int Go.IntKind.u8 0, .int Go.IntKind.u8 0, .int Go.IntKind.u8 0, .int Go.IntKind.u8 0, .int Go.IntKind.u8 0, .int Go.IntKind.u8 0, .int Go.IntKind.u8 0, .int Go.IntKind.u8 0, .int Go.IntKind.u8 0, .int Go.IntKind.u8 0, .int Go.IntKind.u8 0, .int Go.IntKind.u8 0, .int Go.IntKind.u8 0, .int Go.IntKind.u8 0, .int Go.IntKind.u8 0, .int Go.IntKind.u8 0], true, false⟩),
  (137, ⟨(.array 64 5 1), 64, 64, [.int Go.IntKind.u8, .int Go.IntKind.u8, .int Go.IntKind.u8, .int Go.IntKind.u8, .int Go.IntKind.u8, .int Go.IntKind.u8, .int Go.IntKind.u8, .int Go.IntKind.u8, .int Go.IntKind.u8, .int Go.IntKind.u8, .int Go.IntKind.u8, .int Go.IntKind.u8, .int Go.IntKind.u8, .int Go.IntKind.u8, .int Go.IntKind.u8, .int Go.IntKind.u8, .int Go.IntKind.u8, .int Go.IntKind.u8, .int Go.IntKind.u8, .int Go.IntKind.u8, .int Go.IntKind.u8, .int Go.IntKind.u8, .int Go.IntKind.u8, .int Go.IntKind.u8, .int Go.IntKind.u8, .int Go.IntKind.u8, .int Go.IntKind.u8, .int Go.IntKind.u8, .int Go.IntKind.u8, .int Go.IntKind.u8, .int Go.IntKind.u8, .int Go.IntKind.u8, .int Go.IntKind.u8, .int Go.IntKind.u8, .int Go.IntKind.u8, .int Go.IntKind.u8, .int Go.IntKind.u8, .int Go.IntKind.u8, .int Go.IntKind.u8, .int Go.IntKind.u8, .int Go.IntKind.u8, .int Go.IntKind.u8, .int Go.IntKind.u8, .int Go.IntKind.u8, .int Go.IntKind.u8, .int Go.IntKind.u8, .int Go.IntKind.u8, .int Go.IntKind.u8, .int Go.IntKind.u8, .int Go.IntKind.u8, .int Go.IntKind.u8, .int Go.IntKind.u8, .int Go.IntKind.u8, .int Go.IntKind.u8, .int Go.IntKind.u8, .int Go.IntKind.u8, .int Go.IntKind.u8, .int Go.IntKind.u8, .int Go.IntKind.u8, .int Go.IntKind.u8, .int Go.IntKind.u8, .int Go.IntKind.u8, .int Go.IntKind.u8, .int Go.IntKind.u8], [.int Go.IntKind.u8 0, .int Go.IntKind.u8 0, .int Go.IntKind.u8 0, .int Go.IntKind.u8 0, .int Go.IntKind.u8 0, .int Go.IntKind.u8 0, .int Go.IntKind.u8 0, .int Go.IntKind.u8 0, .int Go.IntKind.u8 0, .int Go.IntKind.u8 0, .int Go.IntKind.u8 0, .int Go.IntKind.u8 0, .int Go.IntKind.u8 0, .int Go.IntKind.u8 0, .int Go.IntKind.u8 0, .int Go.IntKind.u8 0, .int Go.IntKind.u8 0, .int Go.IntKind.u8 0, .int Go.IntKind.u8 0, .int Go.IntKind.u8 0, .int Go.IntKind.u8 0, .int Go.IntKind.u8 0, .int Go.IntKind.u8 0, .int Go.IntKind.u8 0, .int Go.IntKind.u8 0, .int Go.IntKind.u8 0, .int Go.IntKind.u8 0, .int Go.IntKind.u8 0, .int Go.IntKind.u8 0, .int Go.IntKind.u8 0, .int Go.IntKind.u8 0, .int Go.IntKind.u8 0, .int Go.IntKind.u8 0, .int Go.IntKind.u8 0, .int Go.IntKind.u8 0, .int Go.IntKind.u8 0, .int Go.IntKind.u8 0, .int Go.IntKind.u8 0, .int Go.IntKind.u8 0, .int Go.IntKind.u8 0, .int Go.IntKind.u8 0, .int Go.IntKind.u8 0, .int Go.IntKind.u8 0, .int Go.IntKind.u8 0, .int Go.IntKind.u8 0, .int Go.IntKind.u8 0, .int Go.IntKind.u8 0, .int Go.IntKind.u8 0, .int Go.IntKind.u8 0, .int Go.IntKind.u8 0, .int Go.IntKind.u8 0, .int Go.IntKind.u8 0, .int Go.IntKind.u8 0, .int Go.IntKind.u8 0, .int Go.IntKind.u8 0, .int Go.IntKind.u8 0, .int Go.IntKind.u8 0, .int Go.IntKind.u8 0, .int Go.IntKind.u8 0, .int Go.IntKind.u8 0, .int Go.IntKind.u8 0, .int Go.IntKind.u8 0, .int Go.IntKind.u8 0, .int Go.IntKind.u8 0], true, false⟩),
  (138, ⟨(.struct [(0, 1), (1, 1), (2, 1), (3, 1)]), 4, 40, [.any, .any, .any, .str], [.raw (Go.Value.pointer none), .raw (Go.Value.pointer none), .raw (Go.Value.pointer none), .str []], true, false⟩),
  (139, ⟨(.struct [(0, 1), (1, 1), (2, 1), (3, 1)]), 4, 40, [.any, .any, .any, .str], [.raw (Go.Value.pointer none), .raw (Go.Value.pointer none), .raw (Go.Value.pointer none), .str []], true, false⟩),
  (140, ⟨(.array 0 16 1), 0, 0, [], [], true, false⟩),
  (141, ⟨(.struct [(0, 0)]), 0, 0, [], [], true, false⟩),
  (142, ⟨(.struct [(0, 0)]), 0, 0, [], [], true, false⟩),
  (143, ⟨(.int Go.IntKind.u8), 1, 1, [.int Go.IntKind.u8], [.int Go.IntKind.u8 0], false, false⟩),
  (144, ⟨(.int Go.IntKind.u8), 1, 1, [.int Go.IntKind.u8], [.int Go.IntKind.u8 0], false, false⟩),
  (145, ⟨.other, 1, 8, [.any], [.raw (Go.Value.nilFunc)], false, false⟩),
  (146, ⟨(.int Go.IntKind.i32), 1, 4, [.int Go.IntKind.i32], [.int Go.IntKind.i32 0], false, false⟩),
  (147, ⟨(.int Go.IntKind.i32), 1, 4, [.int Go.IntKind.i32], [.int Go.IntKind.i32 0], false, false⟩),
  (148, ⟨(.struct [(0, 1), (1, 1), (2, 1), (3, 1), (4, 1), (5, 1), (6, 1), (7, 1), (8, 1), (9, 1), (10, 1)]), 11, 48, [.int Go.IntKind.u64, .int Go.IntKind.u64, .int Go.IntKind.u32, .int Go.IntKind.u8, .int Go.IntKind.u8, .int Go.IntKind.u8, .int Go.IntKind.u8, .any, .any, .int Go.IntKind.i32, .int Go.IntKind.i32], [.int Go.IntKind.u64 0, .int Go.IntKind.u64 0, .int Go.IntKind.u32 0, .int Go.IntKind.u8 0, .int Go.IntKind.u8 0, .int Go.IntKind.u8 0, .int Go.IntKind.u8 0, .raw (Go.Value.nilFunc), .raw (Go.Value.pointer none), .int Go.IntKind.i32 0, .int Go.IntKind.i32 0], true, false⟩),
  (149, ⟨(.struct [(0, 1), (1, 1), (2, 1), (3, 1), (4, 1), (5, 1), (6, 1), (7, 1), (8, 1), (9, 1), (10, 1)]), 11, 48, [.int Go.IntKind.u64, .int Go.IntKind.u64, .int Go.IntKind.u32, .int Go.IntKind.u8, .int Go.IntKind.u8, .int Go.IntKind.u8, .int Go.IntKind.u8, .any, .any, .int Go.IntKind.i32, .int Go.IntKind.i32], [.int Go.IntKind.u64 0, .int Go.IntKind.u64 0, .int Go.IntKind.u32 0, .int Go.IntKind.u8 0, .int Go.IntKind.u8 0, .int Go.IntKind.u8 0, .int Go.IntKind.u8 0, .raw (Go.Value.nilFunc), .raw (Go.Value.pointer none), .int Go.IntKind.i32 0, .int Go.IntKind.i32 0], true, false⟩)]
abbrev fn_main_main : Nat := 0
abbrev fn_gosem_cut : Nat := 1
abbrev fn_gosem_cut_init : Nat := 2
abbrev fn_l22_SectionPrints : Nat := 3
abbrev fn_l22_SectionReads : Nat := 4
abbrev fn_l22_SectionBack : Nat := 5
abbrev fn_l02_DigitsPuts : Nat := 6
abbrev fn_l02_DigitsReads : Nat := 7
abbrev fn_l02_DigitsFixes : Nat := 8
abbrev fn_l02_DigitsBack : Nat := 9
abbrev fn_l22_sections : Nat := 10
abbrev fn_section_Print : Nat := 11
abbrev fn_r22_Print : Nat := 12
abbrev fn_section_Check : Nat := 13
abbrev fn_r22_Check : Nat := 14
abbrev fn_section_Read : Nat := 15
abbrev fn_r22_Read : Nat := 16
abbrev fn_r21_SameRows : Nat := 17
abbrev fn_digits_Pad : Nat := 18
abbrev fn_r02_Pad : Nat := 19
abbrev fn_digits_Put : Nat := 20
abbrev fn_r02_Put : Nat := 21
abbrev fn_l02_numbers : Nat := 22
abbrev fn_digits_Read : Nat := 23
abbrev fn_r02_Read : Nat := 24
abbrev fn_digits_Loose : Nat := 25
abbrev fn_r02_Loose : Nat := 26
abbrev fn_digits_Count : Nat := 27
abbrev fn_r02_Count : Nat := 28
abbrev fn_digits_Fixed : Nat := 29
abbrev fn_r02_Fixed : Nat := 30
abbrev fn_section_head : Nat := 31
abbrev fn_strings_Builder_WriteString : Nat := 32
abbrev fn_section_parts : Nat := 33
abbrev fn_section_line : Nat := 34
abbrev fn_strings_Builder_String : Nat := 35
abbrev fn_r22_Part : Nat := 36
abbrev fn_r22_line : Nat := 37
abbrev fn_section_out : Nat := 38
abbrev fn_section_begins : Nat := 39
abbrev fn_section_reader_part : Nat := 40
abbrev fn_section_reader_left : Nat := 41
abbrev fn_r01_Stands : Nat := 42
abbrev fn_r22_number : Nat := 43
abbrev fn_r22_entry : Nat := 44
abbrev fn_strings_Repeat : Nat := 45
abbrev fn_strconv_Itoa : Nat := 46
abbrev fn_digits_signed : Nat := 47
abbrev fn_strconv_Atoi : Nat := 48
abbrev fn_digits_held : Nat := 49
abbrev fn_r02_whole : Nat := 50
abbrev fn_digits_digit : Nat := 51
abbrev fn_digits_taker : Nat := 52
abbrev fn_strings_Builder_copyCheck : Nat := 53
abbrev fn_section_parts_1 : Nat := 54
abbrev fn_strings_HasPrefix : Nat := 55
abbrev fn_section_reader_number : Nat := 56
abbrev fn_section_reader_entry : Nat := 57
abbrev fn_math_bits_Mul : Nat := 58
abbrev fn_strings_Builder_Grow : Nat := 59
abbrev fn_strings_Builder_Len : Nat := 60
abbrev fn_internal_strconv_Itoa : Nat := 61
abbrev fn_strings_Contains : Nat := 62
abbrev fn_internal_strconv_Atoi : Nat := 63
abbrev fn_strconv_toError : Nat := 64
abbrev fn_digits_taker_1 : Nat := 65
abbrev fn_internal_abi_NoEscape : Nat := 66
abbrev fn_internal_stringslite_HasPrefix : Nat := 67
abbrev fn_section_ended : Nat := 68
abbrev fn_math_bits_Mul32 : Nat := 69
abbrev fn_math_bits_Mul64 : Nat := 70
abbrev fn_strings_Builder_grow : Nat := 71
abbrev fn_internal_strconv_FormatInt : Nat := 72
abbrev fn_strings_Index : Nat := 73
abbrev fn_internal_strconv_ParseInt : Nat := 74
abbrev fn_strconv_syntaxError : Nat := 75
abbrev fn_strconv_rangeError : Nat := 76
abbrev fn_strconv_baseError : Nat := 77
abbrev fn_strconv_bitSizeError : Nat := 78
abbrev fn_internal_bytealg_MakeNoZero : Nat := 79
abbrev fn_internal_strconv_small : Nat := 80
abbrev fn_internal_strconv_numDigits : Nat := 81
abbrev fn_internal_strconv_formatBase10 : Nat := 82
abbrev fn_internal_strconv_formatBits : Nat := 83
abbrev fn_internal_stringslite_Index : Nat := 84
abbrev fn_internal_strconv_ParseUint : Nat := 85
abbrev fn_internal_stringslite_Clone : Nat := 86
abbrev fn_errors_New : Nat := 87
abbrev fn_internal_strconv_log10Pow2 : Nat := 88
abbrev fn_math_bits_Len64 : Nat := 89
abbrev fn_internal_strconv_bool2 : Nat := 90
abbrev fn_internal_strconv_isPowerOfTwo : Nat := 91
abbrev fn_math_bits_TrailingZeros : Nat := 92
abbrev fn_internal_stringslite_IndexByte : Nat := 93
abbrev fn_internal_bytealg_IndexString : Nat := 94
abbrev fn_internal_bytealg_Cutover : Nat := 95
abbrev fn_internal_bytealg_IndexRabinKarp : Nat := 96
abbrev fn_internal_strconv_lower : Nat := 97
abbrev fn_internal_strconv_underscoreOK : Nat := 98
abbrev fn_math_bits_TrailingZeros32 : Nat := 99
abbrev fn_math_bits_TrailingZeros64 : Nat := 100
abbrev fn_internal_bytealg_IndexByteString : Nat := 101
abbrev fn_internal_bytealg_hashStr : Nat := 102
abbrev fn_runtime_boundsError_Error : Nat := 103
abbrev fn_runtime_boundsError_RuntimeError : Nat := 104
abbrev fn_runtime_errorString_Error : Nat := 105
abbrev fn_runtime_errorString_RuntimeError : Nat := 106
abbrev fn_runtime_plainError_Error : Nat := 107
abbrev fn_runtime_plainError_RuntimeError : Nat := 108
abbrev fn_runtime_errorAddressString_Error : Nat := 109
abbrev fn_runtime_errorAddressString_RuntimeError : Nat := 110
abbrev fn_runtime_TypeAssertionError_Error : Nat := 111
abbrev fn_runtime_TypeAssertionError_RuntimeError : Nat := 112
abbrev fn_runtime_PanicNilError_Error : Nat := 113
abbrev fn_runtime_PanicNilError_RuntimeError : Nat := 114
abbrev fn_internal_abi_Type_Align : Nat := 115
abbrev fn_internal_runtime_maps_unhashableTypeError_Error : Nat := 116
abbrev fn_internal_runtime_maps_unhashableTypeError_RuntimeError : Nat := 117
abbrev fn_strings_Builder_Reset : Nat := 118
abbrev fn_internal_strconv_Error_Error : Nat := 119
abbrev fn_strconv_NumError_Error : Nat := 120
abbrev fn_errors_errorString_Error : Nat := 121
abbrev fn_internal_abi_Kind_String : Nat := 122
abbrev fn_gosem_cut_vars : Nat := 130
abbrev ty_int64 : Nat := 2
abbrev ty_int : Nat := 3
abbrev ty_bool : Nat := 4
abbrev ty_uint8 : Nat := 5
abbrev ty_abi_BoundsErrorCode : Nat := 6
abbrev ty_struct : Nat := 7
abbrev ty_runtime_boundsError : Nat := 8
abbrev ty_string : Nat := 9
abbrev ty_runtime_errorString : Nat := 10
abbrev ty_runtime_plainError : Nat := 11
abbrev ty_uintptr : Nat := 12
abbrev ty_runtime_errorAddressString : Nat := 14
abbrev ty_maps_unhashableTypeError : Nat := 19
abbrev ty_interface : Nat := 20
abbrev ty_int32 : Nat := 21
abbrev ty_api_Errno : Nat := 24
abbrev ty_api_Entry : Nat := 51
abbrev ty_api_Row : Nat := 53
abbrev ty_strings_Builder : Nat := 58
abbrev ty_error : Nat := 60
abbrev ty_section_reader : Nat := 72
abbrev ty_uint : Nat := 91
abbrev ty_unsafe_Pointer : Nat := 96
abbrev ty_uint32 : Nat := 98
abbrev ty_uint64 : Nat := 101
abbrev ty_strconv_Error : Nat := 106
abbrev ty_strconv_NumError : Nat := 122
abbrev ty_errors_errorString : Nat := 133
abbrev ty_runtime_TypeAssertionError : Nat := 139
abbrev ty_runtime_PanicNilError : Nat := 142
abbrev ty_abi_TFlag : Nat := 143
abbrev ty_abi_Kind : Nat := 144
abbrev ty_abi_NameOff : Nat := 146
abbrev ty_abi_TypeOff : Nat := 147
abbrev ty_abi_Type : Nat := 149
noncomputable def ai_section_parts : AC := (annot [] [0] (codeOf Tryd.f33) 0).1
noncomputable def ai_section_parts_1 : AC := (annot [] [3] (codeOf Tryd.f54) 0).1
noncomputable def ai_digits_taker : AC := (annot [] [2] (codeOf Tryd.f52) 0).1
noncomputable def ai_digits_taker_1 : AC := (annot [] [2] (codeOf Tryd.f65) 0).1
noncomputable def ai_strings_Builder_WriteString : AC := (annot [] [4, 5] (codeOf Tryd.f32) 0).1
noncomputable def ai_strings_Builder_String : AC := (annot [] [2] (codeOf Tryd.f35) 0).1
noncomputable def ai_strings_Builder_Len : AC := (annot [] [2] (codeOf Tryd.f60) 0).1
noncomputable def ai_section_reader_left : AC := (annot [] [2] (codeOf Tryd.f41) 0).1
noncomputable def inl0 : List (Nat × AC × Nat × List ResultVar) := [(33, ai_section_parts, 3, [.tmp 0]), (54, ai_section_parts_1, 11, [.tmp 3]), (52, ai_digits_taker, 5, [.tmp 2]), (65, ai_digits_taker_1, 23, [.tmp 2]), (32, ai_strings_Builder_WriteString, 19, [.tmp 4, .tmp 5]), (35, ai_strings_Builder_String, 14, [.tmp 2]), (60, ai_strings_Builder_Len, 8, [.tmp 2]), (41, ai_section_reader_left, 12, [.tmp 2])]
def self0 : List (Nat × Nat) := [(53, 58)]
noncomputable def E0 : Env := ⟨Tryd.prog, TT0, 0, glkI inl0, glkS self0⟩
end Go.Proofs.Sim.Se
