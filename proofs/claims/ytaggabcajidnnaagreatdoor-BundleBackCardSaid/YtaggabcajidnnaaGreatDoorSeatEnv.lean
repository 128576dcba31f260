import Derived.Test.YtaggabcajidnnaaGreatDoorSimC
import Derived.Test.YtaggabcajidnnaaGreatDoorProg
set_option maxRecDepth 100000
namespace Go.Proofs.Sim.Se
open Go Go.Proofs Go.Proofs.Sim
noncomputable def TT0:TT:=[(0,⟨(.tuple []),1,0,[.any],[.raw (Go.Value.tuple #[])],false,false,[]⟩),
 (1,⟨.other,1,8,[.any],[.raw (Go.Value.nilFunc)],false,false,[]⟩),
 (2,⟨(.int .i64),1,8,[.int .i64],[.int .i64 0],false,false,[]⟩),
 (3,⟨(.int .i64),1,8,[.int .i64],[.int .i64 0],false,false,[]⟩),
 (4,⟨.bool,1,1,[.bool],[.bool false],false,false,[]⟩),
 (5,⟨(.int .u8),1,1,[.int .u8],[.int .u8 0],false,false,[]⟩),
 (6,⟨(.int .u8),1,1,[.int .u8],[.int .u8 0],false,false,[]⟩),
 (7,⟨(.struct [(0,1),(1,1),(2,1),(3,1)]),4,24,[.int .i64, .int .i64, .bool, .int .u8],[.int .i64 0, .int .i64 0, .bool false, .int .u8 0],true,true,[2,3,4,6]⟩),
 (8,⟨(.struct [(0,1),(1,1),(2,1),(3,1)]),4,24,[.int .i64, .int .i64, .bool, .int .u8],[.int .i64 0, .int .i64 0, .bool false, .int .u8 0],true,true,[2,3,4,6]⟩),
 (9,⟨.str,1,16,[.str],[.str []],false,false,[]⟩),
 (10,⟨.str,1,16,[.str],[.str []],false,false,[]⟩),
 (11,⟨.str,1,16,[.str],[.str []],false,false,[]⟩),
 (12,⟨(.int .u64),1,8,[.int .u64],[.int .u64 0],false,false,[]⟩),
 (13,⟨(.struct [(0,1),(1,1)]),2,24,[.str, .int .u64],[.str [], .int .u64 0],true,false,[9,12]⟩),
 (14,⟨(.struct [(0,1),(1,1)]),2,24,[.str, .int .u64],[.str [], .int .u64 0],true,false,[9,12]⟩),
 (15,⟨(.pointer 200),1,8,[.any],[.raw (Go.Value.pointer none)],false,false,[]⟩),
 (16,⟨(.pointer 203),1,8,[.any],[.raw (Go.Value.pointer none)],false,false,[]⟩),
 (17,⟨(.pointer 210),1,8,[.any],[.raw (Go.Value.pointer none)],false,false,[]⟩),
 (18,⟨(.struct [(0,1)]),1,8,[.any],[.raw (Go.Value.pointer none)],true,false,[17]⟩),
 (19,⟨(.struct [(0,1)]),1,8,[.any],[.raw (Go.Value.pointer none)],true,false,[17]⟩),
 (20,⟨.iface,1,16,[.ifc],[.ifc true],false,false,[]⟩),
 (21,⟨(.int .i32),1,4,[.int .i32],[.int .i32 0],false,false,[]⟩),
 (22,⟨(.slice 44 8 104 [.int .i64, .int .i64, .int .i64, .int .i64, .int .i64, .str, .sl 6 28, .sl 7 53]),1,24,[.sl 8 44],[.sl .nil 8 []],false,false,[]⟩),
 (23,⟨.other,1,8,[.any],[.raw (Go.Value.nilFunc)],false,false,[]⟩),
 (24,⟨.other,1,8,[.any],[.raw (Go.Value.nilFunc)],false,false,[]⟩),
 (25,⟨(.slice 28 6 88 [.int .i64, .int .i64, .int .i64, .str, .sl 6 28, .sl 7 53]),1,24,[.sl 6 28],[.sl .nil 6 []],false,false,[]⟩),
 (26,⟨(.slice 53 7 104 [.str, .int .i64, .int .i64, .int .i64, .str, .sl 6 28, .sl 7 53]),1,24,[.sl 7 53],[.sl .nil 7 []],false,false,[]⟩),
 (27,⟨(.struct [(0,1),(1,1),(2,1),(3,1),(4,1),(5,1)]),6,88,[.int .i64, .int .i64, .int .i64, .str, .sl 6 28, .sl 7 53],[.int .i64 0, .int .i64 0, .int .i64 0, .str [], .sl .nil 6 [], .sl .nil 7 []],true,false,[3,3,3,9,25,26]⟩),
 (28,⟨(.struct [(0,1),(1,1),(2,1),(3,1),(4,1),(5,1)]),6,88,[.int .i64, .int .i64, .int .i64, .str, .sl 6 28, .sl 7 53],[.int .i64 0, .int .i64 0, .int .i64 0, .str [], .sl .nil 6 [], .sl .nil 7 []],true,false,[3,3,3,9,25,26]⟩),
 (29,⟨(.int .i64),1,8,[.int .i64],[.int .i64 0],false,false,[]⟩),
 (30,⟨(.tuple [28,29]),1,0,[.any],[.raw (Go.Value.tuple
 #[Go.Value.agg
     #[Go.Value.int .i64 (0:Int),Go.Value.int .i64 (0:Int),
       Go.Value.int .i64 (0:Int),Go.Value.string { data:= #[] },Go.Value.slice none (0:Nat) (0:Nat),
       Go.Value.slice none (0:Nat) (0:Nat)],
   Go.Value.int .i64 (0:Int)])],false,false,[]⟩),
 (31,⟨.other,1,8,[.any],[.raw (Go.Value.nilFunc)],false,false,[]⟩),
 (32,⟨(.tuple [28,3]),1,0,[.any],[.raw (Go.Value.tuple
 #[Go.Value.agg
     #[Go.Value.int .i64 (0:Int),Go.Value.int .i64 (0:Int),
       Go.Value.int .i64 (0:Int),Go.Value.string { data:= #[] },Go.Value.slice none (0:Nat) (0:Nat),
       Go.Value.slice none (0:Nat) (0:Nat)],
   Go.Value.int .i64 (0:Int)])],false,false,[]⟩),
 (33,⟨.other,1,8,[.any],[.raw (Go.Value.nilFunc)],false,false,[]⟩),
 (34,⟨.other,1,8,[.any],[.raw (Go.Value.nilFunc)],false,false,[]⟩),
 (35,⟨.other,1,8,[.any],[.raw (Go.Value.nilFunc)],false,false,[]⟩),
 (36,⟨(.tuple [22,29]),1,0,[.any],[.raw (Go.Value.tuple #[Go.Value.slice none (0:Nat) (0:Nat),Go.Value.int .i64 (0:Int)])],false,false,[]⟩),
 (37,⟨.other,1,8,[.any],[.raw (Go.Value.nilFunc)],false,false,[]⟩),
 (38,⟨(.tuple [22,3]),1,0,[.any],[.raw (Go.Value.tuple #[Go.Value.slice none (0:Nat) (0:Nat),Go.Value.int .i64 (0:Int)])],false,false,[]⟩),
 (39,⟨.other,1,8,[.any],[.raw (Go.Value.nilFunc)],false,false,[]⟩),
 (40,⟨.other,1,8,[.any],[.raw (Go.Value.nilFunc)],false,false,[]⟩),
 (41,⟨.other,1,8,[.any],[.raw (Go.Value.nilFunc)],false,false,[]⟩),
 (42,⟨.other,1,8,[.any],[.raw (Go.Value.nilFunc)],false,false,[]⟩),
 (43,⟨(.struct [(0,1),(1,1),(2,6)]),8,104,[.int .i64, .int .i64, .int .i64, .int .i64, .int .i64, .str, .sl 6 28, .sl 7 53],[.int .i64 0, .int .i64 0, .int .i64 0, .int .i64 0, .int .i64 0, .str [], .sl .nil 6 [], .sl .nil 7 []],true,false,[3,3,28]⟩),
 (44,⟨(.struct [(0,1),(1,1),(2,6)]),8,104,[.int .i64, .int .i64, .int .i64, .int .i64, .int .i64, .str, .sl 6 28, .sl 7 53],[.int .i64 0, .int .i64 0, .int .i64 0, .int .i64 0, .int .i64 0, .str [], .sl .nil 6 [], .sl .nil 7 []],true,false,[3,3,28]⟩),
 (45,⟨.other,1,8,[.any],[.raw (Go.Value.nilFunc)],false,false,[]⟩),
 (46,⟨(.tuple [28,4]),1,0,[.any],[.raw (Go.Value.tuple
 #[Go.Value.agg
     #[Go.Value.int .i64 (0:Int),Go.Value.int .i64 (0:Int),
       Go.Value.int .i64 (0:Int),Go.Value.string { data:= #[] },Go.Value.slice none (0:Nat) (0:Nat),
       Go.Value.slice none (0:Nat) (0:Nat)],
   Go.Value.bool false])],false,false,[]⟩),
 (47,⟨.other,1,8,[.any],[.raw (Go.Value.nilFunc)],false,false,[]⟩),
 (48,⟨(.slice 3 1 8 [.int .i64]),1,24,[.sl 1 3],[.sl .nil 1 []],false,false,[]⟩),
 (49,⟨(.tuple [9,29]),1,0,[.any],[.raw (Go.Value.tuple #[Go.Value.string { data:= #[] },Go.Value.int .i64 (0:Int)])],false,false,[]⟩),
 (50,⟨.other,1,8,[.any],[.raw (Go.Value.nilFunc)],false,false,[]⟩),
 (51,⟨.other,1,8,[.any],[.raw (Go.Value.nilFunc)],false,false,[]⟩),
 (52,⟨(.struct [(0,1),(1,6)]),7,104,[.str, .int .i64, .int .i64, .int .i64, .str, .sl 6 28, .sl 7 53],[.str [], .int .i64 0, .int .i64 0, .int .i64 0, .str [], .sl .nil 6 [], .sl .nil 7 []],true,false,[9,28]⟩),
 (53,⟨(.struct [(0,1),(1,6)]),7,104,[.str, .int .i64, .int .i64, .int .i64, .str, .sl 6 28, .sl 7 53],[.str [], .int .i64 0, .int .i64 0, .int .i64 0, .str [], .sl .nil 6 [], .sl .nil 7 []],true,false,[9,28]⟩),
 (54,⟨.other,1,8,[.any],[.raw (Go.Value.nilFunc)],false,false,[]⟩),
 (55,⟨(.tuple [9,3]),1,0,[.any],[.raw (Go.Value.tuple #[Go.Value.string { data:= #[] },Go.Value.int .i64 (0:Int)])],false,false,[]⟩),
 (56,⟨.other,1,8,[.any],[.raw (Go.Value.nilFunc)],false,false,[]⟩),
 (57,⟨.other,1,8,[.any],[.raw (Go.Value.nilFunc)],false,false,[]⟩),
 (58,⟨.other,1,8,[.any],[.raw (Go.Value.nilFunc)],false,false,[]⟩),
 (59,⟨(.tuple [3,4]),1,0,[.any],[.raw (Go.Value.tuple #[Go.Value.int .i64 (0:Int),Go.Value.bool false])],false,false,[]⟩),
 (60,⟨.other,1,8,[.any],[.raw (Go.Value.nilFunc)],false,false,[]⟩),
 (61,⟨(.tuple [48,29]),1,0,[.any],[.raw (Go.Value.tuple #[Go.Value.slice none (0:Nat) (0:Nat),Go.Value.int .i64 (0:Int)])],false,false,[]⟩),
 (62,⟨.other,1,8,[.any],[.raw (Go.Value.nilFunc)],false,false,[]⟩),
 (63,⟨.other,1,8,[.any],[.raw (Go.Value.nilFunc)],false,false,[]⟩),
 (64,⟨(.tuple [48,3]),1,0,[.any],[.raw (Go.Value.tuple #[Go.Value.slice none (0:Nat) (0:Nat),Go.Value.int .i64 (0:Int)])],false,false,[]⟩),
 (65,⟨.other,1,8,[.any],[.raw (Go.Value.nilFunc)],false,false,[]⟩),
 (66,⟨.other,1,8,[.any],[.raw (Go.Value.nilFunc)],false,false,[]⟩),
 (67,⟨.other,1,8,[.any],[.raw (Go.Value.nilFunc)],false,false,[]⟩),
 (68,⟨(.struct [(0,1),(1,1),(2,1),(3,1),(4,1)]),5,5,[.bool, .bool, .bool, .bool, .bool],[.bool false, .bool false, .bool false, .bool false, .bool false],true,true,[4,4,4,4,4]⟩),
 (69,⟨(.struct [(0,1),(1,1),(2,1),(3,1),(4,1)]),5,5,[.bool, .bool, .bool, .bool, .bool],[.bool false, .bool false, .bool false, .bool false, .bool false],true,true,[4,4,4,4,4]⟩),
 (70,⟨(.tuple [69,4]),1,0,[.any],[.raw (Go.Value.tuple
 #[Go.Value.agg
     #[Go.Value.bool false,Go.Value.bool false,Go.Value.bool false,Go.Value.bool false,Go.Value.bool false],
   Go.Value.bool false])],false,false,[]⟩),
 (71,⟨.other,1,8,[.any],[.raw (Go.Value.nilFunc)],false,false,[]⟩),
 (72,⟨.other,1,8,[.any],[.raw (Go.Value.nilFunc)],false,false,[]⟩),
 (73,⟨.other,1,8,[.any],[.raw (Go.Value.nilFunc)],false,false,[]⟩),
 (74,⟨.other,1,8,[.any],[.raw (Go.Value.nilFunc)],false,false,[]⟩),
 (75,⟨.other,1,8,[.any],[.raw (Go.Value.nilFunc)],false,false,[]⟩),
 (76,⟨.other,1,8,[.any],[.raw (Go.Value.nilFunc)],false,false,[]⟩),
 (77,⟨(.struct [(0,1),(1,1),(2,1),(3,1),(4,1)]),5,48,[.int .i64, .int .i64, .str, .int .i64, .int .i64],[.int .i64 0, .int .i64 0, .str [], .int .i64 0, .int .i64 0],true,true,[3,3,9,3,3]⟩),
 (78,⟨(.struct [(0,1),(1,1),(2,1),(3,1),(4,1)]),5,48,[.int .i64, .int .i64, .str, .int .i64, .int .i64],[.int .i64 0, .int .i64 0, .str [], .int .i64 0, .int .i64 0],true,true,[3,3,9,3,3]⟩),
 (79,⟨(.tuple [78,29]),1,0,[.any],[.raw (Go.Value.tuple
 #[Go.Value.agg
     #[Go.Value.int .i64 (0:Int),Go.Value.int .i64 (0:Int),Go.Value.string { data:= #[] },
       Go.Value.int .i64 (0:Int),Go.Value.int .i64 (0:Int)],
   Go.Value.int .i64 (0:Int)])],false,false,[]⟩),
 (80,⟨.other,1,8,[.any],[.raw (Go.Value.nilFunc)],false,false,[]⟩),
 (81,⟨.other,1,8,[.any],[.raw (Go.Value.nilFunc)],false,false,[]⟩),
 (82,⟨(.tuple [78,3]),1,0,[.any],[.raw (Go.Value.tuple
 #[Go.Value.agg
     #[Go.Value.int .i64 (0:Int),Go.Value.int .i64 (0:Int),Go.Value.string { data:= #[] },
       Go.Value.int .i64 (0:Int),Go.Value.int .i64 (0:Int)],
   Go.Value.int .i64 (0:Int)])],false,false,[]⟩),
 (83,⟨.other,1,8,[.any],[.raw (Go.Value.nilFunc)],false,false,[]⟩),
 (84,⟨(.tuple [28,3,3]),1,0,[.any],[.raw (Go.Value.tuple
 #[Go.Value.agg
     #[Go.Value.int .i64 (0:Int),Go.Value.int .i64 (0:Int),
       Go.Value.int .i64 (0:Int),Go.Value.string { data:= #[] },Go.Value.slice none (0:Nat) (0:Nat),
       Go.Value.slice none (0:Nat) (0:Nat)],
   Go.Value.int .i64 (0:Int),Go.Value.int .i64 (0:Int)])],false,false,[]⟩),
 (85,⟨.other,1,8,[.any],[.raw (Go.Value.nilFunc)],false,false,[]⟩),
 (86,⟨.map,1,8,[.any],[.raw (Go.Value.map none)],false,false,[]⟩),
 (87,⟨.other,1,8,[.any],[.raw (Go.Value.nilFunc)],false,false,[]⟩),
 (88,⟨.other,1,8,[.any],[.raw (Go.Value.nilFunc)],false,false,[]⟩),
 (89,⟨.other,1,8,[.any],[.raw (Go.Value.nilFunc)],false,false,[]⟩),
 (90,⟨.other,1,8,[.any],[.raw (Go.Value.nilFunc)],false,false,[]⟩),
 (91,⟨.other,1,8,[.any],[.raw (Go.Value.nilFunc)],false,false,[]⟩),
 (92,⟨.other,1,8,[.any],[.raw (Go.Value.nilFunc)],false,false,[]⟩),
 (93,⟨.other,1,8,[.any],[.raw (Go.Value.nilFunc)],false,false,[]⟩),
 (94,⟨.other,1,8,[.any],[.raw (Go.Value.nilFunc)],false,false,[]⟩),
 (95,⟨.other,1,8,[.any],[.raw (Go.Value.nilFunc)],false,false,[]⟩),
 (96,⟨.other,1,8,[.any],[.raw (Go.Value.nilFunc)],false,false,[]⟩),
 (97,⟨.other,1,8,[.any],[.raw (Go.Value.nilFunc)],false,false,[]⟩),
 (98,⟨(.pointer 101),1,8,[.any],[.raw (Go.Value.pointer none)],false,false,[]⟩),
 (99,⟨(.slice 5 1 1 [.int .u8]),1,24,[.sl 1 5],[.sl .nil 1 []],false,false,[]⟩),
 (100,⟨(.struct [(0,1),(1,1),(2,1)]),3,48,[.str, .int .i64, .sl 1 5],[.str [], .int .i64 0, .sl .nil 1 []],true,false,[9,3,99]⟩),
 (101,⟨(.struct [(0,1),(1,1),(2,1)]),3,48,[.str, .int .i64, .sl 1 5],[.str [], .int .i64 0, .sl .nil 1 []],true,false,[9,3,99]⟩),
 (102,⟨.other,1,8,[.any],[.raw (Go.Value.nilFunc)],false,false,[]⟩),
 (103,⟨.other,1,8,[.any],[.raw (Go.Value.nilFunc)],false,false,[]⟩),
 (104,⟨(.tuple [28,3,29]),1,0,[.any],[.raw (Go.Value.tuple
 #[Go.Value.agg
     #[Go.Value.int .i64 (0:Int),Go.Value.int .i64 (0:Int),
       Go.Value.int .i64 (0:Int),Go.Value.string { data:= #[] },Go.Value.slice none (0:Nat) (0:Nat),
       Go.Value.slice none (0:Nat) (0:Nat)],
   Go.Value.int .i64 (0:Int),Go.Value.int .i64 (0:Int)])],false,false,[]⟩),
 (105,⟨.other,1,8,[.any],[.raw (Go.Value.nilFunc)],false,false,[]⟩),
 (106,⟨.other,1,8,[.any],[.raw (Go.Value.nilFunc)],false,false,[]⟩),
 (107,⟨(.tuple [9,3,3]),1,0,[.any],[.raw (Go.Value.tuple
 #[Go.Value.string { data:= #[] },Go.Value.int .i64 (0:Int),Go.Value.int .i64 (0:Int)])],false,false,[]⟩),
 (108,⟨.other,1,8,[.any],[.raw (Go.Value.nilFunc)],false,false,[]⟩),
 (109,⟨.other,1,8,[.any],[.raw (Go.Value.nilFunc)],false,false,[]⟩),
 (110,⟨.other,1,8,[.any],[.raw (Go.Value.nilFunc)],false,false,[]⟩),
 (111,⟨.other,1,8,[.any],[.raw (Go.Value.nilFunc)],false,false,[]⟩),
 (112,⟨.other,1,8,[.any],[.raw (Go.Value.nilFunc)],false,false,[]⟩),
 (113,⟨.other,1,8,[.any],[.raw (Go.Value.nilFunc)],false,false,[]⟩),
 (114,⟨.other,1,8,[.any],[.raw (Go.Value.nilFunc)],false,false,[]⟩),
 (115,⟨(.int .u64),1,8,[.int .u64],[.int .u64 0],false,false,[]⟩),
 (116,⟨(.slice 9 1 16 [.str]),1,24,[.sl 1 9],[.sl .nil 1 []],false,false,[]⟩),
 (117,⟨.other,1,8,[.any],[.raw (Go.Value.nilFunc)],false,false,[]⟩),
 (118,⟨.other,1,8,[.any],[.raw (Go.Value.nilFunc)],false,false,[]⟩),
 (119,⟨.other,1,8,[.any],[.raw (Go.Value.nilFunc)],false,false,[]⟩),
 (120,⟨.other,1,8,[.any],[.raw (Go.Value.nilFunc)],false,false,[]⟩),
 (121,⟨.other,1,8,[.any],[.raw (Go.Value.nilFunc)],false,false,[]⟩),
 (122,⟨.other,1,8,[.any],[.raw (Go.Value.nilFunc)],false,false,[]⟩),
 (123,⟨(.pointer 127),1,8,[.any],[.raw (Go.Value.pointer none)],false,false,[]⟩),
 (124,⟨(.struct [(0,1),(1,1)]),2,24,[.str, .int .i64],[.str [], .int .i64 0],true,true,[9,3]⟩),
 (125,⟨(.struct [(0,1),(1,1)]),2,24,[.str, .int .i64],[.str [], .int .i64 0],true,true,[9,3]⟩),
 (126,⟨(.struct [(0,2),(2,1)]),3,32,[.str, .int .i64, .int .i64],[.str [], .int .i64 0, .int .i64 0],true,true,[125,3]⟩),
 (127,⟨(.struct [(0,2),(2,1)]),3,32,[.str, .int .i64, .int .i64],[.str [], .int .i64 0, .int .i64 0],true,true,[125,3]⟩),
 (128,⟨.other,1,8,[.any],[.raw (Go.Value.nilFunc)],false,false,[]⟩),
 (129,⟨.other,1,8,[.any],[.raw (Go.Value.nilFunc)],false,false,[]⟩),
 (130,⟨.other,1,8,[.any],[.raw (Go.Value.nilFunc)],false,false,[]⟩),
 (131,⟨.other,1,8,[.any],[.raw (Go.Value.nilFunc)],false,false,[]⟩),
 (132,⟨(.tuple [3,3]),1,0,[.any],[.raw (Go.Value.tuple #[Go.Value.int .i64 (0:Int),Go.Value.int .i64 (0:Int)])],false,false,[]⟩),
 (133,⟨.other,1,8,[.any],[.raw (Go.Value.nilFunc)],false,false,[]⟩),
 (134,⟨.other,1,8,[.any],[.raw (Go.Value.nilFunc)],false,false,[]⟩),
 (135,⟨.other,1,8,[.any],[.raw (Go.Value.nilFunc)],false,false,[]⟩),
 (136,⟨.other,1,8,[.any],[.raw (Go.Value.nilFunc)],false,false,[]⟩),
 (137,⟨.other,1,8,[.any],[.raw (Go.Value.nilFunc)],false,false,[]⟩),
 (138,⟨(.pointer 140),1,8,[.any],[.raw (Go.Value.pointer none)],false,false,[]⟩),
 (139,⟨(.struct [(0,1),(1,1)]),2,32,[.any, .sl 1 5],[.raw (Go.Value.pointer none), .sl .nil 1 []],true,false,[138,99]⟩),
 (140,⟨(.struct [(0,1),(1,1)]),2,32,[.any, .sl 1 5],[.raw (Go.Value.pointer none), .sl .nil 1 []],true,false,[138,99]⟩),
 (141,⟨.iface,1,16,[.ifc],[.ifc true],false,false,[]⟩),
 (142,⟨.iface,1,16,[.ifc],[.ifc true],false,false,[]⟩),
 (143,⟨.other,1,8,[.any],[.raw (Go.Value.nilFunc)],false,false,[]⟩),
 (144,⟨.other,1,8,[.any],[.raw (Go.Value.nilFunc)],false,false,[]⟩),
 (145,⟨.other,1,8,[.any],[.raw (Go.Value.nilFunc)],false,false,[]⟩),
 (146,⟨.other,1,8,[.any],[.raw (Go.Value.nilFunc)],false,false,[]⟩),
 (147,⟨.other,1,8,[.any],[.raw (Go.Value.nilFunc)],false,false,[]⟩),
 (148,⟨(.struct [(0,1),(1,1),(2,1)]),3,40,[.int .i64, .str, .str],[.int .i64 0, .str [], .str []],true,true,[3,9,9]⟩),
 (149,⟨(.struct [(0,1),(1,1),(2,1)]),3,40,[.int .i64, .str, .str],[.int .i64 0, .str [], .str []],true,true,[3,9,9]⟩),
 (150,⟨(.array 3 149 3),9,120,[.int .i64, .str, .str, .int .i64, .str, .str, .int .i64, .str, .str],[.int .i64 0, .str [], .str [], .int .i64 0, .str [], .str [], .int .i64 0, .str [], .str []],true,false,[]⟩),
 (151,⟨.other,1,8,[.any],[.raw (Go.Value.nilFunc)],false,false,[]⟩),
 (152,⟨.other,1,8,[.any],[.raw (Go.Value.nilFunc)],false,false,[]⟩),
 (153,⟨.other,1,8,[.any],[.raw (Go.Value.nilFunc)],false,false,[]⟩),
 (154,⟨(.tuple [5,4]),1,0,[.any],[.raw (Go.Value.tuple #[Go.Value.int .u8 (0:Int),Go.Value.bool false])],false,false,[]⟩),
 (155,⟨.other,1,8,[.any],[.raw (Go.Value.nilFunc)],false,false,[]⟩),
 (156,⟨.other,1,8,[.any],[.raw (Go.Value.nilFunc)],false,false,[]⟩),
 (157,⟨.other,1,8,[.any],[.raw (Go.Value.nilFunc)],false,false,[]⟩),
 (158,⟨(.tuple [3,29]),1,0,[.any],[.raw (Go.Value.tuple #[Go.Value.int .i64 (0:Int),Go.Value.int .i64 (0:Int)])],false,false,[]⟩),
 (159,⟨.other,1,8,[.any],[.raw (Go.Value.nilFunc)],false,false,[]⟩),
 (160,⟨.other,1,8,[.any],[.raw (Go.Value.nilFunc)],false,false,[]⟩),
 (161,⟨.other,1,8,[.any],[.raw (Go.Value.nilFunc)],false,false,[]⟩),
 (162,⟨(.tuple [28,3,4]),1,0,[.any],[.raw (Go.Value.tuple
 #[Go.Value.agg
     #[Go.Value.int .i64 (0:Int),Go.Value.int .i64 (0:Int),
       Go.Value.int .i64 (0:Int),Go.Value.string { data:= #[] },Go.Value.slice none (0:Nat) (0:Nat),
       Go.Value.slice none (0:Nat) (0:Nat)],
   Go.Value.int .i64 (0:Int),Go.Value.bool false])],false,false,[]⟩),
 (163,⟨.other,1,8,[.any],[.raw (Go.Value.nilFunc)],false,false,[]⟩),
 (164,⟨(.pointer 5),1,8,[.any],[.raw (Go.Value.pointer none)],false,false,[]⟩),
 (165,⟨(.tuple [3,142]),1,0,[.any],[.raw (Go.Value.tuple #[Go.Value.int .i64 (0:Int),Go.Value.nilIface])],false,false,[]⟩),
 (166,⟨.other,1,8,[.any],[.raw (Go.Value.nilFunc)],false,false,[]⟩),
 (167,⟨(.array 24 5 1),24,24,[.int .u8, .int .u8, .int .u8, .int .u8, .int .u8, .int .u8, .int .u8, .int .u8, .int .u8, .int .u8, .int .u8, .int .u8, .int .u8, .int .u8, .int .u8, .int .u8, .int .u8, .int .u8, .int .u8, .int .u8, .int .u8, .int .u8, .int .u8, .int .u8],[.int .u8 0, .int .u8 0, .int .u8 0, .int .u8 0, .int .u8 0, .int .u8 0, .int .u8 0, .int .u8 0, .int .u8 0, .int .u8 0, .int .u8 0, .int .u8 0, .int .u8 0, .int .u8 0, .int .u8 0, .int .u8 0, .int .u8 0, .int .u8 0, .int .u8 0, .int .u8 0, .int .u8 0, .int .u8 0, .int .u8 0, .int .u8 0],true,false,[]⟩),
 (168,⟨(.int .u64),1,8,[.int .u64],[.int .u64 0],false,false,[]⟩),
 (169,⟨.other,1,8,[.any],[.raw (Go.Value.nilFunc)],false,false,[]⟩),
 (170,⟨.other,1,8,[.any],[.raw (Go.Value.nilFunc)],false,false,[]⟩),
 (171,⟨(.tuple [99,9]),1,0,[.any],[.raw (Go.Value.tuple #[Go.Value.slice none (0:Nat) (0:Nat),Go.Value.string { data:= #[] }])],false,false,[]⟩),
 (172,⟨.other,1,8,[.any],[.raw (Go.Value.nilFunc)],false,false,[]⟩),
 (173,⟨.other,1,8,[.any],[.raw (Go.Value.nilFunc)],false,false,[]⟩),
 (174,⟨(.tuple [4,9]),1,0,[.any],[.raw (Go.Value.tuple #[Go.Value.bool false,Go.Value.string { data:= #[] }])],false,false,[]⟩),
 (175,⟨.other,1,8,[.any],[.raw (Go.Value.nilFunc)],false,false,[]⟩),
 (176,⟨(.pointer 125),1,8,[.any],[.raw (Go.Value.pointer none)],false,false,[]⟩),
 (177,⟨.other,1,8,[.any],[.raw (Go.Value.nilFunc)],false,false,[]⟩),
 (178,⟨(.tuple [9,4,29]),1,0,[.any],[.raw (Go.Value.tuple #[Go.Value.string { data:= #[] },Go.Value.bool false,Go.Value.int .i64 (0:Int)])],false,false,[]⟩),
 (179,⟨.other,1,8,[.any],[.raw (Go.Value.nilFunc)],false,false,[]⟩),
 (180,⟨.other,1,8,[.any],[.raw (Go.Value.nilFunc)],false,false,[]⟩),
 (181,⟨.other,1,8,[.any],[.raw (Go.Value.pointer none)],false,false,[]⟩),
 (182,⟨.other,1,8,[.any],[.raw (Go.Value.nilFunc)],false,false,[]⟩),
 (183,⟨.other,1,8,[.any],[.raw (Go.Value.nilFunc)],false,false,[]⟩),
 (184,⟨.other,1,8,[.any],[.raw (Go.Value.nilFunc)],false,false,[]⟩),
 (185,⟨(.array 20 168 1),20,160,[.int .u64, .int .u64, .int .u64, .int .u64, .int .u64, .int .u64, .int .u64, .int .u64, .int .u64, .int .u64, .int .u64, .int .u64, .int .u64, .int .u64, .int .u64, .int .u64, .int .u64, .int .u64, .int .u64, .int .u64],[.int .u64 0, .int .u64 0, .int .u64 0, .int .u64 0, .int .u64 0, .int .u64 0, .int .u64 0, .int .u64 0, .int .u64 0, .int .u64 0, .int .u64 0, .int .u64 0, .int .u64 0, .int .u64 0, .int .u64 0, .int .u64 0, .int .u64 0, .int .u64 0, .int .u64 0, .int .u64 0],true,false,[]⟩),
 (186,⟨(.int .u32),1,4,[.int .u32],[.int .u32 0],false,false,[]⟩),
 (187,⟨(.array 65 5 1),65,65,[.int .u8, .int .u8, .int .u8, .int .u8, .int .u8, .int .u8, .int .u8, .int .u8, .int .u8, .int .u8, .int .u8, .int .u8, .int .u8, .int .u8, .int .u8, .int .u8, .int .u8, .int .u8, .int .u8, .int .u8, .int .u8, .int .u8, .int .u8, .int .u8, .int .u8, .int .u8, .int .u8, .int .u8, .int .u8, .int .u8, .int .u8, .int .u8, .int .u8, .int .u8, .int .u8, .int .u8, .int .u8, .int .u8, .int .u8, .int .u8, .int .u8, .int .u8, .int .u8, .int .u8, .int .u8, .int .u8, .int .u8, .int .u8, .int .u8, .int .u8, .int .u8, .int .u8, .int .u8, .int .u8, .int .u8, .int .u8, .int .u8, .int .u8, .int .u8, .int .u8, .int .u8, .int .u8, .int .u8, .int .u8, .int .u8],[.int .u8 0, .int .u8 0, .int .u8 0, .int .u8 0, .int .u8 0, .int .u8 0, .int .u8 0, .int .u8 0, .int .u8 0, .int .u8 0, .int .u8 0, .int .u8 0, .int .u8 0, .int .u8 0, .int .u8 0, .int .u8 0, .int .u8 0, .int .u8 0, .int .u8 0, .int .u8 0, .int .u8 0, .int .u8 0, .int .u8 0, .int .u8 0, .int .u8 0, .int .u8 0, .int .u8 0, .int .u8 0, .int .u8 0, .int .u8 0, .int .u8 0, .int .u8 0, .int .u8 0, .int .u8 0, .int .u8 0, .int .u8 0, .int .u8 0, .int .u8 0, .int .u8 0, .int .u8 0, .int .u8 0, .int .u8 0, .int .u8 0, .int .u8 0, .int .u8 0, .int .u8 0, .int .u8 0, .int .u8 0, .int .u8 0, .int .u8 0, .int .u8 0, .int .u8 0, .int .u8 0, .int .u8 0, .int .u8 0, .int .u8 0, .int .u8 0, .int .u8 0, .int .u8 0, .int .u8 0, .int .u8 0, .int .u8 0, .int .u8 0, .int .u8 0, .int .u8 0],true,false,[]⟩),
 (188,⟨.other,1,8,[.any],[.raw (Go.Value.nilFunc)],false,false,[]⟩),
 (189,⟨.other,1,8,[.any],[.raw (Go.Value.nilFunc)],false,false,[]⟩),
 (190,⟨.other,1,8,[.any],[.raw (Go.Value.nilFunc)],false,false,[]⟩),
 (191,⟨.other,1,8,[.any],[.raw (Go.Value.nilFunc)],false,false,[]⟩),
 (192,⟨.other,1,8,[.any],[.raw (Go.Value.nilFunc)],false,false,[]⟩),
 (193,⟨.other,1,8,[.any],[.raw (Go.Value.nilFunc)],false,false,[]⟩),
 (194,⟨.other,1,8,[.any],[.raw (Go.Value.nilFunc)],false,false,[]⟩),
 (195,⟨(.array 32 5 1),32,32,[.int .u8, .int .u8, .int .u8, .int .u8, .int .u8, .int .u8, .int .u8, .int .u8, .int .u8, .int .u8, .int .u8, .int .u8, .int .u8, .int .u8, .int .u8, .int .u8, .int .u8, .int .u8, .int .u8, .int .u8, .int .u8, .int .u8, .int .u8, .int .u8, .int .u8, .int .u8, .int .u8, .int .u8, .int .u8, .int .u8, .int .u8, .int .u8],[.int .u8 0, .int .u8 0, .int .u8 0, .int .u8 0, .int .u8 0, .int .u8 0, .int .u8 0, .int .u8 0, .int .u8 0, .int .u8 0, .int .u8 0, .int .u8 0, .int .u8 0, .int .u8 0, .int .u8 0, .int .u8 0, .int .u8 0, .int .u8 0, .int .u8 0, .int .u8 0, .int .u8 0, .int .u8 0, .int .u8 0, .int .u8 0, .int .u8 0, .int .u8 0, .int .u8 0, .int .u8 0, .int .u8 0, .int .u8 0, .int .u8 0, .int .u8 0],true,false,[]⟩),
 (196,⟨(.array 64 5 1),64,64,[.int .u8, .int .u8, .int .u8, .int .u8, .int .u8, .int .u8, .int .u8, .int .u8, .int .u8, .int .u8, .int .u8, .int .u8, .int .u8, .int .u8, .int .u8, .int .u8, .int .u8, .int .u8, .int .u8, .int .u8, .int .u8, .int .u8, .int .u8, .int .u8, .int .u8, .int .u8, .int .u8, .int .u8, .int .u8, .int .u8, .int .u8, .int .u8, .int .u8, .int .u8, .int .u8, .int .u8, .int .u8, .int .u8, .int .u8, .int .u8, .int .u8, .int .u8, .int .u8, .int .u8, .int .u8, .int .u8, .int .u8, .int .u8, .int .u8, .int .u8, .int .u8, .int .u8, .int .u8, .int .u8, .int .u8, .int .u8, .int .u8, .int .u8, .int .u8, .int .u8, .int .u8, .int .u8, .int .u8, .int .u8],[.int .u8 0, .int .u8 0, .int .u8 0, .int .u8 0, .int .u8 0, .int .u8 0, .int .u8 0, .int .u8 0, .int .u8 0, .int .u8 0, .int .u8 0, .int .u8 0, .int .u8 0, .int .u8 0, .int .u8 0, .int .u8 0, .int .u8 0, .int .u8 0, .int .u8 0, .int .u8 0, .int .u8 0, .int .u8 0, .int .u8 0, .int .u8 0, .int .u8 0, .int .u8 0, .int .u8 0, .int .u8 0, .int .u8 0, .int .u8 0, .int .u8 0, .int .u8 0, .int .u8 0, .int .u8 0, .int .u8 0, .int .u8 0, .int .u8 0, .int .u8 0, .int .u8 0, .int .u8 0, .int .u8 0, .int .u8 0, .int .u8 0, .int .u8 0, .int .u8 0, .int .u8 0, .int .u8 0, .int .u8 0, .int .u8 0, .int .u8 0, .int .u8 0, .int .u8 0, .int .u8 0, .int .u8 0, .int .u8 0, .int .u8 0, .int .u8 0, .int .u8 0, .int .u8 0, .int .u8 0, .int .u8 0, .int .u8 0, .int .u8 0, .int .u8 0],true,false,[]⟩),
 (197,⟨(.tuple [186,186]),1,0,[.any],[.raw (Go.Value.tuple #[Go.Value.int .u32 (0:Int),Go.Value.int .u32 (0:Int)])],false,false,[]⟩),
 (198,⟨.other,1,8,[.any],[.raw (Go.Value.nilFunc)],false,false,[]⟩),
 (199,⟨(.struct [(0,1),(1,1),(2,1),(3,1)]),4,40,[.any, .any, .any, .str],[.raw (Go.Value.pointer none), .raw (Go.Value.pointer none), .raw (Go.Value.pointer none), .str []],true,false,[17,17,17,9]⟩),
 (200,⟨(.struct [(0,1),(1,1),(2,1),(3,1)]),4,40,[.any, .any, .any, .str],[.raw (Go.Value.pointer none), .raw (Go.Value.pointer none), .raw (Go.Value.pointer none), .str []],true,false,[17,17,17,9]⟩),
 (201,⟨(.array 0 16 1),0,0,[],[],true,false,[]⟩),
 (202,⟨(.struct [(0,0)]),0,0,[],[],true,false,[201]⟩),
 (203,⟨(.struct [(0,0)]),0,0,[],[],true,false,[201]⟩),
 (204,⟨(.int .u8),1,1,[.int .u8],[.int .u8 0],false,false,[]⟩),
 (205,⟨(.int .u8),1,1,[.int .u8],[.int .u8 0],false,false,[]⟩),
 (206,⟨.other,1,8,[.any],[.raw (Go.Value.nilFunc)],false,false,[]⟩),
 (207,⟨(.int .i32),1,4,[.int .i32],[.int .i32 0],false,false,[]⟩),
 (208,⟨(.int .i32),1,4,[.int .i32],[.int .i32 0],false,false,[]⟩),
 (209,⟨(.struct [(0,1),(1,1),(2,1),(3,1),(4,1),(5,1),(6,1),(7,1),(8,1),(9,1),(10,1)]),11,48,[.int .u64, .int .u64, .int .u32, .int .u8, .int .u8, .int .u8, .int .u8, .any, .any, .int .i32, .int .i32],[.int .u64 0, .int .u64 0, .int .u32 0, .int .u8 0, .int .u8 0, .int .u8 0, .int .u8 0, .raw (Go.Value.nilFunc), .raw (Go.Value.pointer none), .int .i32 0, .int .i32 0],true,false,[12,12,186,204,5,5,205,206,164,207,208]⟩),
 (210,⟨(.struct [(0,1),(1,1),(2,1),(3,1),(4,1),(5,1),(6,1),(7,1),(8,1),(9,1),(10,1)]),11,48,[.int .u64, .int .u64, .int .u32, .int .u8, .int .u8, .int .u8, .int .u8, .any, .any, .int .i32, .int .i32],[.int .u64 0, .int .u64 0, .int .u32 0, .int .u8 0, .int .u8 0, .int .u8 0, .int .u8 0, .raw (Go.Value.nilFunc), .raw (Go.Value.pointer none), .int .i32 0, .int .i32 0],true,false,[12,12,186,204,5,5,205,206,164,207,208]⟩)]
abbrev Ahm:Nat:=5
abbrev Apf:Nat:=6
abbrev Rv:Nat:=7
abbrev Ru:Nat:=8
abbrev Hf:Nat:=10
abbrev Apg:Nat:=11
abbrev Ip:Nat:=12
abbrev Ae8:Nat:=14
abbrev R4:Nat:=15
abbrev El:Nat:=16
abbrev R5:Nat:=17
abbrev Aeh:Nat:=18
abbrev Aa8:Nat:=19
abbrev Tu:Nat:=20
abbrev Zt:Nat:=23
abbrev Ac4:Nat:=24
abbrev Rw:Nat:=25
abbrev Tv:Nat:=26
abbrev Q6:Nat:=27
abbrev Ac0:Nat:=28
abbrev R6:Nat:=32
abbrev Ac7:Nat:=33
abbrev U6:Nat:=34
abbrev Ael:Nat:=35
abbrev Ag0:Nat:=36
abbrev Pg:Nat:=37
abbrev Pi:Nat:=41
abbrev Aek:Nat:=42
abbrev Aj9:Nat:=45
abbrev Wt:Nat:=46
abbrev T9:Nat:=47
abbrev Kl:Nat:=48
abbrev Af:Nat:=49
abbrev Mk:Nat:=50
abbrev Mt:Nat:=51
abbrev Bz:Nat:=52
abbrev Gp:Nat:=53
abbrev Dp:Nat:=54
abbrev R7:Nat:=55
abbrev Ale:Nat:=56
abbrev Agz:Nat:=61
abbrev Qq:Nat:=62
abbrev Aej:Nat:=64
abbrev Ub:Nat:=74
abbrev Ac6:Nat:=75
abbrev Ac5:Nat:=76
abbrev K9:Nat:=77
abbrev Ox:Nat:=78
abbrev Ag1:Nat:=79
abbrev Z7:Nat:=80
abbrev Aem:Nat:=81
abbrev Vt:Nat:=82
abbrev Ac8:Nat:=83
abbrev Ur:Nat:=89
abbrev Ph:Nat:=90
abbrev Ry:Nat:=92
abbrev Rz:Nat:=93
abbrev Ua:Nat:=95
abbrev R3:Nat:=96
abbrev I6:Nat:=97
abbrev Ev:Nat:=109
abbrev Dh:Nat:=110
abbrev Z8:Nat:=112
abbrev Ms:Nat:=113
abbrev Nl:Nat:=114
abbrev Aei:Nat:=116
abbrev Alf:Nat:=117
abbrev Vs:Nat:=124
abbrev Hg:Nat:=126
abbrev Kn:Nat:=128
abbrev Dx:Nat:=129
abbrev Ws:Nat:=130
abbrev Ac3:Nat:=131
abbrev F5:Nat:=132
abbrev Qp:Nat:=133
abbrev Agy:Nat:=134
abbrev Tz:Nat:=136
abbrev Tx:Nat:=137
abbrev K8:Nat:=141
abbrev Rx:Nat:=142
abbrev Dy:Nat:=149
abbrev Og:Nat:=150
abbrev Ac2:Nat:=151
abbrev M8:Nat:=153
abbrev U5:Nat:=154
abbrev Eg:Nat:=156
abbrev Ady:Nat:=164
abbrev Ac1:Nat:=165
abbrev Qc:Nat:=171
abbrev Av2:Nat:=172
abbrev Gg:Nat:=3
abbrev Aj:Nat:=5
abbrev A4n:Nat:=7
abbrev Qj:Nat:=9
abbrev Aa:Nat:=28
abbrev Cm:Nat:=44
abbrev Ah:Nat:=53
abbrev Bb:Nat:=69
abbrev Ap:Nat:=78
abbrev Ac:Nat:=101
abbrev A04:Nat:=125
abbrev Ao:Nat:=127
abbrev Bd:Nat:=140
noncomputable def Alc:AC:=(A8 [] [2] (codeOf Tryz.f166) 0).1
noncomputable def Ahl:AC:=(A8 [] [2] (codeOf Tryz.f172) 0).1
noncomputable def P5:AC:=(A8 [] [4,5] (codeOf Tryz.f144) 0).1
noncomputable def Ro:AC:=(A8 [] [4] (codeOf Tryz.f111) 0).1
noncomputable def Vr:AC:=(A8 [] [2] (codeOf Tryz.f115) 0).1
noncomputable def Aqe:AC:=(A8 [] [2,3] (codeOf Tryz.f65) 0).1
noncomputable def As7:AC:=(A8 [] [2,3] (codeOf Tryz.f63) 0).1
noncomputable def Abi:AC:=(A8 [] [4,5] (codeOf Tryz.f127) 0).1
noncomputable def Abg:AC:=(A8 [] [2,3] (codeOf Tryz.f125) 0).1
noncomputable def Abh:AC:=(A8 [] [6,7] (codeOf Tryz.f91) 0).1
noncomputable def Zn:AC:=(A8 [] [2] (codeOf Tryz.f94) 0).1
noncomputable def Zm:AC:=(A8 [] [] (codeOf Tryz.f129) 0).1
noncomputable def Zl:AC:=(A8 [] [4,5] (codeOf Tryz.f135) 0).1
noncomputable def Acp:AC:=(A8 [] [2,3] (codeOf Tryz.f152) 0).1
noncomputable def Bhi:List (Nat × AC × Nat × List ResultVar):=[(166,Alc,5,[.tmp 2]),(172,Ahl,23,[.tmp 2]),(144,P5,19,[.tmp 4, .tmp 5]),(111,Ro,17,[.tmp 4]),(115,Vr,14,[.tmp 2]),(65,Aqe,6,[.cell 2 28, .tmp 3]),(63,As7,6,[.cell 2 78, .tmp 3]),(127,Abi,13,[.cell 4 78, .tmp 5]),(125,Abg,23,[.tmp 2, .tmp 3]),(91,Abh,18,[.cell 6 78, .tmp 7]),(94,Zn,36,[.tmp 2]),(129,Zm,37,[]),(135,Zl,37,[.cell 4 28, .tmp 5]),(152,Acp,15,[.cell 2 78, .tmp 3])]
def wr0:List (Nat × Nat):=[(48,1),(77,1),(109,1),(110,1),(141,1),(156,1),(51,1),(47,2),(149,4)]
def Bcn:List (Nat × Nat):=[(142,140)]
noncomputable def E0:Env:=⟨Tryz.prog,TT0,0,Bbs Bhi,Bbt Bcn,Bnj wr0⟩
end Go.Proofs.Sim.Se
