import Derived.Test.YtaggabcajidnnaaGreatDoorSimC
import Derived.Test.YtaggabcajidnnaaGreatDoorProg
set_option maxRecDepth 100000
namespace Go.Proofs.Sim.Se
open Go Go.Proofs Go.Proofs.Sim
noncomputable def TT0:TT:=[(0,⟨(.tuple []),1,0,[.any],[.raw (Go.Value.tuple #[])],false,false,[]⟩),
 (1,⟨.other,1,8,[.any],[.raw (Go.Value.nilFunc)],false,false,[]⟩),
 (2,⟨(.int .i64),1,8,[.int .i64],[.int .i64 0],false,false,[]⟩),
 (3,⟨(.int .i64),1,8,[.int .i64],[.int .i64 0],false,false,[]⟩),
 (4,⟨.bool,1,1,[.bool],[.bool false],false,false,[]⟩),
 (5,⟨(.int .u8),1,1,[.int .u8],[.int .u8 0],false,false,[]⟩),
 (6,⟨(.int .u8),1,1,[.int .u8],[.int .u8 0],false,false,[]⟩),
 (7,⟨(.struct [(0,1),(1,1),(2,1),(3,1)]),4,24,[.int .i64, .int .i64, .bool, .int .u8],[.int .i64 0, .int .i64 0, .bool false, .int .u8 0],true,true,[2,3,4,6]⟩),
 (8,⟨(.struct [(0,1),(1,1),(2,1),(3,1)]),4,24,[.int .i64, .int .i64, .bool, .int .u8],[.int .i64 0, .int .i64 0, .bool false, .int .u8 0],true,true,[2,3,4,6]⟩),
 (9,⟨.str,1,16,[.str],[.str []],false,false,[]⟩),
 (10,⟨.str,1,16,[.str],[.str []],false,false,[]⟩),
 (11,⟨.str,1,16,[.str],[.str []],false,false,[]⟩),
 (12,⟨(.int .u64),1,8,[.int .u64],[.int .u64 0],false,false,[]⟩),
 (13,⟨(.struct [(0,1),(1,1)]),2,24,[.str, .int .u64],[.str [], .int .u64 0],true,false,[9,12]⟩),
 (14,⟨(.struct [(0,1),(1,1)]),2,24,[.str, .int .u64],[.str [], .int .u64 0],true,false,[9,12]⟩),
 (15,⟨(.pointer 200),1,8,[.any],[.raw (Go.Value.pointer none)],false,false,[]⟩),
 (16,⟨(.pointer 203),1,8,[.any],[.raw (Go.Value.pointer none)],false,false,[]⟩),
 (17,⟨(.pointer 210),1,8,[.any],[.raw (Go.Value.pointer none)],false,false,[]⟩),
 (18,⟨(.struct [(0,1)]),1,8,[.any],[.raw (Go.Value.pointer none)],true,false,[17]⟩),
 (19,⟨(.struct [(0,1)]),1,8,[.any],[.raw (Go.Value.pointer none)],true,false,[17]⟩),
 (20,⟨.iface,1,16,[.ifc],[.ifc true],false,false,[]⟩),
 (21,⟨(.int .i32),1,4,[.int .i32],[.int .i32 0],false,false,[]⟩),
 (22,⟨(.slice 44 8 104 [.int .i64, .int .i64, .int .i64, .int .i64, .int .i64, .str, .sl 6 28, .sl 7 53]),1,24,[.sl 8 44],[.sl .nil 8 []],false,false,[]⟩),
 (23,⟨.other,1,8,[.any],[.raw (Go.Value.nilFunc)],false,false,[]⟩),
 (24,⟨.other,1,8,[.any],[.raw (Go.Value.nilFunc)],false,false,[]⟩),
 (25,⟨(.slice 28 6 88 [.int .i64, .int .i64, .int .i64, .str, .sl 6 28, .sl 7 53]),1,24,[.sl 6 28],[.sl .nil 6 []],false,false,[]⟩),
 (26,⟨(.slice 53 7 104 [.str, .int .i64, .int .i64, .int .i64, .str, .sl 6 28, .sl 7 53]),1,24,[.sl 7 53],[.sl .nil 7 []],false,false,[]⟩),
 (27,⟨(.struct [(0,1),(1,1),(2,1),(3,1),(4,1),(5,1)]),6,88,[.int .i64, .int .i64, .int .i64, .str, .sl 6 28, .sl 7 53],[.int .i64 0, .int .i64 0, .int .i64 0, .str [], .sl .nil 6 [], .sl .nil 7 []],true,false,[3,3,3,9,25,26]⟩),
 (28,⟨(.struct [(0,1),(1,1),(2,1),(3,1),(4,1),(5,1)]),6,88,[.int .i64, .int .i64, .int .i64, .str, .sl 6 28, .sl 7 53],[.int .i64 0, .int .i64 0, .int .i64 0, .str [], .sl .nil 6 [], .sl .nil 7 []],true,false,[3,3,3,9,25,26]⟩),
 (29,⟨(.int .i64),1,8,[.int .i64],[.int .i64 0],false,false,[]⟩),
 (30,⟨(.tuple [28,29]),1,0,[.any],[.raw (Go.Value.tuple
 #[Go.Value.agg
     #[Go.Value.int .i64 (0:Int),Go.Value.int .i64 (0:Int),
       Go.Value.int .i64 (0:Int),Go.Value.string { data:= #[] },Go.Value.slice none (0:Nat) (0:Nat),
       Go.Value.slice none (0:Nat) (0:Nat)],
   Go.Value.int .i64 (0:Int)])],false,false,[]⟩),
 (31,⟨.other,1,8,[.any],[.raw (Go.Value.nilFunc)],false,false,[]⟩),
 (32,⟨(.tuple [28,3]),1,0,[.any],[.raw (Go.Value.tuple
 #[Go.Value.agg
     #[Go.Value.int .i64 (0:Int),Go.Value.int .i64 (0:Int),
       Go.Value.int .i64 (0:Int),Go.Value.string { data:= #[] },Go.Value.slice none (0:Nat) (0:Nat),
       Go.Value.slice none (0:Nat) (0:Nat)],
   Go.Value.int .i64 (0:Int)])],false,false,[]⟩),
 (33,⟨.other,1,8,[.any],[.raw (Go.Value.nilFunc)],false,false,[]⟩),
 (34,⟨.other,1,8,[.any],[.raw (Go.Value.nilFunc)],false,false,[]⟩),
 (35,⟨.other,1,8,[.any],[.raw (Go.Value.nilFunc)],false,false,[]⟩),
 (36,⟨(.tuple [22,29]),1,0,[.any],[.raw (Go.Value.tuple #[Go.Value.slice none (0:Nat) (0:Nat),Go.Value.int .i64 (0:Int)])],false,false,[]⟩),
 (37,⟨.other,1,8,[.any],[.raw (Go.Value.nilFunc)],false,false,[]⟩),
 (38,⟨(.tuple [22,3]),1,0,[.any],[.raw (Go.Value.tuple #[Go.Value.slice none (0:Nat) (0:Nat),Go.Value.int .i64 (0:Int)])],false,false,[]⟩),
 (39,⟨.other,1,8,[.any],[.raw (Go.Value.nilFunc)],false,false,[]⟩),
 (40,⟨.other,1,8,[.any],[.raw (Go.Value.nilFunc)],false,false,[]⟩),
 (41,⟨.other,1,8,[.any],[.raw (Go.Value.nilFunc)],false,false,[]⟩),
 (42,⟨.other,1,8,[.any],[.raw (Go.Value.nilFunc)],false,false,[]⟩),
 (43,⟨(.struct [(0,1),(1,1),(2,6)]),8,104,[.int .i64, .int .i64, .int .i64, .int .i64, .int .i64, .str, .sl 6 28, .sl 7 53],[.int .i64 0, .int .i64 0, .int .i64 0, .int .i64 0, .int .i64 0, .str [], .sl .nil 6 [], .sl .nil 7 []],true,false,[3,3,28]⟩),
 (44,⟨(.struct [(0,1),(1,1),(2,6)]),8,104,[.int .i64, .int .i64, .int .i64, .int .i64, .int .i64, .str, .sl 6 28, .sl 7 53],[.int .i64 0, .int .i64 0, .int .i64 0, .int .i64 0, .int .i64 0, .str [], .sl .nil 6 [], .sl .nil 7 []],true,false,[3,3,28]⟩),
 (45,⟨.other,1,8,[.any],[.raw (Go.Value.nilFunc)],false,false,[]⟩),
 (46,⟨(.tuple [28,4]),1,0,[.any],[.raw (Go.Value.tuple
 #[Go.Value.agg
     #[Go.Value.int .i64 (0:Int),Go.Value.int .i64 (0:Int),
       Go.Value.int .i64 (0:Int),Go.Value.string { data:= #[] },Go.Value.slice none (0:Nat) (0:Nat),
       Go.Value.slice none (0:Nat) (0:Nat)],
   Go.Value.bool false])],false,false,[]⟩),
 (47,⟨.other,1,8,[.any],[.raw (Go.Value.nilFunc)],false,false,[]⟩),
 (48,⟨(.slice 3 1 8 [.int .i64]),1,24,[.sl 1 3],[.sl .nil 1 []],false,false,[]⟩),
 (49,⟨(.tuple [9,29]),1,0,[.any],[.raw (Go.Value.tuple #[Go.Value.string { data:= #[] },Go.Value.int .i64 (0:Int)])],false,false,[]⟩),
 (50,⟨.other,1,8,[.any],[.raw (Go.Value.nilFunc)],false,false,[]⟩),
 (51,⟨.other,1,8,[.any],[.raw (Go.Value.nilFunc)],false,false,[]⟩),
 (52,⟨(.struct [(0,1),(1,6)]),7,104,[.str, .int .i64, .int .i64, .int .i64, .str, .sl 6 28, .sl 7 53],[.str [], .int .i64 0, .int .i64 0, .int .i64 0, .str [], .sl .nil 6 [], .sl .nil 7 []],true,false,[9,28]⟩),
 (53,⟨(.struct [(0,1),(1,6)]),7,104,[.str, .int .i64, .int .i64, .int .i64, .str, .sl 6 28, .sl 7 53],[.str [], .int .i64 0, .int .i64 0, .int .i64 0, .str [], .sl .nil 6 [], .sl .nil 7 []],true,false,[9,28]⟩),
 (54,⟨.other,1,8,[.any],[.raw (Go.Value.nilFunc)],false,false,[]⟩),
 (55,⟨(.tuple [9,3]),1,0,[.any],[.raw (Go.Value.tuple #[Go.Value.string { data:= #[] },Go.Value.int .i64 (0:Int)])],false,false,[]⟩),
 (56,⟨.other,1,8,[.any],[.raw (Go.Value.nilFunc)],false,false,[]⟩),
 (57,⟨.other,1,8,[.any],[.raw (Go.Value.nilFunc)],false,false,[]⟩),
 (58,⟨.other,1,8,[.any],[.raw (Go.Value.nilFunc)],false,false,[]⟩),
 (59,⟨(.tuple [3,4]),1,0,[.any],[.raw (Go.Value.tuple #[Go.Value.int .i64 (0:Int),Go.Value.bool false])],false,false,[]⟩),
 (60,⟨.other,1,8,[.any],[.raw (Go.Value.nilFunc)],false,false,[]⟩),
 (61,⟨(.tuple [48,29]),1,0,[.any],[.raw (Go.Value.tuple #[Go.Value.slice none (0:Nat) (0:Nat),Go.Value.int .i64 (0:Int)])],false,false,[]⟩),
 (62,⟨.other,1,8,[.any],[.raw (Go.Value.nilFunc)],false,false,[]⟩),
 (63,⟨.other,1,8,[.any],[.raw (Go.Value.nilFunc)],false,false,[]⟩),
 (64,⟨(.tuple [48,3]),1,0,[.any],[.raw (Go.Value.tuple #[Go.Value.slice none (0:Nat) (0:Nat),Go.Value.int .i64 (0:Int)])],false,false,[]⟩),
 (65,⟨.other,1,8,[.any],[.raw (Go.Value.nilFunc)],false,false,[]⟩),
 (66,⟨.other,1,8,[.any],[.raw (Go.Value.nilFunc)],false,false,[]⟩),
 (67,⟨.other,1,8,[.any],[.raw (Go.Value.nilFunc)],false,false,[]⟩),
 (68,⟨(.struct [(0,1),(1,1),(2,1),(3,1),(4,1)]),5,5,[.bool, .bool, .bool, .bool, .bool],[.bool false, .bool false, .bool false, .bool false, .bool false],true,true,[4,4,4,4,4]⟩),
 (69,⟨(.struct [(0,1),(1,1),(2,1),(3,1),(4,1)]),5,5,[.bool, .bool, .bool, .bool, .bool],[.bool false, .bool false, .bool false, .bool false, .bool false],true,true,[4,4,4,4,4]⟩),
 (70,⟨(.tuple [69,4]),1,0,[.any],[.raw (Go.Value.tuple
 #[Go.Value.agg
     #[Go.Value.bool false,Go.Value.bool false,Go.Value.bool false,Go.Value.bool false,Go.Value.bool false],
   Go.Value.bool false])],false,false,[]⟩),
 (71,⟨.other,1,8,[.any],[.raw (Go.Value.nilFunc)],false,false,[]⟩),
 (72,⟨.other,1,8,[.any],[.raw (Go.Value.nilFunc)],false,false,[]⟩),
 (73,⟨.other,1,8,[.any],[.raw (Go.Value.nilFunc)],false,false,[]⟩),
 (74,⟨.other,1,8,[.any],[.raw (Go.Value.nilFunc)],false,false,[]⟩),
 (75,⟨.other,1,8,[.any],[.raw (Go.Value.nilFunc)],false,false,[]⟩),
 (76,⟨.other,1,8,[.any],[.raw (Go.Value.nilFunc)],false,false,[]⟩),
 (77,⟨(.struct [(0,1),(1,1),(2,1),(3,1),(4,1)]),5,48,[.int .i64, .int .i64, .str, .int .i64, .int .i64],[.int .i64 0, .int .i64 0, .str [], .int .i64 0, .int .i64 0],true,true,[3,3,9,3,3]⟩),
 (78,⟨(.struct [(0,1),(1,1),(2,1),(3,1),(4,1)]),5,48,[.int .i64, .int .i64, .str, .int .i64, .int .i64],[.int .i64 0, .int .i64 0, .str [], .int .i64 0, .int .i64 0],true,true,[3,3,9,3,3]⟩),
 (79,⟨(.tuple [78,29]),1,0,[.any],[.raw (Go.Value.tuple
 #[Go.Value.agg
     #[Go.Value.int .i64 (0:Int),Go.Value.int .i64 (0:Int),Go.Value.string { data:= #[] },
       Go.Value.int .i64 (0:Int),Go.Value.int .i64 (0:Int)],
   Go.Value.int .i64 (0:Int)])],false,false,[]⟩),
 (80,⟨.other,1,8,[.any],[.raw (Go.Value.nilFunc)],false,false,[]⟩),
 (81,⟨.other,1,8,[.any],[.raw (Go.Value.nilFunc)],false,false,[]⟩),
 (82,⟨(.tuple [78,3]),1,0,[.any],[.raw (Go.Value.tuple
 #[Go.Value.agg
     #[Go.Value.int .i64 (0:Int),Go.Value.int .i64 (0:Int),Go.Value.string { data:= #[] },
       Go.Value.int .i64 (0:Int),Go.Value.int .i64 (0:Int)],
   Go.Value.int .i64 (0:Int)])],false,false,[]⟩),
 (83,⟨.other,1,8,[.any],[.raw (Go.Value.nilFunc)],false,false,[]⟩),
 (84,⟨(.tuple [28,3,3]),1,0,[.any],[.raw (Go.Value.tuple
 #[Go.Value.agg
     #[Go.Value.int .i64 (0:Int),Go.Value.int .i64 (0:Int),
       Go.Value.int .i64 (0:Int),Go.Value.string { data:= #[] },Go.Value.slice none (0:Nat) (0:Nat),
       Go.Value.slice none (0:Nat) (0:Nat)],
   Go.Value.int .i64 (0:Int),Go.Value.int .i64 (0:Int)])],false,false,[]⟩),
 (85,⟨.other,1,8,[.any],[.raw (Go.Value.nilFunc)],false,false,[]⟩),
 (86,⟨.map,1,8,[.any],[.raw (Go.Value.map none)],false,false,[]⟩),
 (87,⟨.other,1,8,[.any],[.raw (Go.Value.nilFunc)],false,false,[]⟩),
 (88,⟨.other,1,8,[.any],[.raw (Go.Value.nilFunc)],false,false,[]⟩),
 (89,⟨.other,1,8,[.any],[.raw (Go.Value.nilFunc)],false,false,[]⟩),
 (90,⟨.other,1,8,[.any],[.raw (Go.Value.nilFunc)],false,false,[]⟩),
 (91,⟨.other,1,8,[.any],[.raw (Go.Value.nilFunc)],false,false,[]⟩),
 (92,⟨.other,1,8,[.any],[.raw (Go.Value.nilFunc)],false,false,[]⟩),
 (93,⟨.other,1,8,[.any],[.raw (Go.Value.nilFunc)],false,false,[]⟩),
 (94,⟨.other,1,8,[.any],[.raw (Go.Value.nilFunc)],false,false,[]⟩),
 (95,⟨.other,1,8,[.any],[.raw (Go.Value.nilFunc)],false,false,[]⟩),
 (96,⟨.other,1,8,[.any],[.raw (Go.Value.nilFunc)],false,false,[]⟩),
 (97,⟨.other,1,8,[.any],[.raw (Go.Value.nilFunc)],false,false,[]⟩),
 (98,⟨(.pointer 101),1,8,[.any],[.raw (Go.Value.pointer none)],false,false,[]⟩),
 (99,⟨(.slice 5 1 1 [.int .u8]),1,24,[.sl 1 5],[.sl .nil 1 []],false,false,[]⟩),
 (100,⟨(.struct [(0,1),(1,1),(2,1)]),3,48,[.str, .int .i64, .sl 1 5],[.str [], .int .i64 0, .sl .nil 1 []],true,false,[9,3,99]⟩),
 (101,⟨(.struct [(0,1),(1,1),(2,1)]),3,48,[.str, .int .i64, .sl 1 5],[.str [], .int .i64 0, .sl .nil 1 []],true,false,[9,3,99]⟩),
 (102,⟨.other,1,8,[.any],[.raw (Go.Value.nilFunc)],false,false,[]⟩),
 (103,⟨.other,1,8,[.any],[.raw (Go.Value.nilFunc)],false,false,[]⟩),
 (104,⟨(.tuple [28,3,29]),1,0,[.any],[.raw (Go.Value.tuple
 #[Go.Value.agg
     #[Go.Value.int .i64 (0:Int),Go.Value.int .i64 (0:Int),
       Go.Value.int .i64 (0:Int),Go.Value.string { data:= #[] },Go.Value.slice none (0:Nat) (0:Nat),
       Go.Value.slice none (0:Nat) (0:Nat)],
   Go.Value.int .i64 (0:Int),Go.Value.int .i64 (0:Int)])],false,false,[]⟩),
 (105,⟨.other,1,8,[.any],[.raw (Go.Value.nilFunc)],false,false,[]⟩),
 (106,⟨.other,1,8,[.any],[.raw (Go.Value.nilFunc)],false,false,[]⟩),
 (107,⟨(.tuple [9,3,3]),1,0,[.any],[.raw (Go.Value.tuple
 #[Go.Value.string { data:= #[] },Go.Value.int .i64 (0:Int),Go.Value.int .i64 (0:Int)])],false,false,[]⟩),
 (108,⟨.other,1,8,[.any],[.raw (Go.Value.nilFunc)],false,false,[]⟩),
 (109,⟨.other,1,8,[.any],[.raw (Go.Value.nilFunc)],false,false,[]⟩),
 (110,⟨.other,1,8,[.any],[.raw (Go.Value.nilFunc)],false,false,[]⟩),
 (111,⟨.other,1,8,[.any],[.raw (Go.Value.nilFunc)],false,false,[]⟩),
 (112,⟨.other,1,8,[.any],[.raw (Go.Value.nilFunc)],false,false,[]⟩),
 (113,⟨.other,1,8,[.any],[.raw (Go.Value.nilFunc)],false,false,[]⟩),
 (114,⟨.other,1,8,[.any],[.raw (Go.Value.nilFunc)],false,false,[]⟩),
 (115,⟨(.int .u64),1,8,[.int .u64],[.int .u64 0],false,false,[]⟩),
 (116,⟨(.slice 9 1 16 [.str]),1,24,[.sl 1 9],[.sl .nil 1 []],false,false,[]⟩),
 (117,⟨.other,1,8,[.any],[.raw (Go.Value.nilFunc)],false,false,[]⟩),
 (118,⟨.other,1,8,[.any],[.raw (Go.Value.nilFunc)],false,false,[]⟩),
 (119,⟨.other,1,8,[.any],[.raw (Go.Value.nilFunc)],false,false,[]⟩),
 (120,⟨.other,1,8,[.any],[.raw (Go.Value.nilFunc)],false,false,[]⟩),
 (121,⟨.other,1,8,[.any],[.raw (Go.Value.nilFunc)],false,false,[]⟩),
 (122,⟨.other,1,8,[.any],[.raw (Go.Value.nilFunc)],false,false,[]⟩),
 (123,⟨(.pointer 127),1,8,[.any],[.raw (Go.Value.pointer none)],false,false,[]⟩),
 (124,⟨(.struct [(0,1),(1,1)]),2,24,[.str, .int .i64],[.str [], .int .i64 0],true,true,[9,3]⟩),
 (125,⟨(.struct [(0,1),(1,1)]),2,24,[.str, .int .i64],[.str [], .int .i64 0],true,true,[9,3]⟩),
 (126,⟨(.struct [(0,2),(2,1)]),3,32,[.str, .int .i64, .int .i64],[.str [], .int .i64 0, .int .i64 0],true,true,[125,3]⟩),
 (127,⟨(.struct [(0,2),(2,1)]),3,32,[.str, .int .i64, .int .i64],[.str [], .int .i64 0, .int .i64 0],true,true,[125,3]⟩),
 (128,⟨.other,1,8,[.any],[.raw (Go.Value.nilFunc)],false,false,[]⟩),
 (129,⟨.other,1,8,[.any],[.raw (Go.Value.nilFunc)],false,false,[]⟩),
 (130,⟨.other,1,8,[.any],[.raw (Go.Value.nilFunc)],false,false,[]⟩),
 (131,⟨.other,1,8,[.any],[.raw (Go.Value.nilFunc)],false,false,[]⟩),
 (132,⟨(.tuple [3,3]),1,0,[.any],[.raw (Go.Value.tuple #[Go.Value.int .i64 (0:Int),Go.Value.int .i64 (0:Int)])],false,false,[]⟩),
 (133,⟨.other,1,8,[.any],[.raw (Go.Value.nilFunc)],false,false,[]⟩),
 (134,⟨.other,1,8,[.any],[.raw (Go.Value.nilFunc)],false,false,[]⟩),
 (135,⟨.other,1,8,[.any],[.raw (Go.Value.nilFunc)],false,false,[]⟩),
 (136,⟨.other,1,8,[.any],[.raw (Go.Value.nilFunc)],false,false,[]⟩),
 (137,⟨.other,1,8,[.any],[.raw (Go.Value.nilFunc)],false,false,[]⟩),
 (138,⟨(.pointer 140),1,8,[.any],[.raw (Go.Value.pointer none)],false,false,[]⟩),
 (139,⟨(.struct [(0,1),(1,1)]),2,32,[.any, .sl 1 5],[.raw (Go.Value.pointer none), .sl .nil 1 []],true,false,[138,99]⟩),
 (140,⟨(.struct [(0,1),(1,1)]),2,32,[.any, .sl 1 5],[.raw (Go.Value.pointer none), .sl .nil 1 []],true,false,[138,99]⟩),
 (141,⟨.iface,1,16,[.ifc],[.ifc true],false,false,[]⟩),
 (142,⟨.iface,1,16,[.ifc],[.ifc true],false,false,[]⟩),
 (143,⟨.other,1,8,[.any],[.raw (Go.Value.nilFunc)],false,false,[]⟩),
 (144,⟨.other,1,8,[.any],[.raw (Go.Value.nilFunc)],false,false,[]⟩),
 (145,⟨.other,1,8,[.any],[.raw (Go.Value.nilFunc)],false,false,[]⟩),
 (146,⟨.other,1,8,[.any],[.raw (Go.Value.nilFunc)],false,false,[]⟩),
 (147,⟨.other,1,8,[.any],[.raw (Go.Value.nilFunc)],false,false,[]⟩),
 (148,⟨(.struct [(0,1),(1,1),(2,1)]),3,40,[.int .i64, .str, .str],[.int .i64 0, .str [], .str []],true,true,[3,9,9]⟩),
 (149,⟨(.struct [(0,1),(1,1),(2,1)]),3,40,[.int .i64, .str, .str],[.int .i64 0, .str [], .str []],true,true,[3,9,9]⟩),
 (150,⟨(.array 3 149 3),9,120,[.int .i64, .str, .str, .int .i64, .str, .str, .int .i64, .str, .str],[.int .i64 0, .str [], .str [], .int .i64 0, .str [], .str [], .int .i64 0, .str [], .str []],true,false,[]⟩),
 (151,⟨.other,1,8,[.any],[.raw (Go.Value.nilFunc)],false,false,[]⟩),
 (152,⟨.other,1,8,[.any],[.raw (Go.Value.nilFunc)],false,false,[]⟩),
 (153,⟨.other,1,8,[.any],[.raw (Go.Value.nilFunc)],false,false,[]⟩),
 (154,⟨(.tuple [5,4]),1,0,[.any],[.raw (Go.Value.tuple #[Go.Value.int .u8 (0:Int),Go.Value.bool false])],false,false,[]⟩),
 (155,⟨.other,1,8,[.any],[.raw (Go.Value.nilFunc)],false,false,[]⟩),
 (156,⟨.other,1,8,[.any],[.raw (Go.Value.nilFunc)],false,false,[]⟩),
 (157,⟨.other,1,8,[.any],[.raw (Go.Value.nilFunc)],false,false,[]⟩),
 (158,⟨(.tuple [3,29]),1,0,[.any],[.raw (Go.Value.tuple #[Go.Value.int .i64 (0:Int),Go.Value.int .i64 (0:Int)])],false,false,[]⟩),
 (159,⟨.other,1,8,[.any],[.raw (Go.Value.nilFunc)],false,false,[]⟩),
 (160,⟨.other,1,8,[.any],[.raw (Go.Value.nilFunc)],false,false,[]⟩),
 (161,⟨.other,1,8,[.any],[.raw (Go.Value.nilFunc)],false,false,[]⟩),
 (162,⟨(.tuple [28,3,4]),1,0,[.any],[.raw (Go.Value.tuple
 #[Go.Value.agg
     #[Go.Value.int .i64 (0:Int),Go.Value.int .i64 (0:Int),
       Go.Value.int .i64 (0:Int),Go.Value.string { data:= #[] },Go.Value.slice none (0:Nat) (0:Nat),
       Go.Value.slice none (0:Nat) (0:Nat)],
   Go.Value.int .i64 (0:Int),Go.Value.bool false])],false,false,[]⟩),
 (163,⟨.other,1,8,[.any],[.raw (Go.Value.nilFunc)],false,false,[]⟩),
 (164,⟨(.pointer 5),1,8,[.any],[.raw (Go.Value.pointer none)],false,false,[]⟩),
 (165,⟨(.tuple [3,142]),1,0,[.any],[.raw (Go.Value.tuple #[Go.Value.int .i64 (0:Int),Go.Value.nilIface])],false,false,[]⟩),
 (166,⟨.other,1,8,[.any],[.raw (Go.Value.nilFunc)],false,false,[]⟩),
 (167,⟨(.array 24 5 1),24,24,[.int .u8, .int .u8, .int .u8, .int .u8, .int .u8, .int .u8, .int .u8, .int .u8, .int .u8, .int .u8, .int .u8, .int .u8, .int .u8, .int .u8, .int .u8, .int .u8, .int .u8, .int .u8, .int .u8, .int .u8, .int .u8, .int .u8, .int .u8, .int .u8],[.int .u8 0, .int .u8 0, .int .u8 0, .int .u8 0, .int .u8 0, .int .u8 0, .int .u8 0, .int .u8 0, .int .u8 0, .int .u8 0, .int .u8 0, .int .u8 0, .int .u8 0, .int .u8 0, .int .u8 0, .int .u8 0, .int .u8 0, .int .u8 0, .int .u8 0, .int .u8 0, .int .u8 0, .int .u8 0, .int .u8 0, .int .u8 0],true,false,[]⟩),
 (168,⟨(.int .u64),1,8,[.int .u64],[.int .u64 0],false,false,[]⟩),
 (169,⟨.other,1,8,[.any],[.raw (Go.Value.nilFunc)],false,false,[]⟩),
 (170,⟨.other,1,8,[.any],[.raw (Go.Value.nilFunc)],false,false,[]⟩),
 (171,⟨(.tuple [99,9]),1,0,[.any],[.raw (Go.Value.tuple #[Go.Value.slice none (0:Nat) (0:Nat),Go.Value.string { data:= #[] }])],false,false,[]⟩),
 (172,⟨.other,1,8,[.any],[.raw (Go.Value.nilFunc)],false,false,[]⟩),
 (173,⟨.other,1,8,[.any],[.raw (Go.Value.nilFunc)],false,false,[]⟩),
 (174,⟨(.tuple [4,9]),1,0,[.any],[.raw (Go.Value.tuple #[Go.Value.bool false,Go.Value.string { data:= #[] }])],false,false,[]⟩),
 (175,⟨.other,1,8,[.any],[.raw (Go.Value.nilFunc)],false,false,[]⟩),
 (176,⟨(.pointer 125),1,8,[.any],[.raw (Go.Value.pointer none)],false,false,[]⟩),
 (177,⟨.other,1,8,[.any],[.raw (Go.Value.nilFunc)],false,false,[]⟩),
 (178,⟨(.tuple [9,4,29]),1,0,[.any],[.raw (Go.Value.tuple #[Go.Value.string { data:= #[] },Go.Value.bool false,Go.Value.int .i64 (0:Int)])],false,false,[]⟩),
 (179,⟨.other,1,8,[.any],[.raw (Go.Value.nilFunc)],false,false,[]⟩),
 (180,⟨.other,1,8,[.any],[.raw (Go.Value.nilFunc)],false,false,[]⟩),
 (181,⟨.other,1,8,[.any],[.raw (Go.Value.pointer none)],false,false,[]⟩),
 (182,⟨.other,1,8,[.any],[.raw (Go.Value.nilFunc)],false,false,[]⟩),
 (183,⟨.other,1,8,[.any],[.raw (Go.Value.nilFunc)],false,false,[]⟩),
 (184,⟨.other,1,8,[.any],[.raw (Go.Value.nilFunc)],false,false,[]⟩),
 (185,⟨(.array 20 168 1),20,160,[.int .u64, .int .u64, .int .u64, .int .u64, .int .u64, .int .u64, .int .u64, .int .u64, .int .u64, .int .u64, .int .u64, .int .u64, .int .u64, .int .u64, .int .u64, .int .u64, .int .u64, .int .u64, .int .u64, .int .u64],[.int .u64 0, .int .u64 0, .int .u64 0, .int .u64 0, .int .u64 0, .int .u64 0, .int .u64 0, .int .u64 0, .int .u64 0, .int .u64 0, .int .u64 0, .int .u64 0, .int .u64 0, .int .u64 0, .int .u64 0, .int .u64 0, .int .u64 0, .int .u64 0, .int .u64 0, .int .u64 0],true,false,[]⟩),
 (186,⟨(.int .u32),1,4,[.int .u32],[.int .u32 0],false,false,[]⟩),
 (187,⟨(.array 65 5 1),65,65,[.int .u8, .int .u8, .int .u8, .int .u8, .int .u8, .int .u8, .int .u8, .int .u8, .int .u8, .int .u8, .int .u8, .int .u8, .int .u8, .int .u8, .int .u8, .int .u8, .int .u8, .int .u8, .int .u8, .int .u8, .int .u8, .int .u8, .int .u8, .int .u8, .int .u8, .int .u8, .int .u8, .int .u8, .int .u8, .int .u8, .int .u8, .int .u8, .int .u8, .int .u8, .int .u8, .int .u8, .int .u8, .int .u8, .int .u8, .int .u8, .int .u8, .int .u8, .int .u8, .int .u8, .int .u8, .int .u8, .int .u8, .int .u8, .int .u8, .int .u8, .int .u8, .int .u8, .int .u8, .int .u8, .int .u8, .int .u8, .int .u8, .int .u8, .int .u8, .int .u8, .int .u8, .int .u8, .int .u8, .int .u8, .int .u8],[.int .u8 0, .int .u8 0, .int .u8 0, .int .u8 0, .int .u8 0, .int .u8 0, .int .u8 0, .int .u8 0, .int .u8 0, .int .u8 0, .int .u8 0, .int .u8 0, .int .u8 0, .int .u8 0, .int .u8 0, .int .u8 0, .int .u8 0, .int .u8 0, .int .u8 0, .int .u8 0, .int .u8 0, .int .u8 0, .int .u8 0, .int .u8 0, .int .u8 0, .int .u8 0, .int .u8 0, .int .u8 0, .int .u8 0, .int .u8 0, .int .u8 0, .int .u8 0, .int .u8 0, .int .u8 0, .int .u8 0, .int .u8 0, .int .u8 0, .int .u8 0, .int .u8 0, .int .u8 0, .int .u8 0, .int .u8 0, .int .u8 0, .int .u8 0, .int .u8 0, .int .u8 0, .int .u8 0, .int .u8 0, .int .u8 0, .int .u8 0, .int .u8 0, .int .u8 0, .int .u8 0, .int .u8 0, .int .u8 0, .int .u8 0, .int .u8 0, .int .u8 0, .int .u8 0, .int .u8 0, .int .u8 0, .int .u8 0, .int .u8 0, .int .u8 0, .int .u8 0],true,false,[]⟩),
 (188,⟨.other,1,8,[.any],[.raw (Go.Value.nilFunc)],false,false,[]⟩),
 (189,⟨.other,1,8,[.any],[.raw (Go.Value.nilFunc)],false,false,[]⟩),
 (190,⟨.other,1,8,[.any],[.raw (Go.Value.nilFunc)],false,false,[]⟩),
 (191,⟨.other,1,8,[.any],[.raw (Go.Value.nilFunc)],false,false,[]⟩),
 (192,⟨.other,1,8,[.any],[.raw (Go.Value.nilFunc)],false,false,[]⟩),
 (193,⟨.other,1,8,[.any],[.raw (Go.Value.nilFunc)],false,false,[]⟩),
 (194,⟨.other,1,8,[.any],[.raw (Go.Value.nilFunc)],false,false,[]⟩),
 (195,⟨(.array 32 5 1),32,32,[.int .u8, .int .u8, .int .u8, .int .u8, .int .u8, .int .u8, .int .u8, .int .u8, .int .u8, .int .u8, .int .u8, .int .u8, .int .u8, .int .u8, .int .u8, .int .u8, .int .u8, .int .u8, .int .u8, .int .u8, .int .u8, .int .u8, .int .u8, .int .u8, .int .u8, .int .u8, .int .u8, .int .u8, .int .u8, .int .u8, .int .u8, .int .u8],[.int .u8 0, .int .u8 0, .int .u8 0, .int .u8 0, .int .u8 0, .int .u8 0, .int .u8 0, .int .u8 0, .int .u8 0, .int .u8 0, .int .u8 0, .int .u8 0, .int .u8 0, .int .u8 0, .int .u8 0, .int .u8 0, .int .u8 0, .int .u8 0, .int .u8 0, .int .u8 0, .int .u8 0, .int .u8 0, .int .u8 0, .int .u8 0, .int .u8 0, .int .u8 0, .int .u8 0, .int .u8 0, .int .u8 0, .int .u8 0, .int .u8 0, .int .u8 0],true,false,[]⟩),
 (196,⟨(.array 64 5 1),64,64,[.int .u8, .int .u8, .int .u8, .int .u8, .int .u8, .int .u8, .int .u8, .int .u8, .int .u8, .int .u8, .int .u8, .int .u8, .int .u8, .int .u8, .int .u8, .int .u8, .int .u8, .int .u8, .int .u8, .int .u8, .int .u8, .int .u8, .int .u8, .int .u8, .int .u8, .int .u8, .int .u8, .int .u8, .int .u8, .int .u8, .int .u8, .int .u8, .int .u8, .int .u8, .int .u8, .int .u8, .int .u8, .int .u8, .int .u8, .int .u8, .int .u8, .int .u8, .int .u8, .int .u8, .int .u8, .int .u8, .int .u8, .int .u8, .int .u8, .int .u8, .int .u8, .int .u8, .int .u8, .int .u8, .int .u8, .int .u8, .int .u8, .int .u8, .int .u8, .int .u8, .int .u8, .int .u8, .int .u8, .int .u8],[.int .u8 0, .int .u8 0, .int .u8 0, .int .u8 0, .int .u8 0, .int .u8 0, .int .u8 0, .int .u8 0, .int .u8 0, .int .u8 0, .int .u8 0, .int .u8 0, .int .u8 0, .int .u8 0, .int .u8 0, .int .u8 0, .int .u8 0, .int .u8 0, .int .u8 0, .int .u8 0, .int .u8 0, .int .u8 0, .int .u8 0, .int .u8 0, .int .u8 0, .int .u8 0, .int .u8 0, .int .u8 0, .int .u8 0, .int .u8 0, .int .u8 0, .int .u8 0, .int .u8 0, .int .u8 0, .int .u8 0, .int .u8 0, .int .u8 0, .int .u8 0, .int .u8 0, .int .u8 0, .int .u8 0, .int .u8 0, .int .u8 0, .int .u8 0, .int .u8 0, .int .u8 0, .int .u8 0, .int .u8 0, .int .u8 0, .int .u8 0, .int .u8 0, .int .u8 0, .int .u8 0, .int .u8 0, .int .u8 0, .int .u8 0, .int .u8 0, .int .u8 0, .int .u8 0, .int .u8 0, .int .u8 0, .int .u8 0, .int .u8 0, .int .u8 0],true,false,[]⟩),
 (197,⟨(.tuple [186,186]),1,0,[.any],[.raw (Go.Value.tuple #[Go.Value.int .u32 (0:Int),Go.Value.int .u32 (0:Int)])],false,false,[]⟩),
 (198,⟨.other,1,8,[.any],[.raw (Go.Value.nilFunc)],false,false,[]⟩),
 (199,⟨(.struct [(0,1),(1,1),(2,1),(3,1)]),4,40,[.any, .any, .any, .str],[.raw (Go.Value.pointer none), .raw (Go.Value.pointer none), .raw (Go.Value.pointer none), .str []],true,false,[17,17,17,9]⟩),
 (200,⟨(.struct [(0,1),(1,1),(2,1),(3,1)]),4,40,[.any, .any, .any, .str],[.raw (Go.Value.pointer none), .raw (Go.Value.pointer none), .raw (Go.Value.pointer none), .str []],true,false,[17,17,17,9]⟩),
 (201,⟨(.array 0 16 1),0,0,[],[],true,false,[]⟩),
 (202,⟨(.struct [(0,0)]),0,0,[],[],true,false,[201]⟩),
 (203,⟨(.struct [(0,0)]),0,0,[],[],true,false,[201]⟩),
 (204,⟨(.int .u8),1,1,[.int .u8],[.int .u8 0],false,false,[]⟩),
 (205,⟨(.int .u8),1,1,[.int .u8],[.int .u8 0],false,false,[]⟩),
 (206,⟨.other,1,8,[.any],[.raw (Go.Value.nilFunc)],false,false,[]⟩),
 (207,⟨(.int .i32),1,4,[.int .i32],[.int .i32 0],false,false,[]⟩),
 (208,⟨(.int .i32),1,4,[.int .i32],[.int .i32 0],false,false,[]⟩),
 (209,⟨(.struct [(0,1),(1,1),(2,1),(3,1),(4,1),(5,1),(6,1),(7,1),(8,1),(9,1),(10,1)]),11,48,[.int .u64, .int .u64, .int .u32, .int .u8, .int .u8, .int .u8, .int .u8, .any, .any, .int .i32, .int .i32],[.int .u64 0, .int .u64 0, .int .u32 0, .int .u8 0, .int .u8 0, .int .u8 0, .int .u8 0, .raw (Go.Value.nilFunc), .raw (Go.Value.pointer none), .int .i32 0, .int .i32 0],true,false,[12,12,186,204,5,5,205,206,164,207,208]⟩),
 (210,⟨(.struct [(0,1),(1,1),(2,1),(3,1),(4,1),(5,1),(6,1),(7,1),(8,1),(9,1),(10,1)]),11,48,[.int .u64, .int .u64, .int .u32, .int .u8, .int .u8, .int .u8, .int .u8, .any, .any, .int .i32, .int .i32],[.int .u64 0, .int .u64 0, .int .u32 0, .int .u8 0, .int .u8 0, .int .u8 0, .int .u8 0, .raw (Go.Value.nilFunc), .raw (Go.Value.pointer none), .int .i32 0, .int .i32 0],true,false,[12,12,186,204,5,5,205,206,164,207,208]⟩)]
abbrev Ae9:Nat:=4
abbrev Zn:Nat:=7
abbrev Zm:Nat:=8
abbrev Ti:Nat:=10
abbrev Aut:Nat:=11
abbrev Ld:Nat:=12
abbrev Akc:Nat:=13
abbrev Abg:Nat:=14
abbrev Ag6:Nat:=15
abbrev Gq:Nat:=16
abbrev Tt:Nat:=17
abbrev Ag1:Nat:=18
abbrev Ac5:Nat:=19
abbrev U5:Nat:=20
abbrev Abe:Nat:=23
abbrev Afd:Nat:=24
abbrev Tj:Nat:=25
abbrev U6:Nat:=26
abbrev Sa:Nat:=27
abbrev Ae5:Nat:=28
abbrev Afc:Nat:=29
abbrev Ag5:Nat:=30
abbrev Aol:Nat:=31
abbrev Tu:Nat:=32
abbrev Afh:Nat:=33
abbrev Wl:Nat:=34
abbrev Ag7:Nat:=35
abbrev Ake:Nat:=36
abbrev Qp:Nat:=37
abbrev Jt:Nat:=40
abbrev Qr:Nat:=41
abbrev Ag4:Nat:=42
abbrev L8:Nat:=43
abbrev Aok:Nat:=44
abbrev Aom:Nat:=45
abbrev Yh:Nat:=46
abbrev Vb:Nat:=47
abbrev Ku:Nat:=48
abbrev Ak:Nat:=49
abbrev M9:Nat:=50
abbrev Np:Nat:=51
abbrev Ca:Nat:=52
abbrev Gu:Nat:=53
abbrev Dt:Nat:=54
abbrev Tv:Nat:=55
abbrev Aqb:Nat:=56
abbrev Afe:Nat:=60
abbrev Akd:Nat:=61
abbrev Rw:Nat:=62
abbrev Ag3:Nat:=64
abbrev Ara:Nat:=66
abbrev Arb:Nat:=67
abbrev Abd:Nat:=68
abbrev Aoj:Nat:=69
abbrev Aus:Nat:=70
abbrev Og:Nat:=71
abbrev Arc:Nat:=72
abbrev Abf:Nat:=73
abbrev Ve:Nat:=74
abbrev Afg:Nat:=75
abbrev Aff:Nat:=76
abbrev Lf:Nat:=77
abbrev Pt:Nat:=78
abbrev Akf:Nat:=79
abbrev Ab5:Nat:=80
abbrev Ag8:Nat:=81
abbrev Xk:Nat:=82
abbrev Afi:Nat:=83
abbrev Auu:Nat:=88
abbrev Vx:Nat:=89
abbrev Qq:Nat:=90
abbrev Tn:Nat:=92
abbrev Tp:Nat:=93
abbrev Vd:Nat:=95
abbrev Tq:Nat:=96
abbrev I9:Nat:=97
abbrev Rh:Nat:=98
abbrev Ah0:Nat:=99
abbrev Afb:Nat:=100
abbrev Aiy:Nat:=101
abbrev Aq9:Nat:=102
abbrev Aoi:Nat:=103
abbrev Akb:Nat:=104
abbrev Arh:Nat:=105
abbrev Arf:Nat:=106
abbrev Ard:Nat:=107
abbrev Ey:Nat:=109
abbrev Dl:Nat:=110
abbrev Ab6:Nat:=112
abbrev Nn:Nat:=113
abbrev Oo:Nat:=114
abbrev Ag2:Nat:=116
abbrev Aqc:Nat:=117
abbrev Xj:Nat:=124
abbrev Ho:Nat:=126
abbrev Kw:Nat:=128
abbrev D5:Nat:=129
abbrev Yg:Nat:=130
abbrev Ae8:Nat:=131
abbrev F9:Nat:=132
abbrev Rv:Nat:=133
abbrev Aka:Nat:=134
abbrev U9:Nat:=136
abbrev U8:Nat:=137
abbrev Afa:Nat:=138
abbrev Ah1:Nat:=139
abbrev Le:Nat:=141
abbrev Tm:Nat:=142
abbrev D6:Nat:=149
abbrev Pe:Nat:=150
abbrev Ae7:Nat:=151
abbrev N9:Nat:=153
abbrev Wj:Nat:=154
abbrev Aoh:Nat:=155
abbrev Ei:Nat:=156
abbrev Agf:Nat:=164
abbrev Ae6:Nat:=165
abbrev Rf:Nat:=171
abbrev A2a:Nat:=172
abbrev Fu:Nat:=3
abbrev Am:Nat:=5
abbrev Rn:Nat:=9
abbrev Aa:Nat:=28
abbrev Bw:Nat:=44
abbrev Ae:Nat:=53
abbrev Bi:Nat:=69
abbrev Aq:Nat:=78
abbrev Ad:Nat:=101
abbrev A9m:Nat:=125
abbrev Ap:Nat:=127
abbrev Bj:Nat:=140
noncomputable def Ap9:AC:=(A7 [] [2] (codeOf Tryz.f166) 0).1
noncomputable def Ak5:AC:=(A7 [] [2] (codeOf Tryz.f172) 0).1
noncomputable def Q9:AC:=(A7 [] [4,5] (codeOf Tryz.f144) 0).1
noncomputable def Td:AC:=(A7 [] [4] (codeOf Tryz.f111) 0).1
noncomputable def Xi:AC:=(A7 [] [2] (codeOf Tryz.f115) 0).1
noncomputable def Awc:AC:=(A7 [] [2,3] (codeOf Tryz.f65) 0).1
noncomputable def Ay7:AC:=(A7 [] [2,3] (codeOf Tryz.f63) 0).1
noncomputable def Ade:AC:=(A7 [] [4,5] (codeOf Tryz.f127) 0).1
noncomputable def Adb:AC:=(A7 [] [2,3] (codeOf Tryz.f125) 0).1
noncomputable def Adc:AC:=(A7 [] [6,7] (codeOf Tryz.f91) 0).1
noncomputable def Aba:AC:=(A7 [] [2] (codeOf Tryz.f94) 0).1
noncomputable def Aa9:AC:=(A7 [] [] (codeOf Tryz.f129) 0).1
noncomputable def Aa8:AC:=(A7 [] [4,5] (codeOf Tryz.f135) 0).1
noncomputable def Aew:AC:=(A7 [] [2,3] (codeOf Tryz.f152) 0).1
noncomputable def Bsa:List (Nat × AC × Nat × List ResultVar):=[(166,Ap9,5,[.tmp 2]),(172,Ak5,23,[.tmp 2]),(144,Q9,19,[.tmp 4, .tmp 5]),(111,Td,17,[.tmp 4]),(115,Xi,14,[.tmp 2]),(65,Awc,6,[.cell 2 28, .tmp 3]),(63,Ay7,6,[.cell 2 78, .tmp 3]),(127,Ade,13,[.cell 4 78, .tmp 5]),(125,Adb,23,[.tmp 2, .tmp 3]),(91,Adc,18,[.cell 6 78, .tmp 7]),(94,Aba,36,[.tmp 2]),(129,Aa9,37,[]),(135,Aa8,37,[.cell 4 28, .tmp 5]),(152,Aew,15,[.cell 2 78, .tmp 3])]
def wr0:List (Nat × Nat):=[(48,1),(77,1),(109,1),(110,1),(141,1),(156,1),(51,1),(47,2),(149,4)]
def Bnp:List (Nat × Nat):=[(142,140)]
noncomputable def E0:Env:=⟨Tryz.prog,TT0,0,Bmr Bsa,Bms Bnp,Byo wr0⟩
end Go.Proofs.Sim.Se
