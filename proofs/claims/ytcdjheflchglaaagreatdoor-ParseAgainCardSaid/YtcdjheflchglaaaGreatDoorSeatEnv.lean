import Derived.Test.YtcdjheflchglaaaGreatDoorSimC
import Derived.Test.YtcdjheflchglaaaGreatDoorProg
set_option maxRecDepth 100000
namespace Go.Proofs.Sim.Se
open Go Go.Proofs Go.Proofs.Sim
noncomputable def TT0:TT:=[(0,⟨(.tuple []),1,0,[.any],[.raw (Go.Value.tuple #[])],false,false,[]⟩),
 (1,⟨.other,1,8,[.any],[.raw (Go.Value.nilFunc)],false,false,[]⟩),
 (2,⟨(.int .i64),1,8,[.int .i64],[.int .i64 0],false,false,[]⟩),
 (3,⟨(.int .i64),1,8,[.int .i64],[.int .i64 0],false,false,[]⟩),
 (4,⟨.bool,1,1,[.bool],[.bool false],false,false,[]⟩),
 (5,⟨(.int .u8),1,1,[.int .u8],[.int .u8 0],false,false,[]⟩),
 (6,⟨(.int .u8),1,1,[.int .u8],[.int .u8 0],false,false,[]⟩),
 (7,⟨(.struct [(0,1),(1,1),(2,1),(3,1)]),4,24,[.int .i64, .int .i64, .bool, .int .u8],[.int .i64 0, .int .i64 0, .bool false, .int .u8 0],true,true,[2,3,4,6]⟩),
 (8,⟨(.struct [(0,1),(1,1),(2,1),(3,1)]),4,24,[.int .i64, .int .i64, .bool, .int .u8],[.int .i64 0, .int .i64 0, .bool false, .int .u8 0],true,true,[2,3,4,6]⟩),
 (9,⟨.str,1,16,[.str],[.str []],false,false,[]⟩),
 (10,⟨.str,1,16,[.str],[.str []],false,false,[]⟩),
 (11,⟨.str,1,16,[.str],[.str []],false,false,[]⟩),
 (12,⟨(.int .u64),1,8,[.int .u64],[.int .u64 0],false,false,[]⟩),
 (13,⟨(.struct [(0,1),(1,1)]),2,24,[.str, .int .u64],[.str [], .int .u64 0],true,false,[9,12]⟩),
 (14,⟨(.struct [(0,1),(1,1)]),2,24,[.str, .int .u64],[.str [], .int .u64 0],true,false,[9,12]⟩),
 (15,⟨(.pointer 151),1,8,[.any],[.raw (Go.Value.pointer none)],false,false,[]⟩),
 (16,⟨(.pointer 154),1,8,[.any],[.raw (Go.Value.pointer none)],false,false,[]⟩),
 (17,⟨(.pointer 161),1,8,[.any],[.raw (Go.Value.pointer none)],false,false,[]⟩),
 (18,⟨(.struct [(0,1)]),1,8,[.any],[.raw (Go.Value.pointer none)],true,false,[17]⟩),
 (19,⟨(.struct [(0,1)]),1,8,[.any],[.raw (Go.Value.pointer none)],true,false,[17]⟩),
 (20,⟨.iface,1,16,[.ifc],[.ifc true],false,false,[]⟩),
 (21,⟨(.int .i32),1,4,[.int .i32],[.int .i32 0],false,false,[]⟩),
 (22,⟨(.slice 25 6 88 [.int .i64, .int .i64, .int .i64, .str, .sl 6 25, .sl 7 42]),1,24,[.sl 6 25],[.sl .nil 6 []],false,false,[]⟩),
 (23,⟨(.slice 42 7 104 [.str, .int .i64, .int .i64, .int .i64, .str, .sl 6 25, .sl 7 42]),1,24,[.sl 7 42],[.sl .nil 7 []],false,false,[]⟩),
 (24,⟨(.struct [(0,1),(1,1),(2,1),(3,1),(4,1),(5,1)]),6,88,[.int .i64, .int .i64, .int .i64, .str, .sl 6 25, .sl 7 42],[.int .i64 0, .int .i64 0, .int .i64 0, .str [], .sl .nil 6 [], .sl .nil 7 []],true,false,[3,3,3,9,22,23]⟩),
 (25,⟨(.struct [(0,1),(1,1),(2,1),(3,1),(4,1),(5,1)]),6,88,[.int .i64, .int .i64, .int .i64, .str, .sl 6 25, .sl 7 42],[.int .i64 0, .int .i64 0, .int .i64 0, .str [], .sl .nil 6 [], .sl .nil 7 []],true,false,[3,3,3,9,22,23]⟩),
 (26,⟨.other,1,8,[.any],[.raw (Go.Value.nilFunc)],false,false,[]⟩),
 (27,⟨.other,1,8,[.any],[.raw (Go.Value.nilFunc)],false,false,[]⟩),
 (28,⟨(.int .i64),1,8,[.int .i64],[.int .i64 0],false,false,[]⟩),
 (29,⟨(.tuple [9,28]),1,0,[.any],[.raw (Go.Value.tuple #[Go.Value.string { data:= #[] },Go.Value.int .i64 (0:Int)])],false,false,[]⟩),
 (30,⟨.other,1,8,[.any],[.raw (Go.Value.nilFunc)],false,false,[]⟩),
 (31,⟨(.tuple [25,28]),1,0,[.any],[.raw (Go.Value.tuple
 #[Go.Value.agg
     #[Go.Value.int .i64 (0:Int),Go.Value.int .i64 (0:Int),
       Go.Value.int .i64 (0:Int),Go.Value.string { data:= #[] },Go.Value.slice none (0:Nat) (0:Nat),
       Go.Value.slice none (0:Nat) (0:Nat)],
   Go.Value.int .i64 (0:Int)])],false,false,[]⟩),
 (32,⟨.other,1,8,[.any],[.raw (Go.Value.nilFunc)],false,false,[]⟩),
 (33,⟨(.tuple [25,3,28]),1,0,[.any],[.raw (Go.Value.tuple
 #[Go.Value.agg
     #[Go.Value.int .i64 (0:Int),Go.Value.int .i64 (0:Int),
       Go.Value.int .i64 (0:Int),Go.Value.string { data:= #[] },Go.Value.slice none (0:Nat) (0:Nat),
       Go.Value.slice none (0:Nat) (0:Nat)],
   Go.Value.int .i64 (0:Int),Go.Value.int .i64 (0:Int)])],false,false,[]⟩),
 (34,⟨.other,1,8,[.any],[.raw (Go.Value.nilFunc)],false,false,[]⟩),
 (35,⟨.other,1,8,[.any],[.raw (Go.Value.nilFunc)],false,false,[]⟩),
 (36,⟨.other,1,8,[.any],[.raw (Go.Value.nilFunc)],false,false,[]⟩),
 (37,⟨.other,1,8,[.any],[.raw (Go.Value.nilFunc)],false,false,[]⟩),
 (38,⟨.other,1,8,[.any],[.raw (Go.Value.nilFunc)],false,false,[]⟩),
 (39,⟨.other,1,8,[.any],[.raw (Go.Value.nilFunc)],false,false,[]⟩),
 (40,⟨.other,1,8,[.any],[.raw (Go.Value.nilFunc)],false,false,[]⟩),
 (41,⟨(.struct [(0,1),(1,6)]),7,104,[.str, .int .i64, .int .i64, .int .i64, .str, .sl 6 25, .sl 7 42],[.str [], .int .i64 0, .int .i64 0, .int .i64 0, .str [], .sl .nil 6 [], .sl .nil 7 []],true,false,[9,25]⟩),
 (42,⟨(.struct [(0,1),(1,6)]),7,104,[.str, .int .i64, .int .i64, .int .i64, .str, .sl 6 25, .sl 7 42],[.str [], .int .i64 0, .int .i64 0, .int .i64 0, .str [], .sl .nil 6 [], .sl .nil 7 []],true,false,[9,25]⟩),
 (43,⟨.other,1,8,[.any],[.raw (Go.Value.nilFunc)],false,false,[]⟩),
 (44,⟨.other,1,8,[.any],[.raw (Go.Value.nilFunc)],false,false,[]⟩),
 (45,⟨(.struct [(0,1),(1,1),(2,1),(3,1),(4,1)]),5,48,[.int .i64, .int .i64, .str, .int .i64, .int .i64],[.int .i64 0, .int .i64 0, .str [], .int .i64 0, .int .i64 0],true,true,[3,3,9,3,3]⟩),
 (46,⟨(.struct [(0,1),(1,1),(2,1),(3,1),(4,1)]),5,48,[.int .i64, .int .i64, .str, .int .i64, .int .i64],[.int .i64 0, .int .i64 0, .str [], .int .i64 0, .int .i64 0],true,true,[3,3,9,3,3]⟩),
 (47,⟨(.tuple [46,28]),1,0,[.any],[.raw (Go.Value.tuple
 #[Go.Value.agg
     #[Go.Value.int .i64 (0:Int),Go.Value.int .i64 (0:Int),Go.Value.string { data:= #[] },
       Go.Value.int .i64 (0:Int),Go.Value.int .i64 (0:Int)],
   Go.Value.int .i64 (0:Int)])],false,false,[]⟩),
 (48,⟨.other,1,8,[.any],[.raw (Go.Value.nilFunc)],false,false,[]⟩),
 (49,⟨(.pointer 53),1,8,[.any],[.raw (Go.Value.pointer none)],false,false,[]⟩),
 (50,⟨(.struct [(0,1),(1,1)]),2,24,[.str, .int .i64],[.str [], .int .i64 0],true,true,[9,3]⟩),
 (51,⟨(.struct [(0,1),(1,1)]),2,24,[.str, .int .i64],[.str [], .int .i64 0],true,true,[9,3]⟩),
 (52,⟨(.struct [(0,2),(2,1)]),3,32,[.str, .int .i64, .int .i64],[.str [], .int .i64 0, .int .i64 0],true,true,[51,3]⟩),
 (53,⟨(.struct [(0,2),(2,1)]),3,32,[.str, .int .i64, .int .i64],[.str [], .int .i64 0, .int .i64 0],true,true,[51,3]⟩),
 (54,⟨.other,1,8,[.any],[.raw (Go.Value.nilFunc)],false,false,[]⟩),
 (55,⟨(.struct [(0,1),(1,1),(2,1),(3,1),(4,1)]),5,5,[.bool, .bool, .bool, .bool, .bool],[.bool false, .bool false, .bool false, .bool false, .bool false],true,true,[4,4,4,4,4]⟩),
 (56,⟨(.struct [(0,1),(1,1),(2,1),(3,1),(4,1)]),5,5,[.bool, .bool, .bool, .bool, .bool],[.bool false, .bool false, .bool false, .bool false, .bool false],true,true,[4,4,4,4,4]⟩),
 (57,⟨(.tuple [56,4]),1,0,[.any],[.raw (Go.Value.tuple
 #[Go.Value.agg
     #[Go.Value.bool false,Go.Value.bool false,Go.Value.bool false,Go.Value.bool false,Go.Value.bool false],
   Go.Value.bool false])],false,false,[]⟩),
 (58,⟨.other,1,8,[.any],[.raw (Go.Value.nilFunc)],false,false,[]⟩),
 (59,⟨.other,1,8,[.any],[.raw (Go.Value.nilFunc)],false,false,[]⟩),
 (60,⟨.other,1,8,[.any],[.raw (Go.Value.nilFunc)],false,false,[]⟩),
 (61,⟨(.slice 9 1 16 [.str]),1,24,[.sl 1 9],[.sl .nil 1 []],false,false,[]⟩),
 (62,⟨.other,1,8,[.any],[.raw (Go.Value.nilFunc)],false,false,[]⟩),
 (63,⟨.other,1,8,[.any],[.raw (Go.Value.nilFunc)],false,false,[]⟩),
 (64,⟨.other,1,8,[.any],[.raw (Go.Value.nilFunc)],false,false,[]⟩),
 (65,⟨.other,1,8,[.any],[.raw (Go.Value.nilFunc)],false,false,[]⟩),
 (66,⟨.other,1,8,[.any],[.raw (Go.Value.nilFunc)],false,false,[]⟩),
 (67,⟨(.pointer 70),1,8,[.any],[.raw (Go.Value.pointer none)],false,false,[]⟩),
 (68,⟨(.slice 5 1 1 [.int .u8]),1,24,[.sl 1 5],[.sl .nil 1 []],false,false,[]⟩),
 (69,⟨(.struct [(0,1),(1,1),(2,1)]),3,48,[.str, .int .i64, .sl 1 5],[.str [], .int .i64 0, .sl .nil 1 []],true,false,[9,3,68]⟩),
 (70,⟨(.struct [(0,1),(1,1),(2,1)]),3,48,[.str, .int .i64, .sl 1 5],[.str [], .int .i64 0, .sl .nil 1 []],true,false,[9,3,68]⟩),
 (71,⟨.other,1,8,[.any],[.raw (Go.Value.nilFunc)],false,false,[]⟩),
 (72,⟨.other,1,8,[.any],[.raw (Go.Value.nilFunc)],false,false,[]⟩),
 (73,⟨.other,1,8,[.any],[.raw (Go.Value.nilFunc)],false,false,[]⟩),
 (74,⟨.other,1,8,[.any],[.raw (Go.Value.nilFunc)],false,false,[]⟩),
 (75,⟨.other,1,8,[.any],[.raw (Go.Value.nilFunc)],false,false,[]⟩),
 (76,⟨.other,1,8,[.any],[.raw (Go.Value.nilFunc)],false,false,[]⟩),
 (77,⟨.other,1,8,[.any],[.raw (Go.Value.nilFunc)],false,false,[]⟩),
 (78,⟨.other,1,8,[.any],[.raw (Go.Value.nilFunc)],false,false,[]⟩),
 (79,⟨.other,1,8,[.any],[.raw (Go.Value.nilFunc)],false,false,[]⟩),
 (80,⟨.map,1,8,[.any],[.raw (Go.Value.map none)],false,false,[]⟩),
 (81,⟨(.pointer 83),1,8,[.any],[.raw (Go.Value.pointer none)],false,false,[]⟩),
 (82,⟨(.struct [(0,1),(1,1)]),2,32,[.any, .sl 1 5],[.raw (Go.Value.pointer none), .sl .nil 1 []],true,false,[81,68]⟩),
 (83,⟨(.struct [(0,1),(1,1)]),2,32,[.any, .sl 1 5],[.raw (Go.Value.pointer none), .sl .nil 1 []],true,false,[81,68]⟩),
 (84,⟨.iface,1,16,[.ifc],[.ifc true],false,false,[]⟩),
 (85,⟨.iface,1,16,[.ifc],[.ifc true],false,false,[]⟩),
 (86,⟨.other,1,8,[.any],[.raw (Go.Value.nilFunc)],false,false,[]⟩),
 (87,⟨.other,1,8,[.any],[.raw (Go.Value.nilFunc)],false,false,[]⟩),
 (88,⟨.other,1,8,[.any],[.raw (Go.Value.nilFunc)],false,false,[]⟩),
 (89,⟨.other,1,8,[.any],[.raw (Go.Value.nilFunc)],false,false,[]⟩),
 (90,⟨(.int .u64),1,8,[.int .u64],[.int .u64 0],false,false,[]⟩),
 (91,⟨.other,1,8,[.any],[.raw (Go.Value.nilFunc)],false,false,[]⟩),
 (92,⟨.other,1,8,[.any],[.raw (Go.Value.nilFunc)],false,false,[]⟩),
 (93,⟨(.struct [(0,1),(1,1),(2,1)]),3,40,[.int .i64, .str, .str],[.int .i64 0, .str [], .str []],true,true,[3,9,9]⟩),
 (94,⟨(.struct [(0,1),(1,1),(2,1)]),3,40,[.int .i64, .str, .str],[.int .i64 0, .str [], .str []],true,true,[3,9,9]⟩),
 (95,⟨(.array 3 94 3),9,120,[.int .i64, .str, .str, .int .i64, .str, .str, .int .i64, .str, .str],[.int .i64 0, .str [], .str [], .int .i64 0, .str [], .str [], .int .i64 0, .str [], .str []],true,false,[]⟩),
 (96,⟨.other,1,8,[.any],[.raw (Go.Value.nilFunc)],false,false,[]⟩),
 (97,⟨.other,1,8,[.any],[.raw (Go.Value.nilFunc)],false,false,[]⟩),
 (98,⟨(.pointer 51),1,8,[.any],[.raw (Go.Value.pointer none)],false,false,[]⟩),
 (99,⟨(.tuple [3,4]),1,0,[.any],[.raw (Go.Value.tuple #[Go.Value.int .i64 (0:Int),Go.Value.bool false])],false,false,[]⟩),
 (100,⟨.other,1,8,[.any],[.raw (Go.Value.nilFunc)],false,false,[]⟩),
 (101,⟨(.tuple [9,4,28]),1,0,[.any],[.raw (Go.Value.tuple #[Go.Value.string { data:= #[] },Go.Value.bool false,Go.Value.int .i64 (0:Int)])],false,false,[]⟩),
 (102,⟨.other,1,8,[.any],[.raw (Go.Value.nilFunc)],false,false,[]⟩),
 (103,⟨.other,1,8,[.any],[.raw (Go.Value.nilFunc)],false,false,[]⟩),
 (104,⟨.other,1,8,[.any],[.raw (Go.Value.nilFunc)],false,false,[]⟩),
 (105,⟨.other,1,8,[.any],[.raw (Go.Value.nilFunc)],false,false,[]⟩),
 (106,⟨.other,1,8,[.any],[.raw (Go.Value.nilFunc)],false,false,[]⟩),
 (107,⟨(.pointer 5),1,8,[.any],[.raw (Go.Value.pointer none)],false,false,[]⟩),
 (108,⟨.other,1,8,[.any],[.raw (Go.Value.nilFunc)],false,false,[]⟩),
 (109,⟨(.tuple [3,85]),1,0,[.any],[.raw (Go.Value.tuple #[Go.Value.int .i64 (0:Int),Go.Value.nilIface])],false,false,[]⟩),
 (110,⟨.other,1,8,[.any],[.raw (Go.Value.nilFunc)],false,false,[]⟩),
 (111,⟨(.slice 3 1 8 [.int .i64]),1,24,[.sl 1 3],[.sl .nil 1 []],false,false,[]⟩),
 (112,⟨.other,1,8,[.any],[.raw (Go.Value.nilFunc)],false,false,[]⟩),
 (113,⟨(.tuple [5,4]),1,0,[.any],[.raw (Go.Value.tuple #[Go.Value.int .u8 (0:Int),Go.Value.bool false])],false,false,[]⟩),
 (114,⟨.other,1,8,[.any],[.raw (Go.Value.nilFunc)],false,false,[]⟩),
 (115,⟨.other,1,8,[.any],[.raw (Go.Value.nilFunc)],false,false,[]⟩),
 (116,⟨(.tuple [3,28]),1,0,[.any],[.raw (Go.Value.tuple #[Go.Value.int .i64 (0:Int),Go.Value.int .i64 (0:Int)])],false,false,[]⟩),
 (117,⟨.other,1,8,[.any],[.raw (Go.Value.nilFunc)],false,false,[]⟩),
 (118,⟨.other,1,8,[.any],[.raw (Go.Value.nilFunc)],false,false,[]⟩),
 (119,⟨.other,1,8,[.any],[.raw (Go.Value.nilFunc)],false,false,[]⟩),
 (120,⟨.other,1,8,[.any],[.raw (Go.Value.nilFunc)],false,false,[]⟩),
 (121,⟨.other,1,8,[.any],[.raw (Go.Value.pointer none)],false,false,[]⟩),
 (122,⟨.other,1,8,[.any],[.raw (Go.Value.nilFunc)],false,false,[]⟩),
 (123,⟨.other,1,8,[.any],[.raw (Go.Value.nilFunc)],false,false,[]⟩),
 (124,⟨(.tuple [4,9]),1,0,[.any],[.raw (Go.Value.tuple #[Go.Value.bool false,Go.Value.string { data:= #[] }])],false,false,[]⟩),
 (125,⟨.other,1,8,[.any],[.raw (Go.Value.nilFunc)],false,false,[]⟩),
 (126,⟨(.array 24 5 1),24,24,[.int .u8, .int .u8, .int .u8, .int .u8, .int .u8, .int .u8, .int .u8, .int .u8, .int .u8, .int .u8, .int .u8, .int .u8, .int .u8, .int .u8, .int .u8, .int .u8, .int .u8, .int .u8, .int .u8, .int .u8, .int .u8, .int .u8, .int .u8, .int .u8],[.int .u8 0, .int .u8 0, .int .u8 0, .int .u8 0, .int .u8 0, .int .u8 0, .int .u8 0, .int .u8 0, .int .u8 0, .int .u8 0, .int .u8 0, .int .u8 0, .int .u8 0, .int .u8 0, .int .u8 0, .int .u8 0, .int .u8 0, .int .u8 0, .int .u8 0, .int .u8 0, .int .u8 0, .int .u8 0, .int .u8 0, .int .u8 0],true,false,[]⟩),
 (127,⟨(.int .u64),1,8,[.int .u64],[.int .u64 0],false,false,[]⟩),
 (128,⟨.other,1,8,[.any],[.raw (Go.Value.nilFunc)],false,false,[]⟩),
 (129,⟨.other,1,8,[.any],[.raw (Go.Value.nilFunc)],false,false,[]⟩),
 (130,⟨(.tuple [68,9]),1,0,[.any],[.raw (Go.Value.tuple #[Go.Value.slice none (0:Nat) (0:Nat),Go.Value.string { data:= #[] }])],false,false,[]⟩),
 (131,⟨.other,1,8,[.any],[.raw (Go.Value.nilFunc)],false,false,[]⟩),
 (132,⟨.other,1,8,[.any],[.raw (Go.Value.nilFunc)],false,false,[]⟩),
 (133,⟨.other,1,8,[.any],[.raw (Go.Value.nilFunc)],false,false,[]⟩),
 (134,⟨.other,1,8,[.any],[.raw (Go.Value.nilFunc)],false,false,[]⟩),
 (135,⟨.other,1,8,[.any],[.raw (Go.Value.nilFunc)],false,false,[]⟩),
 (136,⟨.other,1,8,[.any],[.raw (Go.Value.nilFunc)],false,false,[]⟩),
 (137,⟨.other,1,8,[.any],[.raw (Go.Value.nilFunc)],false,false,[]⟩),
 (138,⟨.other,1,8,[.any],[.raw (Go.Value.nilFunc)],false,false,[]⟩),
 (139,⟨(.array 20 127 1),20,160,[.int .u64, .int .u64, .int .u64, .int .u64, .int .u64, .int .u64, .int .u64, .int .u64, .int .u64, .int .u64, .int .u64, .int .u64, .int .u64, .int .u64, .int .u64, .int .u64, .int .u64, .int .u64, .int .u64, .int .u64],[.int .u64 0, .int .u64 0, .int .u64 0, .int .u64 0, .int .u64 0, .int .u64 0, .int .u64 0, .int .u64 0, .int .u64 0, .int .u64 0, .int .u64 0, .int .u64 0, .int .u64 0, .int .u64 0, .int .u64 0, .int .u64 0, .int .u64 0, .int .u64 0, .int .u64 0, .int .u64 0],true,false,[]⟩),
 (140,⟨(.int .u32),1,4,[.int .u32],[.int .u32 0],false,false,[]⟩),
 (141,⟨(.array 65 5 1),65,65,[.int .u8, .int .u8, .int .u8, .int .u8, .int .u8, .int .u8, .int .u8, .int .u8, .int .u8, .int .u8, .int .u8, .int .u8, .int .u8, .int .u8, .int .u8, .int .u8, .int .u8, .int .u8, .int .u8, .int .u8, .int .u8, .int .u8, .int .u8, .int .u8, .int .u8, .int .u8, .int .u8, .int .u8, .int .u8, .int .u8, .int .u8, .int .u8, .int .u8, .int .u8, .int .u8, .int .u8, .int .u8, .int .u8, .int .u8, .int .u8, .int .u8, .int .u8, .int .u8, .int .u8, .int .u8, .int .u8, .int .u8, .int .u8, .int .u8, .int .u8, .int .u8, .int .u8, .int .u8, .int .u8, .int .u8, .int .u8, .int .u8, .int .u8, .int .u8, .int .u8, .int .u8, .int .u8, .int .u8, .int .u8, .int .u8],[.int .u8 0, .int .u8 0, .int .u8 0, .int .u8 0, .int .u8 0, .int .u8 0, .int .u8 0, .int .u8 0, .int .u8 0, .int .u8 0, .int .u8 0, .int .u8 0, .int .u8 0, .int .u8 0, .int .u8 0, .int .u8 0, .int .u8 0, .int .u8 0, .int .u8 0, .int .u8 0, .int .u8 0, .int .u8 0, .int .u8 0, .int .u8 0, .int .u8 0, .int .u8 0, .int .u8 0, .int .u8 0, .int .u8 0, .int .u8 0, .int .u8 0, .int .u8 0, .int .u8 0, .int .u8 0, .int .u8 0, .int .u8 0, .int .u8 0, .int .u8 0, .int .u8 0, .int .u8 0, .int .u8 0, .int .u8 0, .int .u8 0, .int .u8 0, .int .u8 0, .int .u8 0, .int .u8 0, .int .u8 0, .int .u8 0, .int .u8 0, .int .u8 0, .int .u8 0, .int .u8 0, .int .u8 0, .int .u8 0, .int .u8 0, .int .u8 0, .int .u8 0, .int .u8 0, .int .u8 0, .int .u8 0, .int .u8 0, .int .u8 0, .int .u8 0, .int .u8 0],true,false,[]⟩),
 (142,⟨.other,1,8,[.any],[.raw (Go.Value.nilFunc)],false,false,[]⟩),
 (143,⟨.other,1,8,[.any],[.raw (Go.Value.nilFunc)],false,false,[]⟩),
 (144,⟨.other,1,8,[.any],[.raw (Go.Value.nilFunc)],false,false,[]⟩),
 (145,⟨.other,1,8,[.any],[.raw (Go.Value.nilFunc)],false,false,[]⟩),
 (146,⟨(.array 32 5 1),32,32,[.int .u8, .int .u8, .int .u8, .int .u8, .int .u8, .int .u8, .int .u8, .int .u8, .int .u8, .int .u8, .int .u8, .int .u8, .int .u8, .int .u8, .int .u8, .int .u8, .int .u8, .int .u8, .int .u8, .int .u8, .int .u8, .int .u8, .int .u8, .int .u8, .int .u8, .int .u8, .int .u8, .int .u8, .int .u8, .int .u8, .int .u8, .int .u8],[.int .u8 0, .int .u8 0, .int .u8 0, .int .u8 0, .int .u8 0, .int .u8 0, .int .u8 0, .int .u8 0, .int .u8 0, .int .u8 0, .int .u8 0, .int .u8 0, .int .u8 0, .int .u8 0, .int .u8 0, .int .u8 0, .int .u8 0, .int .u8 0, .int .u8 0, .int .u8 0, .int .u8 0, .int .u8 0, .int .u8 0, .int .u8 0, .int .u8 0, .int .u8 0, .int .u8 0, .int .u8 0, .int .u8 0, .int .u8 0, .int .u8 0, .int .u8 0],true,false,[]⟩),
 (147,⟨(.array 64 5 1),64,64,[.int .u8, .int .u8, .int .u8, .int .u8, .int .u8, .int .u8, .int .u8, .int .u8, .int .u8, .int .u8, .int .u8, .int .u8, .int .u8, .int .u8, .int .u8, .int .u8, .int .u8, .int .u8, .int .u8, .int .u8, .int .u8, .int .u8, .int .u8, .int .u8, .int .u8, .int .u8, .int .u8, .int .u8, .int .u8, .int .u8, .int .u8, .int .u8, .int .u8, .int .u8, .int .u8, .int .u8, .int .u8, .int .u8, .int .u8, .int .u8, .int .u8, .int .u8, .int .u8, .int .u8, .int .u8, .int .u8, .int .u8, .int .u8, .int .u8, .int .u8, .int .u8, .int .u8, .int .u8, .int .u8, .int .u8, .int .u8, .int .u8, .int .u8, .int .u8, .int .u8, .int .u8, .int .u8, .int .u8, .int .u8],[.int .u8 0, .int .u8 0, .int .u8 0, .int .u8 0, .int .u8 0, .int .u8 0, .int .u8 0, .int .u8 0, .int .u8 0, .int .u8 0, .int .u8 0, .int .u8 0, .int .u8 0, .int .u8 0, .int .u8 0, .int .u8 0, .int .u8 0, .int .u8 0, .int .u8 0, .int .u8 0, .int .u8 0, .int .u8 0, .int .u8 0, .int .u8 0, .int .u8 0, .int .u8 0, .int .u8 0, .int .u8 0, .int .u8 0, .int .u8 0, .int .u8 0, .int .u8 0, .int .u8 0, .int .u8 0, .int .u8 0, .int .u8 0, .int .u8 0, .int .u8 0, .int .u8 0, .int .u8 0, .int .u8 0, .int .u8 0, .int .u8 0, .int .u8 0, .int .u8 0, .int .u8 0, .int .u8 0, .int .u8 0, .int .u8 0, .int .u8 0, .int .u8 0, .int .u8 0, .int .u8 0, .int .u8 0, .int .u8 0, .int .u8 0, .int .u8 0, .int .u8 0, .int .u8 0, .int .u8 0, .int .u8 0, .int .u8 0, .int .u8 0, .int .u8 0],true,false,[]⟩),
 (148,⟨(.tuple [140,140]),1,0,[.any],[.raw (Go.Value.tuple #[Go.Value.int .u32 (0:Int),Go.Value.int .u32 (0:Int)])],false,false,[]⟩),
 (149,⟨.other,1,8,[.any],[.raw (Go.Value.nilFunc)],false,false,[]⟩),
 (150,⟨(.struct [(0,1),(1,1),(2,1),(3,1)]),4,40,[.any, .any, .any, .str],[.raw (Go.Value.pointer none), .raw (Go.Value.pointer none), .raw (Go.Value.pointer none), .str []],true,false,[17,17,17,9]⟩),
 (151,⟨(.struct [(0,1),(1,1),(2,1),(3,1)]),4,40,[.any, .any, .any, .str],[.raw (Go.Value.pointer none), .raw (Go.Value.pointer none), .raw (Go.Value.pointer none), .str []],true,false,[17,17,17,9]⟩),
 (152,⟨(.array 0 16 1),0,0,[],[],true,false,[]⟩),
 (153,⟨(.struct [(0,0)]),0,0,[],[],true,false,[152]⟩),
 (154,⟨(.struct [(0,0)]),0,0,[],[],true,false,[152]⟩),
 (155,⟨(.int .u8),1,1,[.int .u8],[.int .u8 0],false,false,[]⟩),
 (156,⟨(.int .u8),1,1,[.int .u8],[.int .u8 0],false,false,[]⟩),
 (157,⟨.other,1,8,[.any],[.raw (Go.Value.nilFunc)],false,false,[]⟩),
 (158,⟨(.int .i32),1,4,[.int .i32],[.int .i32 0],false,false,[]⟩),
 (159,⟨(.int .i32),1,4,[.int .i32],[.int .i32 0],false,false,[]⟩),
 (160,⟨(.struct [(0,1),(1,1),(2,1),(3,1),(4,1),(5,1),(6,1),(7,1),(8,1),(9,1),(10,1)]),11,48,[.int .u64, .int .u64, .int .u32, .int .u8, .int .u8, .int .u8, .int .u8, .any, .any, .int .i32, .int .i32],[.int .u64 0, .int .u64 0, .int .u32 0, .int .u8 0, .int .u8 0, .int .u8 0, .int .u8 0, .raw (Go.Value.nilFunc), .raw (Go.Value.pointer none), .int .i32 0, .int .i32 0],true,false,[12,12,140,155,5,5,156,157,107,158,159]⟩),
 (161,⟨(.struct [(0,1),(1,1),(2,1),(3,1),(4,1),(5,1),(6,1),(7,1),(8,1),(9,1),(10,1)]),11,48,[.int .u64, .int .u64, .int .u32, .int .u8, .int .u8, .int .u8, .int .u8, .any, .any, .int .i32, .int .i32],[.int .u64 0, .int .u64 0, .int .u32 0, .int .u8 0, .int .u8 0, .int .u8 0, .int .u8 0, .raw (Go.Value.nilFunc), .raw (Go.Value.pointer none), .int .i32 0, .int .i32 0],true,false,[12,12,140,155,5,5,156,157,107,158,159]⟩)]
abbrev Ado:Nat:=4
abbrev Co:Nat:=6
abbrev Acz:Nat:=7
abbrev J7:Nat:=8
abbrev U0:Nat:=9
abbrev Dc:Nat:=10
abbrev Gh:Nat:=11
abbrev U1:Nat:=12
abbrev P6:Nat:=16
abbrev Ru:Nat:=18
abbrev Il:Nat:=19
abbrev Zp:Nat:=20
abbrev R9:Nat:=21
abbrev P5:Nat:=22
abbrev Ac0:Nat:=23
abbrev Rq:Nat:=24
abbrev Wy:Nat:=25
abbrev Aa0:Nat:=26
abbrev Sy:Nat:=27
abbrev Zq:Nat:=28
abbrev Acy:Nat:=29
abbrev O4:Nat:=30
abbrev F9:Nat:=32
abbrev O3:Nat:=33
abbrev Acx:Nat:=34
abbrev Q7:Nat:=36
abbrev Q6:Nat:=37
abbrev Q8:Nat:=38
abbrev Js:Nat:=39
abbrev Ah:Nat:=40
abbrev Pv:Nat:=41
abbrev Lh:Nat:=42
abbrev Cb:Nat:=43
abbrev Afw:Nat:=44
abbrev Ua:Nat:=45
abbrev Agx:Nat:=46
abbrev Wz:Nat:=48
abbrev Lg:Nat:=49
abbrev Mg:Nat:=50
abbrev Aaz:Nat:=52
abbrev Agy:Nat:=53
abbrev Rs:Nat:=54
abbrev Nv:Nat:=55
abbrev Px:Nat:=57
abbrev Py:Nat:=58
abbrev Q9:Nat:=60
abbrev Pz:Nat:=61
abbrev Lv:Nat:=63
abbrev R8:Nat:=64
abbrev J9:Nat:=65
abbrev Nc:Nat:=66
abbrev Ra:Nat:=67
abbrev Zo:Nat:=68
abbrev Zn:Nat:=69
abbrev Pw:Nat:=71
abbrev Sw:Nat:=74
abbrev G8:Nat:=76
abbrev Jv:Nat:=78
abbrev D9:Nat:=79
abbrev T9:Nat:=80
abbrev Zm:Nat:=81
abbrev Ew:Nat:=82
abbrev Dx:Nat:=83
abbrev Ea:Nat:=88
abbrev M0:Nat:=89
abbrev Zl:Nat:=90
abbrev J8:Nat:=91
abbrev Aai:Nat:=98
abbrev Zk:Nat:=99
abbrev Ej:Nat:=101
abbrev Oj:Nat:=108
abbrev Ao0:Nat:=109
abbrev Wo:Nat:=3
abbrev Ak:Nat:=5
abbrev Ov:Nat:=9
abbrev Ae:Nat:=25
abbrev Aq:Nat:=42
abbrev Ap:Nat:=46
abbrev Asj:Nat:=51
abbrev Ao:Nat:=53
abbrev Bi:Nat:=56
abbrev Aa:Nat:=70
abbrev Bj:Nat:=83
noncomputable def ai_digits_taker:AC:=(Bf [] [2] (codeOf Tryz.f100) 0).1
noncomputable def ai_digits_taker_1:AC:=(Bf [] [2] (codeOf Tryz.f109) 0).1
noncomputable def ai_strings_Builder_WriteString:AC:=(Bf [] [4,5] (codeOf Tryz.f73) 0).1
noncomputable def ai_strings_Builder_WriteByte:AC:=(Bf [] [4] (codeOf Tryz.f47) 0).1
noncomputable def ai_strings_Builder_String:AC:=(Bf [] [2] (codeOf Tryz.f51) 0).1
noncomputable def ai_parse_none:AC:=(Bf [] [2,3] (codeOf Tryz.f17) 0).1
noncomputable def ai_token_bad:AC:=(Bf [] [2,3] (codeOf Tryz.f31) 0).1
noncomputable def ai_token_scanner_told:AC:=(Bf [] [4,5] (codeOf Tryz.f77) 0).1
noncomputable def ai_token_scanner_more:AC:=(Bf [] [2,3] (codeOf Tryz.f75) 0).1
noncomputable def ai_token_scanner_sign:AC:=(Bf [] [6,7] (codeOf Tryz.f56) 0).1
noncomputable def ai_token_scanner_twice:AC:=(Bf [] [2] (codeOf Tryz.f59) 0).1
noncomputable def ai_token_scanner_hex_1:AC:=(Bf [] [] (codeOf Tryz.f79) 0).1
noncomputable def ai_parse_reader_inside:AC:=(Bf [] [4,5] (codeOf Tryz.f35) 0).1
noncomputable def ai_parse_cursor_peek:AC:=(Bf [] [2,3] (codeOf Tryz.f62) 0).1
noncomputable def A53:List (Nat × AC × Nat × List ResultVar):=[(100,ai_digits_taker,5,[.tmp 2]),(109,ai_digits_taker_1,23,[.tmp 2]),(73,ai_strings_Builder_WriteString,19,[.tmp 4, .tmp 5]),(47,ai_strings_Builder_WriteByte,17,[.tmp 4]),(51,ai_strings_Builder_String,14,[.tmp 2]),(17,ai_parse_none,6,[.cell 2 25, .tmp 3]),(31,ai_token_bad,6,[.cell 2 46, .tmp 3]),(77,ai_token_scanner_told,13,[.cell 4 46, .tmp 5]),(75,ai_token_scanner_more,23,[.tmp 2, .tmp 3]),(56,ai_token_scanner_sign,18,[.cell 6 46, .tmp 7]),(59,ai_token_scanner_twice,36,[.tmp 2]),(79,ai_token_scanner_hex_1,37,[]),(35,ai_parse_reader_inside,37,[.cell 4 25, .tmp 5]),(62,ai_parse_cursor_peek,15,[.cell 2 46, .tmp 3])]
def wr0:List (Nat × Nat):=[(39,1),(65,1),(82,1),(83,1),(91,1),(101,1),(42,1),(38,2),(88,4)]
def A1s:List (Nat × Nat):=[(71,83)]
noncomputable def E0:Env:=⟨Tryz.prog,TT0,0,A05 A53,A06 A1s,Bbg wr0⟩
end Go.Proofs.Sim.Se
