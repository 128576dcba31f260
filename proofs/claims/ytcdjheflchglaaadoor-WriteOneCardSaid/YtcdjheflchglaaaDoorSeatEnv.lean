import Derived.Test.YtcdjheflchglaaaDoorSimC
import Derived.Test.YtcdjheflchglaaaDoorProg
set_option maxRecDepth 100000
namespace Go.Proofs.Sim.Se
open Go Go.Proofs Go.Proofs.Sim
noncomputable def TT0:TT:=[(0,⟨(.tuple []),1,0,[.any],[.raw (Go.Value.tuple #[])],false,false,[]⟩),
 (1,⟨.other,1,8,[.any],[.raw (Go.Value.nilFunc)],false,false,[]⟩),
 (2,⟨(.int .i64),1,8,[.int .i64],[.int .i64 0],false,false,[]⟩),
 (3,⟨(.int .i64),1,8,[.int .i64],[.int .i64 0],false,false,[]⟩),
 (4,⟨.bool,1,1,[.bool],[.bool false],false,false,[]⟩),
 (5,⟨(.int .u8),1,1,[.int .u8],[.int .u8 0],false,false,[]⟩),
 (6,⟨(.int .u8),1,1,[.int .u8],[.int .u8 0],false,false,[]⟩),
 (7,⟨(.struct [(0,1),(1,1),(2,1),(3,1)]),4,24,[.int .i64, .int .i64, .bool, .int .u8],[.int .i64 0, .int .i64 0, .bool false, .int .u8 0],true,true,[2,3,4,6]⟩),
 (8,⟨(.struct [(0,1),(1,1),(2,1),(3,1)]),4,24,[.int .i64, .int .i64, .bool, .int .u8],[.int .i64 0, .int .i64 0, .bool false, .int .u8 0],true,true,[2,3,4,6]⟩),
 (9,⟨.str,1,16,[.str],[.str []],false,false,[]⟩),
 (10,⟨.str,1,16,[.str],[.str []],false,false,[]⟩),
 (11,⟨.str,1,16,[.str],[.str []],false,false,[]⟩),
 (12,⟨(.int .u64),1,8,[.int .u64],[.int .u64 0],false,false,[]⟩),
 (13,⟨(.struct [(0,1),(1,1)]),2,24,[.str, .int .u64],[.str [], .int .u64 0],true,false,[9,12]⟩),
 (14,⟨(.struct [(0,1),(1,1)]),2,24,[.str, .int .u64],[.str [], .int .u64 0],true,false,[9,12]⟩),
 (15,⟨(.pointer 182),1,8,[.any],[.raw (Go.Value.pointer none)],false,false,[]⟩),
 (16,⟨(.pointer 185),1,8,[.any],[.raw (Go.Value.pointer none)],false,false,[]⟩),
 (17,⟨(.pointer 192),1,8,[.any],[.raw (Go.Value.pointer none)],false,false,[]⟩),
 (18,⟨(.struct [(0,1)]),1,8,[.any],[.raw (Go.Value.pointer none)],true,false,[17]⟩),
 (19,⟨(.struct [(0,1)]),1,8,[.any],[.raw (Go.Value.pointer none)],true,false,[17]⟩),
 (20,⟨.iface,1,16,[.ifc],[.ifc true],false,false,[]⟩),
 (21,⟨(.int .i32),1,4,[.int .i32],[.int .i32 0],false,false,[]⟩),
 (22,⟨(.slice 53 4 32 [.int .i64, .int .i64, .int .i64, .int .i64]),1,24,[.sl 4 53],[.sl .nil 4 []],false,false,[]⟩),
 (23,⟨.other,1,8,[.any],[.raw (Go.Value.nilFunc)],false,false,[]⟩),
 (24,⟨(.int .i64),1,8,[.int .i64],[.int .i64 0],false,false,[]⟩),
 (25,⟨(.tuple [9,24]),1,0,[.any],[.raw (Go.Value.tuple #[Go.Value.string { data:= #[] },Go.Value.int .i64 (0:Int)])],false,false,[]⟩),
 (26,⟨.other,1,8,[.any],[.raw (Go.Value.nilFunc)],false,false,[]⟩),
 (27,⟨(.slice 56 7 104 [.str, .int .i64, .int .i64, .int .i64, .str, .sl 6 39, .sl 7 56]),1,24,[.sl 7 56],[.sl .nil 7 []],false,false,[]⟩),
 (28,⟨(.tuple [27,9,24]),1,0,[.any],[.raw (Go.Value.tuple
 #[Go.Value.slice none (0:Nat) (0:Nat),Go.Value.string { data:= #[] },Go.Value.int .i64 (0:Int)])],false,false,[]⟩),
 (29,⟨.other,1,8,[.any],[.raw (Go.Value.nilFunc)],false,false,[]⟩),
 (30,⟨.other,1,8,[.any],[.raw (Go.Value.nilFunc)],false,false,[]⟩),
 (31,⟨(.tuple [22,3,24]),1,0,[.any],[.raw (Go.Value.tuple
 #[Go.Value.slice none (0:Nat) (0:Nat),Go.Value.int .i64 (0:Int),
   Go.Value.int .i64 (0:Int)])],false,false,[]⟩),
 (32,⟨.other,1,8,[.any],[.raw (Go.Value.nilFunc)],false,false,[]⟩),
 (33,⟨(.tuple [22,24]),1,0,[.any],[.raw (Go.Value.tuple #[Go.Value.slice none (0:Nat) (0:Nat),Go.Value.int .i64 (0:Int)])],false,false,[]⟩),
 (34,⟨.other,1,8,[.any],[.raw (Go.Value.nilFunc)],false,false,[]⟩),
 (35,⟨.other,1,8,[.any],[.raw (Go.Value.nilFunc)],false,false,[]⟩),
 (36,⟨.other,1,8,[.any],[.raw (Go.Value.nilFunc)],false,false,[]⟩),
 (37,⟨(.slice 39 6 88 [.int .i64, .int .i64, .int .i64, .str, .sl 6 39, .sl 7 56]),1,24,[.sl 6 39],[.sl .nil 6 []],false,false,[]⟩),
 (38,⟨(.struct [(0,1),(1,1),(2,1),(3,1),(4,1),(5,1)]),6,88,[.int .i64, .int .i64, .int .i64, .str, .sl 6 39, .sl 7 56],[.int .i64 0, .int .i64 0, .int .i64 0, .str [], .sl .nil 6 [], .sl .nil 7 []],true,false,[3,3,3,9,37,27]⟩),
 (39,⟨(.struct [(0,1),(1,1),(2,1),(3,1),(4,1),(5,1)]),6,88,[.int .i64, .int .i64, .int .i64, .str, .sl 6 39, .sl 7 56],[.int .i64 0, .int .i64 0, .int .i64 0, .str [], .sl .nil 6 [], .sl .nil 7 []],true,false,[3,3,3,9,37,27]⟩),
 (40,⟨.other,1,8,[.any],[.raw (Go.Value.nilFunc)],false,false,[]⟩),
 (41,⟨.other,1,8,[.any],[.raw (Go.Value.nilFunc)],false,false,[]⟩),
 (42,⟨(.tuple [9,3]),1,0,[.any],[.raw (Go.Value.tuple #[Go.Value.string { data:= #[] },Go.Value.int .i64 (0:Int)])],false,false,[]⟩),
 (43,⟨.other,1,8,[.any],[.raw (Go.Value.nilFunc)],false,false,[]⟩),
 (44,⟨.other,1,8,[.any],[.raw (Go.Value.nilFunc)],false,false,[]⟩),
 (45,⟨.other,1,8,[.any],[.raw (Go.Value.nilFunc)],false,false,[]⟩),
 (46,⟨.other,1,8,[.any],[.raw (Go.Value.nilFunc)],false,false,[]⟩),
 (47,⟨.other,1,8,[.any],[.raw (Go.Value.nilFunc)],false,false,[]⟩),
 (48,⟨.other,1,8,[.any],[.raw (Go.Value.nilFunc)],false,false,[]⟩),
 (49,⟨.other,1,8,[.any],[.raw (Go.Value.nilFunc)],false,false,[]⟩),
 (50,⟨(.struct [(0,1),(1,1),(2,1)]),3,24,[.int .i64, .int .i64, .int .i64],[.int .i64 0, .int .i64 0, .int .i64 0],true,true,[3,3,3]⟩),
 (51,⟨(.struct [(0,1),(1,1),(2,1)]),3,24,[.int .i64, .int .i64, .int .i64],[.int .i64 0, .int .i64 0, .int .i64 0],true,true,[3,3,3]⟩),
 (52,⟨(.struct [(0,1),(1,3)]),4,32,[.int .i64, .int .i64, .int .i64, .int .i64],[.int .i64 0, .int .i64 0, .int .i64 0, .int .i64 0],true,true,[3,51]⟩),
 (53,⟨(.struct [(0,1),(1,3)]),4,32,[.int .i64, .int .i64, .int .i64, .int .i64],[.int .i64 0, .int .i64 0, .int .i64 0, .int .i64 0],true,true,[3,51]⟩),
 (54,⟨.other,1,8,[.any],[.raw (Go.Value.nilFunc)],false,false,[]⟩),
 (55,⟨(.struct [(0,1),(1,6)]),7,104,[.str, .int .i64, .int .i64, .int .i64, .str, .sl 6 39, .sl 7 56],[.str [], .int .i64 0, .int .i64 0, .int .i64 0, .str [], .sl .nil 6 [], .sl .nil 7 []],true,false,[9,39]⟩),
 (56,⟨(.struct [(0,1),(1,6)]),7,104,[.str, .int .i64, .int .i64, .int .i64, .str, .sl 6 39, .sl 7 56],[.str [], .int .i64 0, .int .i64 0, .int .i64 0, .str [], .sl .nil 6 [], .sl .nil 7 []],true,false,[9,39]⟩),
 (57,⟨.other,1,8,[.any],[.raw (Go.Value.nilFunc)],false,false,[]⟩),
 (58,⟨.other,1,8,[.any],[.raw (Go.Value.nilFunc)],false,false,[]⟩),
 (59,⟨.other,1,8,[.any],[.raw (Go.Value.nilFunc)],false,false,[]⟩),
 (60,⟨(.pointer 63),1,8,[.any],[.raw (Go.Value.pointer none)],false,false,[]⟩),
 (61,⟨(.slice 5 1 1 [.int .u8]),1,24,[.sl 1 5],[.sl .nil 1 []],false,false,[]⟩),
 (62,⟨(.struct [(0,1),(1,1)]),2,32,[.any, .sl 1 5],[.raw (Go.Value.pointer none), .sl .nil 1 []],true,false,[60,61]⟩),
 (63,⟨(.struct [(0,1),(1,1)]),2,32,[.any, .sl 1 5],[.raw (Go.Value.pointer none), .sl .nil 1 []],true,false,[60,61]⟩),
 (64,⟨.iface,1,16,[.ifc],[.ifc true],false,false,[]⟩),
 (65,⟨.iface,1,16,[.ifc],[.ifc true],false,false,[]⟩),
 (66,⟨(.tuple [3,65]),1,0,[.any],[.raw (Go.Value.tuple #[Go.Value.int .i64 (0:Int),Go.Value.nilIface])],false,false,[]⟩),
 (67,⟨.other,1,8,[.any],[.raw (Go.Value.nilFunc)],false,false,[]⟩),
 (68,⟨.other,1,8,[.any],[.raw (Go.Value.nilFunc)],false,false,[]⟩),
 (69,⟨.other,1,8,[.any],[.raw (Go.Value.nilFunc)],false,false,[]⟩),
 (70,⟨.other,1,8,[.any],[.raw (Go.Value.nilFunc)],false,false,[]⟩),
 (71,⟨.other,1,8,[.any],[.raw (Go.Value.nilFunc)],false,false,[]⟩),
 (72,⟨(.slice 3 1 8 [.int .i64]),1,24,[.sl 1 3],[.sl .nil 1 []],false,false,[]⟩),
 (73,⟨.other,1,8,[.any],[.raw (Go.Value.nilFunc)],false,false,[]⟩),
 (74,⟨.other,1,8,[.any],[.raw (Go.Value.nilFunc)],false,false,[]⟩),
 (75,⟨(.tuple [74,71]),1,0,[.any],[.raw (Go.Value.tuple #[Go.Value.nilFunc,Go.Value.nilFunc])],false,false,[]⟩),
 (76,⟨.other,1,8,[.any],[.raw (Go.Value.nilFunc)],false,false,[]⟩),
 (77,⟨.other,1,8,[.any],[.raw (Go.Value.nilFunc)],false,false,[]⟩),
 (78,⟨.other,1,8,[.any],[.raw (Go.Value.nilFunc)],false,false,[]⟩),
 (79,⟨(.pointer 81),1,8,[.any],[.raw (Go.Value.pointer none)],false,false,[]⟩),
 (80,⟨(.struct [(0,1),(1,1)]),2,24,[.str, .int .i64],[.str [], .int .i64 0],true,true,[9,3]⟩),
 (81,⟨(.struct [(0,1),(1,1)]),2,24,[.str, .int .i64],[.str [], .int .i64 0],true,true,[9,3]⟩),
 (82,⟨.other,1,8,[.any],[.raw (Go.Value.nilFunc)],false,false,[]⟩),
 (83,⟨.other,1,8,[.any],[.raw (Go.Value.nilFunc)],false,false,[]⟩),
 (84,⟨(.tuple [72,3]),1,0,[.any],[.raw (Go.Value.tuple #[Go.Value.slice none (0:Nat) (0:Nat),Go.Value.int .i64 (0:Int)])],false,false,[]⟩),
 (85,⟨.other,1,8,[.any],[.raw (Go.Value.nilFunc)],false,false,[]⟩),
 (86,⟨(.tuple [72,4]),1,0,[.any],[.raw (Go.Value.tuple #[Go.Value.slice none (0:Nat) (0:Nat),Go.Value.bool false])],false,false,[]⟩),
 (87,⟨.other,1,8,[.any],[.raw (Go.Value.nilFunc)],false,false,[]⟩),
 (88,⟨.other,1,8,[.any],[.raw (Go.Value.nilFunc)],false,false,[]⟩),
 (89,⟨(.tuple [72,24]),1,0,[.any],[.raw (Go.Value.tuple #[Go.Value.slice none (0:Nat) (0:Nat),Go.Value.int .i64 (0:Int)])],false,false,[]⟩),
 (90,⟨.other,1,8,[.any],[.raw (Go.Value.nilFunc)],false,false,[]⟩),
 (91,⟨.other,1,8,[.any],[.raw (Go.Value.nilFunc)],false,false,[]⟩),
 (92,⟨.other,1,8,[.any],[.raw (Go.Value.nilFunc)],false,false,[]⟩),
 (93,⟨.other,1,8,[.any],[.raw (Go.Value.nilFunc)],false,false,[]⟩),
 (94,⟨.other,1,8,[.any],[.raw (Go.Value.nilFunc)],false,false,[]⟩),
 (95,⟨.other,1,8,[.any],[.raw (Go.Value.nilFunc)],false,false,[]⟩),
 (96,⟨.other,1,8,[.any],[.raw (Go.Value.nilFunc)],false,false,[]⟩),
 (97,⟨.other,1,8,[.any],[.raw (Go.Value.nilFunc)],false,false,[]⟩),
 (98,⟨(.int .u64),1,8,[.int .u64],[.int .u64 0],false,false,[]⟩),
 (99,⟨.other,1,8,[.any],[.raw (Go.Value.nilFunc)],false,false,[]⟩),
 (100,⟨(.struct [(0,1),(1,1),(2,1),(3,1),(4,1)]),5,5,[.bool, .bool, .bool, .bool, .bool],[.bool false, .bool false, .bool false, .bool false, .bool false],true,true,[4,4,4,4,4]⟩),
 (101,⟨(.struct [(0,1),(1,1),(2,1),(3,1),(4,1)]),5,5,[.bool, .bool, .bool, .bool, .bool],[.bool false, .bool false, .bool false, .bool false, .bool false],true,true,[4,4,4,4,4]⟩),
 (102,⟨(.tuple [101,4]),1,0,[.any],[.raw (Go.Value.tuple
 #[Go.Value.agg
     #[Go.Value.bool false,Go.Value.bool false,Go.Value.bool false,Go.Value.bool false,Go.Value.bool false],
   Go.Value.bool false])],false,false,[]⟩),
 (103,⟨.other,1,8,[.any],[.raw (Go.Value.nilFunc)],false,false,[]⟩),
 (104,⟨.other,1,8,[.any],[.raw (Go.Value.nilFunc)],false,false,[]⟩),
 (105,⟨.other,1,8,[.any],[.raw (Go.Value.nilFunc)],false,false,[]⟩),
 (106,⟨.other,1,8,[.any],[.raw (Go.Value.nilFunc)],false,false,[]⟩),
 (107,⟨.other,1,8,[.any],[.raw (Go.Value.nilFunc)],false,false,[]⟩),
 (108,⟨(.pointer 5),1,8,[.any],[.raw (Go.Value.pointer none)],false,false,[]⟩),
 (109,⟨(.array 8 5 1),8,8,[.int .u8, .int .u8, .int .u8, .int .u8, .int .u8, .int .u8, .int .u8, .int .u8],[.int .u8 0, .int .u8 0, .int .u8 0, .int .u8 0, .int .u8 0, .int .u8 0, .int .u8 0, .int .u8 0],true,false,[]⟩),
 (110,⟨.other,1,8,[.any],[.raw (Go.Value.nilFunc)],false,false,[]⟩),
 (111,⟨.other,1,8,[.any],[.raw (Go.Value.nilFunc)],false,false,[]⟩),
 (112,⟨.other,1,8,[.any],[.raw (Go.Value.nilFunc)],false,false,[]⟩),
 (113,⟨(.tuple [3,24]),1,0,[.any],[.raw (Go.Value.tuple #[Go.Value.int .i64 (0:Int),Go.Value.int .i64 (0:Int)])],false,false,[]⟩),
 (114,⟨.other,1,8,[.any],[.raw (Go.Value.nilFunc)],false,false,[]⟩),
 (115,⟨(.tuple [51,24]),1,0,[.any],[.raw (Go.Value.tuple
 #[Go.Value.agg
     #[Go.Value.int .i64 (0:Int),Go.Value.int .i64 (0:Int),
       Go.Value.int .i64 (0:Int)],
   Go.Value.int .i64 (0:Int)])],false,false,[]⟩),
 (116,⟨.other,1,8,[.any],[.raw (Go.Value.nilFunc)],false,false,[]⟩),
 (117,⟨.other,1,8,[.any],[.raw (Go.Value.nilFunc)],false,false,[]⟩),
 (118,⟨(.tuple [39,4]),1,0,[.any],[.raw (Go.Value.tuple
 #[Go.Value.agg
     #[Go.Value.int .i64 (0:Int),Go.Value.int .i64 (0:Int),
       Go.Value.int .i64 (0:Int),Go.Value.string { data:= #[] },Go.Value.slice none (0:Nat) (0:Nat),
       Go.Value.slice none (0:Nat) (0:Nat)],
   Go.Value.bool false])],false,false,[]⟩),
 (119,⟨.other,1,8,[.any],[.raw (Go.Value.nilFunc)],false,false,[]⟩),
 (120,⟨.other,1,8,[.any],[.raw (Go.Value.nilFunc)],false,false,[]⟩),
 (121,⟨(.tuple [3,4]),1,0,[.any],[.raw (Go.Value.tuple #[Go.Value.int .i64 (0:Int),Go.Value.bool false])],false,false,[]⟩),
 (122,⟨.other,1,8,[.any],[.raw (Go.Value.nilFunc)],false,false,[]⟩),
 (123,⟨.other,1,8,[.any],[.raw (Go.Value.nilFunc)],false,false,[]⟩),
 (124,⟨(.slice 9 1 16 [.str]),1,24,[.sl 1 9],[.sl .nil 1 []],false,false,[]⟩),
 (125,⟨.other,1,8,[.any],[.raw (Go.Value.nilFunc)],false,false,[]⟩),
 (126,⟨.other,1,8,[.any],[.raw (Go.Value.nilFunc)],false,false,[]⟩),
 (127,⟨.other,1,8,[.any],[.raw (Go.Value.nilFunc)],false,false,[]⟩),
 (128,⟨.other,1,8,[.any],[.raw (Go.Value.nilFunc)],false,false,[]⟩),
 (129,⟨.map,1,8,[.any],[.raw (Go.Value.map none)],false,false,[]⟩),
 (130,⟨.other,1,8,[.any],[.raw (Go.Value.nilFunc)],false,false,[]⟩),
 (131,⟨.other,1,8,[.any],[.raw (Go.Value.nilFunc)],false,false,[]⟩),
 (132,⟨.other,1,8,[.any],[.raw (Go.Value.nilFunc)],false,false,[]⟩),
 (133,⟨.other,1,8,[.any],[.raw (Go.Value.nilFunc)],false,false,[]⟩),
 (134,⟨.other,1,8,[.any],[.raw (Go.Value.nilFunc)],false,false,[]⟩),
 (135,⟨.other,1,8,[.any],[.raw (Go.Value.nilFunc)],false,false,[]⟩),
 (136,⟨.other,1,8,[.any],[.raw (Go.Value.nilFunc)],false,false,[]⟩),
 (137,⟨.other,1,8,[.any],[.raw (Go.Value.pointer none)],false,false,[]⟩),
 (138,⟨.other,1,8,[.any],[.raw (Go.Value.nilFunc)],false,false,[]⟩),
 (139,⟨.other,1,8,[.any],[.raw (Go.Value.nilFunc)],false,false,[]⟩),
 (140,⟨.other,1,8,[.any],[.raw (Go.Value.nilFunc)],false,false,[]⟩),
 (141,⟨(.int .u64),1,8,[.int .u64],[.int .u64 0],false,false,[]⟩),
 (142,⟨.other,1,8,[.any],[.raw (Go.Value.nilFunc)],false,false,[]⟩),
 (143,⟨(.struct [(0,1),(1,1),(2,1)]),3,40,[.int .i64, .str, .str],[.int .i64 0, .str [], .str []],true,true,[3,9,9]⟩),
 (144,⟨(.struct [(0,1),(1,1),(2,1)]),3,40,[.int .i64, .str, .str],[.int .i64 0, .str [], .str []],true,true,[3,9,9]⟩),
 (145,⟨(.array 3 144 3),9,120,[.int .i64, .str, .str, .int .i64, .str, .str, .int .i64, .str, .str],[.int .i64 0, .str [], .str [], .int .i64 0, .str [], .str [], .int .i64 0, .str [], .str []],true,false,[]⟩),
 (146,⟨.other,1,8,[.any],[.raw (Go.Value.nilFunc)],false,false,[]⟩),
 (147,⟨.other,1,8,[.any],[.raw (Go.Value.nilFunc)],false,false,[]⟩),
 (148,⟨.other,1,8,[.any],[.raw (Go.Value.nilFunc)],false,false,[]⟩),
 (149,⟨.other,1,8,[.any],[.raw (Go.Value.nilFunc)],false,false,[]⟩),
 (150,⟨.other,1,8,[.any],[.raw (Go.Value.nilFunc)],false,false,[]⟩),
 (151,⟨(.tuple [98,98]),1,0,[.any],[.raw (Go.Value.tuple #[Go.Value.int .u64 (0:Int),Go.Value.int .u64 (0:Int)])],false,false,[]⟩),
 (152,⟨.other,1,8,[.any],[.raw (Go.Value.nilFunc)],false,false,[]⟩),
 (153,⟨.other,1,8,[.any],[.raw (Go.Value.nilFunc)],false,false,[]⟩),
 (154,⟨.other,1,8,[.any],[.raw (Go.Value.nilFunc)],false,false,[]⟩),
 (155,⟨.other,1,8,[.any],[.raw (Go.Value.nilFunc)],false,false,[]⟩),
 (156,⟨.other,1,8,[.any],[.raw (Go.Value.nilFunc)],false,false,[]⟩),
 (157,⟨.other,1,8,[.any],[.raw (Go.Value.nilFunc)],false,false,[]⟩),
 (158,⟨.other,1,8,[.any],[.raw (Go.Value.nilFunc)],false,false,[]⟩),
 (159,⟨.other,1,8,[.any],[.raw (Go.Value.nilFunc)],false,false,[]⟩),
 (160,⟨(.int .u32),1,4,[.int .u32],[.int .u32 0],false,false,[]⟩),
 (161,⟨(.tuple [160,160]),1,0,[.any],[.raw (Go.Value.tuple #[Go.Value.int .u32 (0:Int),Go.Value.int .u32 (0:Int)])],false,false,[]⟩),
 (162,⟨.other,1,8,[.any],[.raw (Go.Value.nilFunc)],false,false,[]⟩),
 (163,⟨(.tuple [141,141]),1,0,[.any],[.raw (Go.Value.tuple #[Go.Value.int .u64 (0:Int),Go.Value.int .u64 (0:Int)])],false,false,[]⟩),
 (164,⟨.other,1,8,[.any],[.raw (Go.Value.nilFunc)],false,false,[]⟩),
 (165,⟨.other,1,8,[.any],[.raw (Go.Value.nilFunc)],false,false,[]⟩),
 (166,⟨.other,1,8,[.any],[.raw (Go.Value.nilFunc)],false,false,[]⟩),
 (167,⟨(.array 24 5 1),24,24,[.int .u8, .int .u8, .int .u8, .int .u8, .int .u8, .int .u8, .int .u8, .int .u8, .int .u8, .int .u8, .int .u8, .int .u8, .int .u8, .int .u8, .int .u8, .int .u8, .int .u8, .int .u8, .int .u8, .int .u8, .int .u8, .int .u8, .int .u8, .int .u8],[.int .u8 0, .int .u8 0, .int .u8 0, .int .u8 0, .int .u8 0, .int .u8 0, .int .u8 0, .int .u8 0, .int .u8 0, .int .u8 0, .int .u8 0, .int .u8 0, .int .u8 0, .int .u8 0, .int .u8 0, .int .u8 0, .int .u8 0, .int .u8 0, .int .u8 0, .int .u8 0, .int .u8 0, .int .u8 0, .int .u8 0, .int .u8 0],true,false,[]⟩),
 (168,⟨.other,1,8,[.any],[.raw (Go.Value.nilFunc)],false,false,[]⟩),
 (169,⟨.other,1,8,[.any],[.raw (Go.Value.nilFunc)],false,false,[]⟩),
 (170,⟨(.tuple [61,9]),1,0,[.any],[.raw (Go.Value.tuple #[Go.Value.slice none (0:Nat) (0:Nat),Go.Value.string { data:= #[] }])],false,false,[]⟩),
 (171,⟨.other,1,8,[.any],[.raw (Go.Value.nilFunc)],false,false,[]⟩),
 (172,⟨.other,1,8,[.any],[.raw (Go.Value.nilFunc)],false,false,[]⟩),
 (173,⟨.other,1,8,[.any],[.raw (Go.Value.nilFunc)],false,false,[]⟩),
 (174,⟨.other,1,8,[.any],[.raw (Go.Value.nilFunc)],false,false,[]⟩),
 (175,⟨(.array 20 141 1),20,160,[.int .u64, .int .u64, .int .u64, .int .u64, .int .u64, .int .u64, .int .u64, .int .u64, .int .u64, .int .u64, .int .u64, .int .u64, .int .u64, .int .u64, .int .u64, .int .u64, .int .u64, .int .u64, .int .u64, .int .u64],[.int .u64 0, .int .u64 0, .int .u64 0, .int .u64 0, .int .u64 0, .int .u64 0, .int .u64 0, .int .u64 0, .int .u64 0, .int .u64 0, .int .u64 0, .int .u64 0, .int .u64 0, .int .u64 0, .int .u64 0, .int .u64 0, .int .u64 0, .int .u64 0, .int .u64 0, .int .u64 0],true,false,[]⟩),
 (176,⟨(.array 65 5 1),65,65,[.int .u8, .int .u8, .int .u8, .int .u8, .int .u8, .int .u8, .int .u8, .int .u8, .int .u8, .int .u8, .int .u8, .int .u8, .int .u8, .int .u8, .int .u8, .int .u8, .int .u8, .int .u8, .int .u8, .int .u8, .int .u8, .int .u8, .int .u8, .int .u8, .int .u8, .int .u8, .int .u8, .int .u8, .int .u8, .int .u8, .int .u8, .int .u8, .int .u8, .int .u8, .int .u8, .int .u8, .int .u8, .int .u8, .int .u8, .int .u8, .int .u8, .int .u8, .int .u8, .int .u8, .int .u8, .int .u8, .int .u8, .int .u8, .int .u8, .int .u8, .int .u8, .int .u8, .int .u8, .int .u8, .int .u8, .int .u8, .int .u8, .int .u8, .int .u8, .int .u8, .int .u8, .int .u8, .int .u8, .int .u8, .int .u8],[.int .u8 0, .int .u8 0, .int .u8 0, .int .u8 0, .int .u8 0, .int .u8 0, .int .u8 0, .int .u8 0, .int .u8 0, .int .u8 0, .int .u8 0, .int .u8 0, .int .u8 0, .int .u8 0, .int .u8 0, .int .u8 0, .int .u8 0, .int .u8 0, .int .u8 0, .int .u8 0, .int .u8 0, .int .u8 0, .int .u8 0, .int .u8 0, .int .u8 0, .int .u8 0, .int .u8 0, .int .u8 0, .int .u8 0, .int .u8 0, .int .u8 0, .int .u8 0, .int .u8 0, .int .u8 0, .int .u8 0, .int .u8 0, .int .u8 0, .int .u8 0, .int .u8 0, .int .u8 0, .int .u8 0, .int .u8 0, .int .u8 0, .int .u8 0, .int .u8 0, .int .u8 0, .int .u8 0, .int .u8 0, .int .u8 0, .int .u8 0, .int .u8 0, .int .u8 0, .int .u8 0, .int .u8 0, .int .u8 0, .int .u8 0, .int .u8 0, .int .u8 0, .int .u8 0, .int .u8 0, .int .u8 0, .int .u8 0, .int .u8 0, .int .u8 0, .int .u8 0],true,false,[]⟩),
 (177,⟨.other,1,8,[.any],[.raw (Go.Value.nilFunc)],false,false,[]⟩),
 (178,⟨.other,1,8,[.any],[.raw (Go.Value.nilFunc)],false,false,[]⟩),
 (179,⟨(.array 32 5 1),32,32,[.int .u8, .int .u8, .int .u8, .int .u8, .int .u8, .int .u8, .int .u8, .int .u8, .int .u8, .int .u8, .int .u8, .int .u8, .int .u8, .int .u8, .int .u8, .int .u8, .int .u8, .int .u8, .int .u8, .int .u8, .int .u8, .int .u8, .int .u8, .int .u8, .int .u8, .int .u8, .int .u8, .int .u8, .int .u8, .int .u8, .int .u8, .int .u8],[.int .u8 0, .int .u8 0, .int .u8 0, .int .u8 0, .int .u8 0, .int .u8 0, .int .u8 0, .int .u8 0, .int .u8 0, .int .u8 0, .int .u8 0, .int .u8 0, .int .u8 0, .int .u8 0, .int .u8 0, .int .u8 0, .int .u8 0, .int .u8 0, .int .u8 0, .int .u8 0, .int .u8 0, .int .u8 0, .int .u8 0, .int .u8 0, .int .u8 0, .int .u8 0, .int .u8 0, .int .u8 0, .int .u8 0, .int .u8 0, .int .u8 0, .int .u8 0],true,false,[]⟩),
 (180,⟨(.array 64 5 1),64,64,[.int .u8, .int .u8, .int .u8, .int .u8, .int .u8, .int .u8, .int .u8, .int .u8, .int .u8, .int .u8, .int .u8, .int .u8, .int .u8, .int .u8, .int .u8, .int .u8, .int .u8, .int .u8, .int .u8, .int .u8, .int .u8, .int .u8, .int .u8, .int .u8, .int .u8, .int .u8, .int .u8, .int .u8, .int .u8, .int .u8, .int .u8, .int .u8, .int .u8, .int .u8, .int .u8, .int .u8, .int .u8, .int .u8, .int .u8, .int .u8, .int .u8, .int .u8, .int .u8, .int .u8, .int .u8, .int .u8, .int .u8, .int .u8, .int .u8, .int .u8, .int .u8, .int .u8, .int .u8, .int .u8, .int .u8, .int .u8, .int .u8, .int .u8, .int .u8, .int .u8, .int .u8, .int .u8, .int .u8, .int .u8],[.int .u8 0, .int .u8 0, .int .u8 0, .int .u8 0, .int .u8 0, .int .u8 0, .int .u8 0, .int .u8 0, .int .u8 0, .int .u8 0, .int .u8 0, .int .u8 0, .int .u8 0, .int .u8 0, .int .u8 0, .int .u8 0, .int .u8 0, .int .u8 0, .int .u8 0, .int .u8 0, .int .u8 0, .int .u8 0, .int .u8 0, .int .u8 0, .int .u8 0, .int .u8 0, .int .u8 0, .int .u8 0, .int .u8 0, .int .u8 0, .int .u8 0, .int .u8 0, .int .u8 0, .int .u8 0, .int .u8 0, .int .u8 0, .int .u8 0, .int .u8 0, .int .u8 0, .int .u8 0, .int .u8 0, .int .u8 0, .int .u8 0, .int .u8 0, .int .u8 0, .int .u8 0, .int .u8 0, .int .u8 0, .int .u8 0, .int .u8 0, .int .u8 0, .int .u8 0, .int .u8 0, .int .u8 0, .int .u8 0, .int .u8 0, .int .u8 0, .int .u8 0, .int .u8 0, .int .u8 0, .int .u8 0, .int .u8 0, .int .u8 0, .int .u8 0],true,false,[]⟩),
 (181,⟨(.struct [(0,1),(1,1),(2,1),(3,1)]),4,40,[.any, .any, .any, .str],[.raw (Go.Value.pointer none), .raw (Go.Value.pointer none), .raw (Go.Value.pointer none), .str []],true,false,[17,17,17,9]⟩),
 (182,⟨(.struct [(0,1),(1,1),(2,1),(3,1)]),4,40,[.any, .any, .any, .str],[.raw (Go.Value.pointer none), .raw (Go.Value.pointer none), .raw (Go.Value.pointer none), .str []],true,false,[17,17,17,9]⟩),
 (183,⟨(.array 0 16 1),0,0,[],[],true,false,[]⟩),
 (184,⟨(.struct [(0,0)]),0,0,[],[],true,false,[183]⟩),
 (185,⟨(.struct [(0,0)]),0,0,[],[],true,false,[183]⟩),
 (186,⟨(.int .u8),1,1,[.int .u8],[.int .u8 0],false,false,[]⟩),
 (187,⟨(.int .u8),1,1,[.int .u8],[.int .u8 0],false,false,[]⟩),
 (188,⟨.other,1,8,[.any],[.raw (Go.Value.nilFunc)],false,false,[]⟩),
 (189,⟨(.int .i32),1,4,[.int .i32],[.int .i32 0],false,false,[]⟩),
 (190,⟨(.int .i32),1,4,[.int .i32],[.int .i32 0],false,false,[]⟩),
 (191,⟨(.struct [(0,1),(1,1),(2,1),(3,1),(4,1),(5,1),(6,1),(7,1),(8,1),(9,1),(10,1)]),11,48,[.int .u64, .int .u64, .int .u32, .int .u8, .int .u8, .int .u8, .int .u8, .any, .any, .int .i32, .int .i32],[.int .u64 0, .int .u64 0, .int .u32 0, .int .u8 0, .int .u8 0, .int .u8 0, .int .u8 0, .raw (Go.Value.nilFunc), .raw (Go.Value.pointer none), .int .i32 0, .int .i32 0],true,false,[12,12,160,186,5,5,187,188,108,189,190]⟩),
 (192,⟨(.struct [(0,1),(1,1),(2,1),(3,1),(4,1),(5,1),(6,1),(7,1),(8,1),(9,1),(10,1)]),11,48,[.int .u64, .int .u64, .int .u32, .int .u8, .int .u8, .int .u8, .int .u8, .any, .any, .int .i32, .int .i32],[.int .u64 0, .int .u64 0, .int .u32 0, .int .u8 0, .int .u8 0, .int .u8 0, .int .u8 0, .raw (Go.Value.nilFunc), .raw (Go.Value.pointer none), .int .i32 0, .int .i32 0],true,false,[12,12,160,186,5,5,187,188,108,189,190]⟩)]
abbrev Aar:Nat:=6
abbrev Yg:Nat:=14
abbrev Ik:Nat:=15
abbrev Jl:Nat:=16
abbrev K8:Nat:=18
abbrev Qa:Nat:=20
abbrev Mq:Nat:=22
abbrev Jy:Nat:=23
abbrev Fx:Nat:=24
abbrev Xx:Nat:=25
abbrev Re:Nat:=47
abbrev Us:Nat:=48
abbrev Mm:Nat:=49
abbrev Ms:Nat:=50
abbrev Rn:Nat:=55
abbrev Xw:Nat:=56
abbrev J5:Nat:=57
abbrev Vt:Nat:=60
abbrev Mr:Nat:=61
abbrev Uv:Nat:=62
abbrev Ot:Nat:=63
abbrev Fy:Nat:=64
abbrev Od:Nat:=67
abbrev Mo:Nat:=68
abbrev Xy:Nat:=83
abbrev O4:Nat:=84
abbrev Uw:Nat:=85
abbrev Zt:Nat:=91
abbrev Pi:Nat:=92
abbrev Nt:Nat:=93
abbrev H8:Nat:=94
abbrev Ad:Nat:=95
abbrev Ml:Nat:=96
abbrev Jk:Nat:=97
abbrev Bh:Nat:=98
abbrev Gr:Nat:=99
abbrev H7:Nat:=100
abbrev Gi:Nat:=101
abbrev Aas:Nat:=102
abbrev Aat:Nat:=111
abbrev Nu:Nat:=115
abbrev Uu:Nat:=116
abbrev Ut:Nat:=117
abbrev Im:Nat:=118
abbrev Ko:Nat:=119
abbrev Dz:Nat:=131
abbrev Cv:Nat:=132
abbrev Il:Nat:=141
abbrev Dl:Nat:=147
abbrev Akx:Nat:=3
abbrev C9:Nat:=5
abbrev M8:Nat:=9
abbrev Ac:Nat:=39
abbrev Ak:Nat:=56
abbrev Az:Nat:=63
abbrev Ay:Nat:=101
noncomputable def ai_digits_taker:AC:=(Ba [] [2] (codeOf Tryd.f124) 0).1
noncomputable def ai_digits_taker_1:AC:=(Ba [] [2] (codeOf Tryd.f137) 0).1
noncomputable def ai_crossing_putter:AC:=(Ba [] [2,3] (codeOf Tryd.f36) 0).1
noncomputable def ai_crossing_putter_1:AC:=(Ba [] [] (codeOf Tryd.f72) 0).1
noncomputable def ai_crossing_putter_2:AC:=(Ba [] [1] (codeOf Tryd.f74) 0).1
noncomputable def ai_section_parts:AC:=(Ba [] [0] (codeOf Tryd.f32) 0).1
noncomputable def ai_section_parts_1:AC:=(Ba [] [3] (codeOf Tryd.f69) 0).1
noncomputable def ai_section_reader_left:AC:=(Ba [] [2] (codeOf Tryd.f42) 0).1
noncomputable def ai_strings_Builder_WriteString:AC:=(Ba [] [4,5] (codeOf Tryd.f31) 0).1
noncomputable def ai_strings_Builder_WriteByte:AC:=(Ba [] [4] (codeOf Tryd.f54) 0).1
noncomputable def ai_strings_Builder_String:AC:=(Ba [] [2] (codeOf Tryd.f34) 0).1
noncomputable def ai_strings_Builder_Len:AC:=(Ba [] [2] (codeOf Tryd.f123) 0).1
noncomputable def Axb:List (Nat × AC × Nat × List ResultVar):=[(124,ai_digits_taker,5,[.tmp 2]),(137,ai_digits_taker_1,23,[.tmp 2]),(36,ai_crossing_putter,9,[.tmp 2, .tmp 3]),(72,ai_crossing_putter_1,21,[]),(74,ai_crossing_putter_2,4,[.tmp 1]),(32,ai_section_parts,3,[.tmp 0]),(69,ai_section_parts_1,11,[.tmp 3]),(42,ai_section_reader_left,12,[.tmp 2]),(31,ai_strings_Builder_WriteString,19,[.tmp 4, .tmp 5]),(54,ai_strings_Builder_WriteByte,17,[.tmp 4]),(34,ai_strings_Builder_String,14,[.tmp 2]),(123,ai_strings_Builder_Len,8,[.tmp 2])]
def wr0:List (Nat × Nat):=[(94,1),(118,1),(131,1),(132,1),(141,1),(147,1),(97,1),(93,2),(46,2)]
def Atj:List (Nat × Nat):=[(68,63)]
noncomputable def E0:Env:=⟨Tryd.prog,TT0,0,Asw Axb,Asx Atj,A1h wr0⟩
end Go.Proofs.Sim.Se
