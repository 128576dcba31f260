import Derived.Test.YtcdjheflchglaaaSimC
import Derived.Test.YtcdjheflchglaaaProg
set_option maxRecDepth 100000
namespace Go.Proofs.Sim.Se
open Go Go.Proofs Go.Proofs.Sim
noncomputable def TT0:TT:=[(0,⟨(.tuple []),1,0,[.any],[.raw (Go.Value.tuple #[])],false,false,[]⟩),
 (1,⟨.other,1,8,[.any],[.raw (Go.Value.nilFunc)],false,false,[]⟩),
 (2,⟨(.int .i64),1,8,[.int .i64],[.int .i64 0],false,false,[]⟩),
 (3,⟨(.int .i64),1,8,[.int .i64],[.int .i64 0],false,false,[]⟩),
 (4,⟨.bool,1,1,[.bool],[.bool false],false,false,[]⟩),
 (5,⟨(.int .u8),1,1,[.int .u8],[.int .u8 0],false,false,[]⟩),
 (6,⟨(.int .u8),1,1,[.int .u8],[.int .u8 0],false,false,[]⟩),
 (7,⟨(.struct [(0,1),(1,1),(2,1),(3,1)]),4,24,[.int .i64, .int .i64, .bool, .int .u8],[.int .i64 0, .int .i64 0, .bool false, .int .u8 0],true,true,[2,3,4,6]⟩),
 (8,⟨(.struct [(0,1),(1,1),(2,1),(3,1)]),4,24,[.int .i64, .int .i64, .bool, .int .u8],[.int .i64 0, .int .i64 0, .bool false, .int .u8 0],true,true,[2,3,4,6]⟩),
 (9,⟨.str,1,16,[.str],[.str []],false,false,[]⟩),
 (10,⟨.str,1,16,[.str],[.str []],false,false,[]⟩),
 (11,⟨.str,1,16,[.str],[.str []],false,false,[]⟩),
 (12,⟨(.int .u64),1,8,[.int .u64],[.int .u64 0],false,false,[]⟩),
 (13,⟨(.struct [(0,1),(1,1)]),2,24,[.str, .int .u64],[.str [], .int .u64 0],true,false,[9,12]⟩),
 (14,⟨(.struct [(0,1),(1,1)]),2,24,[.str, .int .u64],[.str [], .int .u64 0],true,false,[9,12]⟩),
 (15,⟨(.pointer 181),1,8,[.any],[.raw (Go.Value.pointer none)],false,false,[]⟩),
 (16,⟨(.pointer 184),1,8,[.any],[.raw (Go.Value.pointer none)],false,false,[]⟩),
 (17,⟨(.pointer 192),1,8,[.any],[.raw (Go.Value.pointer none)],false,false,[]⟩),
 (18,⟨(.struct [(0,1)]),1,8,[.any],[.raw (Go.Value.pointer none)],true,false,[17]⟩),
 (19,⟨(.struct [(0,1)]),1,8,[.any],[.raw (Go.Value.pointer none)],true,false,[17]⟩),
 (20,⟨.iface,1,16,[.ifc],[.ifc true],false,false,[]⟩),
 (21,⟨(.int .i32),1,4,[.int .i32],[.int .i32 0],false,false,[]⟩),
 (22,⟨(.slice 61 4 32 [.int .i64, .int .i64, .int .i64, .int .i64]),1,24,[.sl 4 61],[.sl .nil 4 []],false,false,[]⟩),
 (23,⟨.other,1,8,[.any],[.raw (Go.Value.nilFunc)],false,false,[]⟩),
 (24,⟨(.slice 39 7 104 [.str, .int .i64, .int .i64, .int .i64, .str, .sl 6 37, .sl 7 39]),1,24,[.sl 7 39],[.sl .nil 7 []],false,false,[]⟩),
 (25,⟨(.int .i64),1,8,[.int .i64],[.int .i64 0],false,false,[]⟩),
 (26,⟨(.tuple [24,9,25]),1,0,[.any],[.raw (Go.Value.tuple
 #[Go.Value.slice none (0:Nat) (0:Nat),Go.Value.string { data:= #[] },Go.Value.int .i64 (0:Int)])],false,false,[]⟩),
 (27,⟨.other,1,8,[.any],[.raw (Go.Value.nilFunc)],false,false,[]⟩),
 (28,⟨(.tuple [24,9,3]),1,0,[.any],[.raw (Go.Value.tuple
 #[Go.Value.slice none (0:Nat) (0:Nat),Go.Value.string { data:= #[] },Go.Value.int .i64 (0:Int)])],false,false,[]⟩),
 (29,⟨.other,1,8,[.any],[.raw (Go.Value.nilFunc)],false,false,[]⟩),
 (30,⟨.other,1,8,[.any],[.raw (Go.Value.nilFunc)],false,false,[]⟩),
 (31,⟨.other,1,8,[.any],[.raw (Go.Value.nilFunc)],false,false,[]⟩),
 (32,⟨.other,1,8,[.any],[.raw (Go.Value.nilFunc)],false,false,[]⟩),
 (33,⟨.other,1,8,[.any],[.raw (Go.Value.nilFunc)],false,false,[]⟩),
 (34,⟨.other,1,8,[.any],[.raw (Go.Value.nilFunc)],false,false,[]⟩),
 (35,⟨(.slice 37 6 88 [.int .i64, .int .i64, .int .i64, .str, .sl 6 37, .sl 7 39]),1,24,[.sl 6 37],[.sl .nil 6 []],false,false,[]⟩),
 (36,⟨(.struct [(0,1),(1,1),(2,1),(3,1),(4,1),(5,1)]),6,88,[.int .i64, .int .i64, .int .i64, .str, .sl 6 37, .sl 7 39],[.int .i64 0, .int .i64 0, .int .i64 0, .str [], .sl .nil 6 [], .sl .nil 7 []],true,false,[3,3,3,9,35,24]⟩),
 (37,⟨(.struct [(0,1),(1,1),(2,1),(3,1),(4,1),(5,1)]),6,88,[.int .i64, .int .i64, .int .i64, .str, .sl 6 37, .sl 7 39],[.int .i64 0, .int .i64 0, .int .i64 0, .str [], .sl .nil 6 [], .sl .nil 7 []],true,false,[3,3,3,9,35,24]⟩),
 (38,⟨(.struct [(0,1),(1,6)]),7,104,[.str, .int .i64, .int .i64, .int .i64, .str, .sl 6 37, .sl 7 39],[.str [], .int .i64 0, .int .i64 0, .int .i64 0, .str [], .sl .nil 6 [], .sl .nil 7 []],true,false,[9,37]⟩),
 (39,⟨(.struct [(0,1),(1,6)]),7,104,[.str, .int .i64, .int .i64, .int .i64, .str, .sl 6 37, .sl 7 39],[.str [], .int .i64 0, .int .i64 0, .int .i64 0, .str [], .sl .nil 6 [], .sl .nil 7 []],true,false,[9,37]⟩),
 (40,⟨(.tuple [22,25]),1,0,[.any],[.raw (Go.Value.tuple #[Go.Value.slice none (0:Nat) (0:Nat),Go.Value.int .i64 (0:Int)])],false,false,[]⟩),
 (41,⟨.other,1,8,[.any],[.raw (Go.Value.nilFunc)],false,false,[]⟩),
 (42,⟨(.tuple [22,3]),1,0,[.any],[.raw (Go.Value.tuple #[Go.Value.slice none (0:Nat) (0:Nat),Go.Value.int .i64 (0:Int)])],false,false,[]⟩),
 (43,⟨.other,1,8,[.any],[.raw (Go.Value.nilFunc)],false,false,[]⟩),
 (44,⟨.other,1,8,[.any],[.raw (Go.Value.nilFunc)],false,false,[]⟩),
 (45,⟨.other,1,8,[.any],[.raw (Go.Value.nilFunc)],false,false,[]⟩),
 (46,⟨.other,1,8,[.any],[.raw (Go.Value.nilFunc)],false,false,[]⟩),
 (47,⟨(.tuple [37,3,25]),1,0,[.any],[.raw (Go.Value.tuple
 #[Go.Value.agg
     #[Go.Value.int .i64 (0:Int),Go.Value.int .i64 (0:Int),
       Go.Value.int .i64 (0:Int),Go.Value.string { data:= #[] },Go.Value.slice none (0:Nat) (0:Nat),
       Go.Value.slice none (0:Nat) (0:Nat)],
   Go.Value.int .i64 (0:Int),Go.Value.int .i64 (0:Int)])],false,false,[]⟩),
 (48,⟨.other,1,8,[.any],[.raw (Go.Value.nilFunc)],false,false,[]⟩),
 (49,⟨(.tuple [37,3,3]),1,0,[.any],[.raw (Go.Value.tuple
 #[Go.Value.agg
     #[Go.Value.int .i64 (0:Int),Go.Value.int .i64 (0:Int),
       Go.Value.int .i64 (0:Int),Go.Value.string { data:= #[] },Go.Value.slice none (0:Nat) (0:Nat),
       Go.Value.slice none (0:Nat) (0:Nat)],
   Go.Value.int .i64 (0:Int),Go.Value.int .i64 (0:Int)])],false,false,[]⟩),
 (50,⟨.other,1,8,[.any],[.raw (Go.Value.nilFunc)],false,false,[]⟩),
 (51,⟨.other,1,8,[.any],[.raw (Go.Value.nilFunc)],false,false,[]⟩),
 (52,⟨.other,1,8,[.any],[.raw (Go.Value.nilFunc)],false,false,[]⟩),
 (53,⟨(.tuple [37,25]),1,0,[.any],[.raw (Go.Value.tuple
 #[Go.Value.agg
     #[Go.Value.int .i64 (0:Int),Go.Value.int .i64 (0:Int),
       Go.Value.int .i64 (0:Int),Go.Value.string { data:= #[] },Go.Value.slice none (0:Nat) (0:Nat),
       Go.Value.slice none (0:Nat) (0:Nat)],
   Go.Value.int .i64 (0:Int)])],false,false,[]⟩),
 (54,⟨.other,1,8,[.any],[.raw (Go.Value.nilFunc)],false,false,[]⟩),
 (55,⟨(.tuple [37,3]),1,0,[.any],[.raw (Go.Value.tuple
 #[Go.Value.agg
     #[Go.Value.int .i64 (0:Int),Go.Value.int .i64 (0:Int),
       Go.Value.int .i64 (0:Int),Go.Value.string { data:= #[] },Go.Value.slice none (0:Nat) (0:Nat),
       Go.Value.slice none (0:Nat) (0:Nat)],
   Go.Value.int .i64 (0:Int)])],false,false,[]⟩),
 (56,⟨.other,1,8,[.any],[.raw (Go.Value.nilFunc)],false,false,[]⟩),
 (57,⟨.other,1,8,[.any],[.raw (Go.Value.nilFunc)],false,false,[]⟩),
 (58,⟨(.struct [(0,1),(1,1),(2,1)]),3,24,[.int .i64, .int .i64, .int .i64],[.int .i64 0, .int .i64 0, .int .i64 0],true,true,[3,3,3]⟩),
 (59,⟨(.struct [(0,1),(1,1),(2,1)]),3,24,[.int .i64, .int .i64, .int .i64],[.int .i64 0, .int .i64 0, .int .i64 0],true,true,[3,3,3]⟩),
 (60,⟨(.struct [(0,1),(1,3)]),4,32,[.int .i64, .int .i64, .int .i64, .int .i64],[.int .i64 0, .int .i64 0, .int .i64 0, .int .i64 0],true,true,[3,59]⟩),
 (61,⟨(.struct [(0,1),(1,3)]),4,32,[.int .i64, .int .i64, .int .i64, .int .i64],[.int .i64 0, .int .i64 0, .int .i64 0, .int .i64 0],true,true,[3,59]⟩),
 (62,⟨.other,1,8,[.any],[.raw (Go.Value.nilFunc)],false,false,[]⟩),
 (63,⟨(.slice 3 1 8 [.int .i64]),1,24,[.sl 1 3],[.sl .nil 1 []],false,false,[]⟩),
 (64,⟨.other,1,8,[.any],[.raw (Go.Value.nilFunc)],false,false,[]⟩),
 (65,⟨.other,1,8,[.any],[.raw (Go.Value.nilFunc)],false,false,[]⟩),
 (66,⟨.other,1,8,[.any],[.raw (Go.Value.nilFunc)],false,false,[]⟩),
 (67,⟨(.tuple [65,66]),1,0,[.any],[.raw (Go.Value.tuple #[Go.Value.nilFunc,Go.Value.nilFunc])],false,false,[]⟩),
 (68,⟨.other,1,8,[.any],[.raw (Go.Value.nilFunc)],false,false,[]⟩),
 (69,⟨.other,1,8,[.any],[.raw (Go.Value.nilFunc)],false,false,[]⟩),
 (70,⟨.other,1,8,[.any],[.raw (Go.Value.nilFunc)],false,false,[]⟩),
 (71,⟨.other,1,8,[.any],[.raw (Go.Value.nilFunc)],false,false,[]⟩),
 (72,⟨(.tuple [9,3]),1,0,[.any],[.raw (Go.Value.tuple #[Go.Value.string { data:= #[] },Go.Value.int .i64 (0:Int)])],false,false,[]⟩),
 (73,⟨.other,1,8,[.any],[.raw (Go.Value.nilFunc)],false,false,[]⟩),
 (74,⟨.other,1,8,[.any],[.raw (Go.Value.nilFunc)],false,false,[]⟩),
 (75,⟨.other,1,8,[.any],[.raw (Go.Value.nilFunc)],false,false,[]⟩),
 (76,⟨(.tuple [63,3]),1,0,[.any],[.raw (Go.Value.tuple #[Go.Value.slice none (0:Nat) (0:Nat),Go.Value.int .i64 (0:Int)])],false,false,[]⟩),
 (77,⟨.other,1,8,[.any],[.raw (Go.Value.nilFunc)],false,false,[]⟩),
 (78,⟨(.tuple [63,4]),1,0,[.any],[.raw (Go.Value.tuple #[Go.Value.slice none (0:Nat) (0:Nat),Go.Value.bool false])],false,false,[]⟩),
 (79,⟨.other,1,8,[.any],[.raw (Go.Value.nilFunc)],false,false,[]⟩),
 (80,⟨.other,1,8,[.any],[.raw (Go.Value.nilFunc)],false,false,[]⟩),
 (81,⟨(.slice 5 1 1 [.int .u8]),1,24,[.sl 1 5],[.sl .nil 1 []],false,false,[]⟩),
 (82,⟨(.tuple [63,25]),1,0,[.any],[.raw (Go.Value.tuple #[Go.Value.slice none (0:Nat) (0:Nat),Go.Value.int .i64 (0:Int)])],false,false,[]⟩),
 (83,⟨.other,1,8,[.any],[.raw (Go.Value.nilFunc)],false,false,[]⟩),
 (84,⟨.other,1,8,[.any],[.raw (Go.Value.nilFunc)],false,false,[]⟩),
 (85,⟨(.pointer 89),1,8,[.any],[.raw (Go.Value.pointer none)],false,false,[]⟩),
 (86,⟨(.struct [(0,1),(1,1)]),2,24,[.str, .int .i64],[.str [], .int .i64 0],true,true,[9,3]⟩),
 (87,⟨(.struct [(0,1),(1,1)]),2,24,[.str, .int .i64],[.str [], .int .i64 0],true,true,[9,3]⟩),
 (88,⟨(.struct [(0,2),(2,1)]),3,32,[.str, .int .i64, .int .i64],[.str [], .int .i64 0, .int .i64 0],true,true,[87,3]⟩),
 (89,⟨(.struct [(0,2),(2,1)]),3,32,[.str, .int .i64, .int .i64],[.str [], .int .i64 0, .int .i64 0],true,true,[87,3]⟩),
 (90,⟨.other,1,8,[.any],[.raw (Go.Value.nilFunc)],false,false,[]⟩),
 (91,⟨.other,1,8,[.any],[.raw (Go.Value.nilFunc)],false,false,[]⟩),
 (92,⟨.other,1,8,[.any],[.raw (Go.Value.nilFunc)],false,false,[]⟩),
 (93,⟨.other,1,8,[.any],[.raw (Go.Value.nilFunc)],false,false,[]⟩),
 (94,⟨(.struct [(0,1),(1,1),(2,1),(3,1),(4,1)]),5,48,[.int .i64, .int .i64, .str, .int .i64, .int .i64],[.int .i64 0, .int .i64 0, .str [], .int .i64 0, .int .i64 0],true,true,[3,3,9,3,3]⟩),
 (95,⟨(.struct [(0,1),(1,1),(2,1),(3,1),(4,1)]),5,48,[.int .i64, .int .i64, .str, .int .i64, .int .i64],[.int .i64 0, .int .i64 0, .str [], .int .i64 0, .int .i64 0],true,true,[3,3,9,3,3]⟩),
 (96,⟨(.tuple [95,25]),1,0,[.any],[.raw (Go.Value.tuple
 #[Go.Value.agg
     #[Go.Value.int .i64 (0:Int),Go.Value.int .i64 (0:Int),Go.Value.string { data:= #[] },
       Go.Value.int .i64 (0:Int),Go.Value.int .i64 (0:Int)],
   Go.Value.int .i64 (0:Int)])],false,false,[]⟩),
 (97,⟨.other,1,8,[.any],[.raw (Go.Value.nilFunc)],false,false,[]⟩),
 (98,⟨(.tuple [95,3]),1,0,[.any],[.raw (Go.Value.tuple
 #[Go.Value.agg
     #[Go.Value.int .i64 (0:Int),Go.Value.int .i64 (0:Int),Go.Value.string { data:= #[] },
       Go.Value.int .i64 (0:Int),Go.Value.int .i64 (0:Int)],
   Go.Value.int .i64 (0:Int)])],false,false,[]⟩),
 (99,⟨.other,1,8,[.any],[.raw (Go.Value.nilFunc)],false,false,[]⟩),
 (100,⟨(.array 8 5 1),8,8,[.int .u8, .int .u8, .int .u8, .int .u8, .int .u8, .int .u8, .int .u8, .int .u8],[.int .u8 0, .int .u8 0, .int .u8 0, .int .u8 0, .int .u8 0, .int .u8 0, .int .u8 0, .int .u8 0],true,false,[]⟩),
 (101,⟨.other,1,8,[.any],[.raw (Go.Value.nilFunc)],false,false,[]⟩),
 (102,⟨(.tuple [9,25]),1,0,[.any],[.raw (Go.Value.tuple #[Go.Value.string { data:= #[] },Go.Value.int .i64 (0:Int)])],false,false,[]⟩),
 (103,⟨.other,1,8,[.any],[.raw (Go.Value.nilFunc)],false,false,[]⟩),
 (104,⟨.other,1,8,[.any],[.raw (Go.Value.nilFunc)],false,false,[]⟩),
 (105,⟨(.tuple [37,4]),1,0,[.any],[.raw (Go.Value.tuple
 #[Go.Value.agg
     #[Go.Value.int .i64 (0:Int),Go.Value.int .i64 (0:Int),
       Go.Value.int .i64 (0:Int),Go.Value.string { data:= #[] },Go.Value.slice none (0:Nat) (0:Nat),
       Go.Value.slice none (0:Nat) (0:Nat)],
   Go.Value.bool false])],false,false,[]⟩),
 (106,⟨.other,1,8,[.any],[.raw (Go.Value.nilFunc)],false,false,[]⟩),
 (107,⟨.other,1,8,[.any],[.raw (Go.Value.nilFunc)],false,false,[]⟩),
 (108,⟨(.tuple [3,4]),1,0,[.any],[.raw (Go.Value.tuple #[Go.Value.int .i64 (0:Int),Go.Value.bool false])],false,false,[]⟩),
 (109,⟨.other,1,8,[.any],[.raw (Go.Value.nilFunc)],false,false,[]⟩),
 (110,⟨(.tuple [3,25]),1,0,[.any],[.raw (Go.Value.tuple #[Go.Value.int .i64 (0:Int),Go.Value.int .i64 (0:Int)])],false,false,[]⟩),
 (111,⟨.other,1,8,[.any],[.raw (Go.Value.nilFunc)],false,false,[]⟩),
 (112,⟨.other,1,8,[.any],[.raw (Go.Value.nilFunc)],false,false,[]⟩),
 (113,⟨(.tuple [3,3]),1,0,[.any],[.raw (Go.Value.tuple #[Go.Value.int .i64 (0:Int),Go.Value.int .i64 (0:Int)])],false,false,[]⟩),
 (114,⟨.other,1,8,[.any],[.raw (Go.Value.nilFunc)],false,false,[]⟩),
 (115,⟨.other,1,8,[.any],[.raw (Go.Value.nilFunc)],false,false,[]⟩),
 (116,⟨.other,1,8,[.any],[.raw (Go.Value.nilFunc)],false,false,[]⟩),
 (117,⟨.other,1,8,[.any],[.raw (Go.Value.nilFunc)],false,false,[]⟩),
 (118,⟨(.struct [(0,1),(1,1),(2,1),(3,1),(4,1)]),5,5,[.bool, .bool, .bool, .bool, .bool],[.bool false, .bool false, .bool false, .bool false, .bool false],true,true,[4,4,4,4,4]⟩),
 (119,⟨(.struct [(0,1),(1,1),(2,1),(3,1),(4,1)]),5,5,[.bool, .bool, .bool, .bool, .bool],[.bool false, .bool false, .bool false, .bool false, .bool false],true,true,[4,4,4,4,4]⟩),
 (120,⟨(.tuple [119,4]),1,0,[.any],[.raw (Go.Value.tuple
 #[Go.Value.agg
     #[Go.Value.bool false,Go.Value.bool false,Go.Value.bool false,Go.Value.bool false,Go.Value.bool false],
   Go.Value.bool false])],false,false,[]⟩),
 (121,⟨.other,1,8,[.any],[.raw (Go.Value.nilFunc)],false,false,[]⟩),
 (122,⟨.other,1,8,[.any],[.raw (Go.Value.nilFunc)],false,false,[]⟩),
 (123,⟨.other,1,8,[.any],[.raw (Go.Value.nilFunc)],false,false,[]⟩),
 (124,⟨.other,1,8,[.any],[.raw (Go.Value.nilFunc)],false,false,[]⟩),
 (125,⟨.other,1,8,[.any],[.raw (Go.Value.nilFunc)],false,false,[]⟩),
 (126,⟨(.pointer 128),1,8,[.any],[.raw (Go.Value.pointer none)],false,false,[]⟩),
 (127,⟨(.struct [(0,1),(1,1),(2,1)]),3,48,[.str, .int .i64, .sl 1 5],[.str [], .int .i64 0, .sl .nil 1 []],true,false,[9,3,81]⟩),
 (128,⟨(.struct [(0,1),(1,1),(2,1)]),3,48,[.str, .int .i64, .sl 1 5],[.str [], .int .i64 0, .sl .nil 1 []],true,false,[9,3,81]⟩),
 (129,⟨.other,1,8,[.any],[.raw (Go.Value.nilFunc)],false,false,[]⟩),
 (130,⟨(.tuple [9,3,3]),1,0,[.any],[.raw (Go.Value.tuple
 #[Go.Value.string { data:= #[] },Go.Value.int .i64 (0:Int),Go.Value.int .i64 (0:Int)])],false,false,[]⟩),
 (131,⟨.other,1,8,[.any],[.raw (Go.Value.nilFunc)],false,false,[]⟩),
 (132,⟨.other,1,8,[.any],[.raw (Go.Value.nilFunc)],false,false,[]⟩),
 (133,⟨.other,1,8,[.any],[.raw (Go.Value.nilFunc)],false,false,[]⟩),
 (134,⟨.other,1,8,[.any],[.raw (Go.Value.nilFunc)],false,false,[]⟩),
 (135,⟨.other,1,8,[.any],[.raw (Go.Value.nilFunc)],false,false,[]⟩),
 (136,⟨.other,1,8,[.any],[.raw (Go.Value.nilFunc)],false,false,[]⟩),
 (137,⟨(.int .u64),1,8,[.int .u64],[.int .u64 0],false,false,[]⟩),
 (138,⟨(.int .u64),1,8,[.int .u64],[.int .u64 0],false,false,[]⟩),
 (139,⟨(.pointer 87),1,8,[.any],[.raw (Go.Value.pointer none)],false,false,[]⟩),
 (140,⟨.other,1,8,[.any],[.raw (Go.Value.nilFunc)],false,false,[]⟩),
 (141,⟨.map,1,8,[.any],[.raw (Go.Value.map none)],false,false,[]⟩),
 (142,⟨(.tuple [9,4,25]),1,0,[.any],[.raw (Go.Value.tuple #[Go.Value.string { data:= #[] },Go.Value.bool false,Go.Value.int .i64 (0:Int)])],false,false,[]⟩),
 (143,⟨.other,1,8,[.any],[.raw (Go.Value.nilFunc)],false,false,[]⟩),
 (144,⟨.other,1,8,[.any],[.raw (Go.Value.nilFunc)],false,false,[]⟩),
 (145,⟨.other,1,8,[.any],[.raw (Go.Value.nilFunc)],false,false,[]⟩),
 (146,⟨.other,1,8,[.any],[.raw (Go.Value.nilFunc)],false,false,[]⟩),
 (147,⟨.other,1,8,[.any],[.raw (Go.Value.nilFunc)],false,false,[]⟩),
 (148,⟨.other,1,8,[.any],[.raw (Go.Value.nilFunc)],false,false,[]⟩),
 (149,⟨(.tuple [37,3,4]),1,0,[.any],[.raw (Go.Value.tuple
 #[Go.Value.agg
     #[Go.Value.int .i64 (0:Int),Go.Value.int .i64 (0:Int),
       Go.Value.int .i64 (0:Int),Go.Value.string { data:= #[] },Go.Value.slice none (0:Nat) (0:Nat),
       Go.Value.slice none (0:Nat) (0:Nat)],
   Go.Value.int .i64 (0:Int),Go.Value.bool false])],false,false,[]⟩),
 (150,⟨.other,1,8,[.any],[.raw (Go.Value.nilFunc)],false,false,[]⟩),
 (151,⟨.other,1,8,[.any],[.raw (Go.Value.nilFunc)],false,false,[]⟩),
 (152,⟨.other,1,8,[.any],[.raw (Go.Value.nilFunc)],false,false,[]⟩),
 (153,⟨.other,1,8,[.any],[.raw (Go.Value.nilFunc)],false,false,[]⟩),
 (154,⟨.other,1,8,[.any],[.raw (Go.Value.nilFunc)],false,false,[]⟩),
 (155,⟨.other,1,8,[.any],[.raw (Go.Value.nilFunc)],false,false,[]⟩),
 (156,⟨.other,1,8,[.any],[.raw (Go.Value.nilFunc)],false,false,[]⟩),
 (157,⟨.other,1,8,[.any],[.raw (Go.Value.nilFunc)],false,false,[]⟩),
 (158,⟨.other,1,8,[.any],[.raw (Go.Value.nilFunc)],false,false,[]⟩),
 (159,⟨(.tuple [5,4]),1,0,[.any],[.raw (Go.Value.tuple #[Go.Value.int .u8 (0:Int),Go.Value.bool false])],false,false,[]⟩),
 (160,⟨.other,1,8,[.any],[.raw (Go.Value.nilFunc)],false,false,[]⟩),
 (161,⟨.other,1,8,[.any],[.raw (Go.Value.nilFunc)],false,false,[]⟩),
 (162,⟨.other,1,8,[.any],[.raw (Go.Value.nilFunc)],false,false,[]⟩),
 (163,⟨.other,1,8,[.any],[.raw (Go.Value.nilFunc)],false,false,[]⟩),
 (164,⟨.other,1,8,[.any],[.raw (Go.Value.nilFunc)],false,false,[]⟩),
 (165,⟨.other,1,8,[.any],[.raw (Go.Value.nilFunc)],false,false,[]⟩),
 (166,⟨.other,1,8,[.any],[.raw (Go.Value.nilFunc)],false,false,[]⟩),
 (167,⟨.other,1,8,[.any],[.raw (Go.Value.nilFunc)],false,false,[]⟩),
 (168,⟨(.tuple [4,9]),1,0,[.any],[.raw (Go.Value.tuple #[Go.Value.bool false,Go.Value.string { data:= #[] }])],false,false,[]⟩),
 (169,⟨.other,1,8,[.any],[.raw (Go.Value.nilFunc)],false,false,[]⟩),
 (170,⟨.other,1,8,[.any],[.raw (Go.Value.nilFunc)],false,false,[]⟩),
 (171,⟨.other,1,8,[.any],[.raw (Go.Value.nilFunc)],false,false,[]⟩),
 (172,⟨.other,1,8,[.any],[.raw (Go.Value.nilFunc)],false,false,[]⟩),
 (173,⟨.other,1,8,[.any],[.raw (Go.Value.nilFunc)],false,false,[]⟩),
 (174,⟨.other,1,8,[.any],[.raw (Go.Value.nilFunc)],false,false,[]⟩),
 (175,⟨.other,1,8,[.any],[.raw (Go.Value.nilFunc)],false,false,[]⟩),
 (176,⟨.other,1,8,[.any],[.raw (Go.Value.nilFunc)],false,false,[]⟩),
 (177,⟨(.int .u32),1,4,[.int .u32],[.int .u32 0],false,false,[]⟩),
 (178,⟨(.tuple [177,177]),1,0,[.any],[.raw (Go.Value.tuple #[Go.Value.int .u32 (0:Int),Go.Value.int .u32 (0:Int)])],false,false,[]⟩),
 (179,⟨.other,1,8,[.any],[.raw (Go.Value.nilFunc)],false,false,[]⟩),
 (180,⟨(.struct [(0,1),(1,1),(2,1),(3,1)]),4,40,[.any, .any, .any, .str],[.raw (Go.Value.pointer none), .raw (Go.Value.pointer none), .raw (Go.Value.pointer none), .str []],true,false,[17,17,17,9]⟩),
 (181,⟨(.struct [(0,1),(1,1),(2,1),(3,1)]),4,40,[.any, .any, .any, .str],[.raw (Go.Value.pointer none), .raw (Go.Value.pointer none), .raw (Go.Value.pointer none), .str []],true,false,[17,17,17,9]⟩),
 (182,⟨(.array 0 16 1),0,0,[],[],true,false,[]⟩),
 (183,⟨(.struct [(0,0)]),0,0,[],[],true,false,[182]⟩),
 (184,⟨(.struct [(0,0)]),0,0,[],[],true,false,[182]⟩),
 (185,⟨(.int .u8),1,1,[.int .u8],[.int .u8 0],false,false,[]⟩),
 (186,⟨(.int .u8),1,1,[.int .u8],[.int .u8 0],false,false,[]⟩),
 (187,⟨.other,1,8,[.any],[.raw (Go.Value.nilFunc)],false,false,[]⟩),
 (188,⟨(.pointer 5),1,8,[.any],[.raw (Go.Value.pointer none)],false,false,[]⟩),
 (189,⟨(.int .i32),1,4,[.int .i32],[.int .i32 0],false,false,[]⟩),
 (190,⟨(.int .i32),1,4,[.int .i32],[.int .i32 0],false,false,[]⟩),
 (191,⟨(.struct [(0,1),(1,1),(2,1),(3,1),(4,1),(5,1),(6,1),(7,1),(8,1),(9,1),(10,1)]),11,48,[.int .u64, .int .u64, .int .u32, .int .u8, .int .u8, .int .u8, .int .u8, .any, .any, .int .i32, .int .i32],[.int .u64 0, .int .u64 0, .int .u32 0, .int .u8 0, .int .u8 0, .int .u8 0, .int .u8 0, .raw (Go.Value.nilFunc), .raw (Go.Value.pointer none), .int .i32 0, .int .i32 0],true,false,[12,12,177,185,5,5,186,187,188,189,190]⟩),
 (192,⟨(.struct [(0,1),(1,1),(2,1),(3,1),(4,1),(5,1),(6,1),(7,1),(8,1),(9,1),(10,1)]),11,48,[.int .u64, .int .u64, .int .u32, .int .u8, .int .u8, .int .u8, .int .u8, .any, .any, .int .i32, .int .i32],[.int .u64 0, .int .u64 0, .int .u32 0, .int .u8 0, .int .u8 0, .int .u8 0, .int .u8 0, .raw (Go.Value.nilFunc), .raw (Go.Value.pointer none), .int .i32 0, .int .i32 0],true,false,[12,12,177,185,5,5,186,187,188,189,190]⟩),
 (193,⟨.other,1,8,[.any],[.raw (Go.Value.pointer none)],false,false,[]⟩)]
abbrev Adx:Nat:=7
abbrev Xa:Nat:=20
abbrev Ut:Nat:=21
abbrev Afn:Nat:=22
abbrev Iz:Nat:=23
abbrev Mg:Nat:=24
abbrev Agj:Nat:=25
abbrev Ic:Nat:=45
abbrev J6:Nat:=46
abbrev V3:Nat:=47
abbrev M9:Nat:=48
abbrev Rf:Nat:=50
abbrev Me:Nat:=51
abbrev F4:Nat:=64
abbrev O6:Nat:=65
abbrev Ada:Nat:=66
abbrev Q5:Nat:=68
abbrev Qq:Nat:=69
abbrev Agh:Nat:=70
abbrev Rz:Nat:=71
abbrev Aco:Nat:=72
abbrev Aih:Nat:=73
abbrev Aix:Nat:=74
abbrev Aiv:Nat:=75
abbrev Zi:Nat:=76
abbrev Adg:Nat:=77
abbrev O3:Nat:=78
abbrev Aia:Nat:=80
abbrev Aiy:Nat:=81
abbrev Vu:Nat:=82
abbrev Ae2:Nat:=83
abbrev Akz:Nat:=84
abbrev L6:Nat:=85
abbrev Aie:Nat:=86
abbrev Lt:Nat:=92
abbrev R3:Nat:=93
abbrev Q6:Nat:=94
abbrev Jq:Nat:=95
abbrev Aj:Nat:=96
abbrev Qa:Nat:=97
abbrev Ld:Nat:=98
abbrev Cc:Nat:=99
abbrev Abj:Nat:=100
abbrev Alg:Nat:=101
abbrev Rk:Nat:=102
abbrev Nw:Nat:=103
abbrev P8:Nat:=105
abbrev Pt:Nat:=106
abbrev Qp:Nat:=108
abbrev Po:Nat:=109
abbrev Ox:Nat:=110
abbrev Abd:Nat:=111
abbrev Yx:Nat:=112
abbrev Abt:Nat:=113
abbrev Ain:Nat:=114
abbrev Afj:Nat:=115
abbrev J4:Nat:=117
abbrev Nc:Nat:=118
abbrev R8:Nat:=119
abbrev Nz:Nat:=120
abbrev G6:Nat:=122
abbrev Jv:Nat:=124
abbrev D9:Nat:=125
abbrev Sz:Nat:=126
abbrev Zu:Nat:=127
abbrev Yt:Nat:=128
abbrev E8:Nat:=131
abbrev Du:Nat:=132
abbrev D7:Nat:=133
abbrev M6:Nat:=134
abbrev Ze:Nat:=135
abbrev Agv:Nat:=136
abbrev J7:Nat:=137
abbrev Aab:Nat:=138
abbrev Yz:Nat:=139
abbrev Eo:Nat:=141
abbrev Og:Nat:=143
abbrev Apa:Nat:=144
abbrev Vv:Nat:=3
abbrev Ap:Nat:=5
abbrev A6g:Nat:=9
abbrev Aa:Nat:=37
abbrev Ag:Nat:=39
abbrev As3:Nat:=87
abbrev Am:Nat:=89
abbrev Aq:Nat:=95
abbrev Bn:Nat:=119
abbrev Ac:Nat:=128
noncomputable def ai_crossing_putter:AC:=(Bf [] [2,3] (codeOf Try.f28) 0).1
noncomputable def ai_crossing_putter_1:AC:=(Bf [] [] (codeOf Try.f53) 0).1
noncomputable def ai_crossing_putter_2:AC:=(Bf [] [1] (codeOf Try.f55) 0).1
noncomputable def ai_digits_taker:AC:=(Bf [] [2] (codeOf Try.f140) 0).1
noncomputable def ai_digits_taker_1:AC:=(Bf [] [2] (codeOf Try.f144) 0).1
noncomputable def ai_parse_none:AC:=(Bf [] [2,3] (codeOf Try.f49) 0).1
noncomputable def ai_token_bad:AC:=(Bf [] [2,3] (codeOf Try.f79) 0).1
noncomputable def ai_token_scanner_told:AC:=(Bf [] [4,5] (codeOf Try.f123) 0).1
noncomputable def ai_token_scanner_more:AC:=(Bf [] [2,3] (codeOf Try.f121) 0).1
noncomputable def ai_token_scanner_sign:AC:=(Bf [] [6,7] (codeOf Try.f104) 0).1
noncomputable def ai_token_scanner_twice:AC:=(Bf [] [2] (codeOf Try.f107) 0).1
noncomputable def ai_token_scanner_hex_1:AC:=(Bf [] [] (codeOf Try.f125) 0).1
noncomputable def ai_parse_reader_inside:AC:=(Bf [] [4,5] (codeOf Try.f67) 0).1
noncomputable def ai_parse_cursor_peek:AC:=(Bf [] [2,3] (codeOf Try.f91) 0).1
noncomputable def A8x:List (Nat × AC × Nat × List ResultVar):=[(28,ai_crossing_putter,9,[.tmp 2, .tmp 3]),(53,ai_crossing_putter_1,21,[]),(55,ai_crossing_putter_2,4,[.tmp 1]),(140,ai_digits_taker,5,[.tmp 2]),(144,ai_digits_taker_1,23,[.tmp 2]),(49,ai_parse_none,6,[.cell 2 37, .tmp 3]),(79,ai_token_bad,6,[.cell 2 95, .tmp 3]),(123,ai_token_scanner_told,13,[.cell 4 95, .tmp 5]),(121,ai_token_scanner_more,23,[.tmp 2, .tmp 3]),(104,ai_token_scanner_sign,18,[.cell 6 95, .tmp 7]),(107,ai_token_scanner_twice,36,[.tmp 2]),(125,ai_token_scanner_hex_1,37,[]),(67,ai_parse_reader_inside,37,[.cell 4 37, .tmp 5]),(91,ai_parse_cursor_peek,15,[.cell 2 95, .tmp 3])]
def wr0:List (Nat × Nat):=[(95,1),(117,1),(131,1),(132,1),(137,1),(141,1),(98,1),(94,2),(41,2),(44,2),(133,4)]
def Bd9:List (Nat × Nat):=[]
noncomputable def E0:Env:=⟨Try.prog,TT0,0,A40 A8x,Bd2 Bd9,Bcj wr0⟩
end Go.Proofs.Sim.Se
