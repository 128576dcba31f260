import Derived.Test.YtcdjheflchglaaaSeatEnv
import Derived.Test.YtcdjheflchglaaaSimPQ
namespace Go.Proofs.Sim.Se
open Go Go.Proofs Go.Proofs.Sim
set_option maxRecDepth 100000
theorem Bdt:∀f bt,E0.self f=some bt→Rb E0.P f bt:=by
 intro f bt h
 cases h
theorem Amm:Bt E0.P 28 ai_crossing_putter.code 9 [.tmp 2, .tmp 3]:=Bl _ _ Try.f28 [] [2,3] _ 9 Try.func28 (by kernel_rfl) (by kernel_rfl) (by kernel_rfl) (by kernel_rfl)
theorem Aj4:Bt E0.P 53 ai_crossing_putter_1.code 21 []:=Bl _ _ Try.f53 [] [] _ 21 Try.func53 (by kernel_rfl) (by kernel_rfl) (by kernel_rfl) (by kernel_rfl)
theorem Aj9:Bt E0.P 55 ai_crossing_putter_2.code 4 [.tmp 1]:=Bl _ _ Try.f55 [] [1] _ 4 Try.func55 (by kernel_rfl) (by kernel_rfl) (by kernel_rfl) (by kernel_rfl)
theorem Aqr:Bt E0.P 140 ai_digits_taker.code 5 [.tmp 2]:=Bl _ _ Try.f140 [] [2] _ 5 Try.func140 (by kernel_rfl) (by kernel_rfl) (by kernel_rfl) (by kernel_rfl)
theorem Anf:Bt E0.P 144 ai_digits_taker_1.code 23 [.tmp 2]:=Bl _ _ Try.f144 [] [2] _ 23 Try.func144 (by kernel_rfl) (by kernel_rfl) (by kernel_rfl) (by kernel_rfl)
theorem Av3:Bt E0.P 49 ai_parse_none.code 6 [.cell 2 37, .tmp 3]:=Bl _ _ Try.f49 [] [2,3] _ 6 Try.func49 (by kernel_rfl) (by kernel_rfl) (by kernel_rfl) (by kernel_rfl)
theorem Ayd:Bt E0.P 79 ai_token_bad.code 6 [.cell 2 95, .tmp 3]:=Bl _ _ Try.f79 [] [2,3] _ 6 Try.func79 (by kernel_rfl) (by kernel_rfl) (by kernel_rfl) (by kernel_rfl)
theorem Aim:Bt E0.P 123 ai_token_scanner_told.code 13 [.cell 4 95, .tmp 5]:=Bl _ _ Try.f123 [] [4,5] _ 13 Try.func123 (by kernel_rfl) (by kernel_rfl) (by kernel_rfl) (by kernel_rfl)
theorem Ais:Bt E0.P 121 ai_token_scanner_more.code 23 [.tmp 2, .tmp 3]:=Bl _ _ Try.f121 [] [2,3] _ 23 Try.func121 (by kernel_rfl) (by kernel_rfl) (by kernel_rfl) (by kernel_rfl)
theorem Ahz:Bt E0.P 104 ai_token_scanner_sign.code 18 [.cell 6 95, .tmp 7]:=Bl _ _ Try.f104 [] [6,7] _ 18 Try.func104 (by kernel_rfl) (by kernel_rfl) (by kernel_rfl) (by kernel_rfl)
theorem Ag8:Bt E0.P 107 ai_token_scanner_twice.code 36 [.tmp 2]:=Bl _ _ Try.f107 [] [2] _ 36 Try.func107 (by kernel_rfl) (by kernel_rfl) (by kernel_rfl) (by kernel_rfl)
theorem Ag2:Bt E0.P 125 ai_token_scanner_hex_1.code 37 []:=Bl _ _ Try.f125 [] [] _ 37 Try.func125 (by kernel_rfl) (by kernel_rfl) (by kernel_rfl) (by kernel_rfl)
theorem Ag5:Bt E0.P 67 ai_parse_reader_inside.code 37 [.cell 4 37, .tmp 5]:=Bl _ _ Try.f67 [] [4,5] _ 37 Try.func67 (by kernel_rfl) (by kernel_rfl) (by kernel_rfl) (by kernel_rfl)
theorem Ai3:Bt E0.P 91 ai_parse_cursor_peek.code 15 [.cell 2 95, .tmp 3]:=Bl _ _ Try.f91 [] [2,3] _ 15 Try.func91 (by kernel_rfl) (by kernel_rfl) (by kernel_rfl) (by kernel_rfl)
theorem Bec:∀f ac nt rs,E0.inl f=some (ac,nt,rs)→Bt E0.P f ac.code nt rs:=by
 refine Bdr A8x fun x hx=> ?_
 simp only [A8x,List.mem_cons,List.not_mem_nil,or_false]at hx
 rcases hx with rfl |rfl |rfl |rfl |rfl |rfl |rfl |rfl |rfl |rfl |rfl |rfl |rfl |rfl
 ·exact Amm
 ·exact Aj4
 ·exact Aj9
 ·exact Aqr
 ·exact Anf
 ·exact Av3
 ·exact Ayd
 ·exact Aim
 ·exact Ais
 ·exact Ahz
 ·exact Ag8
 ·exact Ag2
 ·exact Ag5
 ·exact Ai3
theorem Be4:Ad5 E0:=⟨A5g _ _ (by kernel_rfl),by kernel_rfl,Bdt,Bec⟩
theorem Ba(nt:Nat):Ad5 (Au E0 nt):=Bau E0 Be4 nt
abbrev KK:=Ex→St→Prop
abbrev QQ:=AV→Heap→Prop
abbrev LL:=List (List IV)
abbrev Ai(n:Int):AV:= .imm (.int .i64 n)
abbrev As(s:List UInt8):AV:= .imm (.str s)
abbrev Ab(b:Bool):AV:= .imm (.bool b)
abbrev Al(n:Nat)(r:LL):AV:= .imm (.sl .any n r)
theorem kr {p q:Prop} (h:p=q)(x:p):q:=cast h x
def kE(f:St→Prop):KK
 | .normal,st=>f st
 | .exit _,_=>False
 | .goto _,_=>False
 | .ret,st=>f st
def kP(m:List Nat)(K:KK):KK
 | .normal,st=>K .normal (mask m st)
 | .exit i,st=>K (.exit i) st
 | .goto i,st=>K (.goto i) st
 | .ret,st=>K .ret st
def kF(n:Nat)(f r:St→Prop):KK
 | .normal,st=>f st
 | .exit i,st=>match i.beq n with |true=>f st |false=>False
 | .goto _,_=>False
 | .ret,st=>r st
def kC(n:Nat)(f:St→Prop)(K:KK):KK
 | .normal,st=>f st
 | .exit i,st=>match i.beq n with |true=>f st |false=>K (.exit i) st
 | .goto i,st=>K (.goto i) st
 | .ret,st=>K .ret st
abbrev LB:=List UInt8
abbrev Ae:Nm:= .arg 0
abbrev Av:Nm:= .arg 1
abbrev nL0:Nm:= .loc 0
abbrev G8:Nm:= .loc 1
abbrev nL2:Nm:= .loc 2
abbrev Cx:Nm:= .loc 3
abbrev nL4:Nm:= .loc 4
abbrev nL5:Nm:= .loc 5
abbrev nL6:Nm:= .loc 6
abbrev Ql:Nm:= .loc 8
abbrev H9:Nm:= .loc 9
abbrev An9:Nm:= .loc 10
abbrev Np:Nm:= .loc 11
abbrev Avf:Nm:= .loc 15
abbrev R5:Nm:= .loc 16
abbrev Ane:Nm:= .loc 26
abbrev Nu:Nm:= .loc 28
end Go.Proofs.Sim.Se
