import Derived.Test.YtcdjheflchglaaaGreatDoorSeatEnv
import Derived.Test.YtcdjheflchglaaaGreatDoorSimPQ
import Derived.WalkKit
import Derived.Lib.Builder
import Derived.Laws.Externs
namespace Go.Proofs.Sim.Se
open Go Go.Proofs Go.Proofs.Sim
set_option maxRecDepth 100000
theorem A8i(b:Nat)(w:World)(h0:w.cell? ⟨b,0,none⟩=some (.pointer (some ⟨b,0,none⟩))):
 Calls Tryz.prog Pw #[.pointer (some ⟨b,0,none⟩)] w fun e w'=>e= .returned (.tuple #[])∧w'=w:=by
 have u55:Tryz.prog.underlying 81=some (.pointer 83):=by kernel_rfl
 obtain⟨j,hj,hjs⟩:=Option.map_eq_some_iff.1 (show(Tryz.prog.info? 83).map (·.size)=some 2 by kernel_rfl)
 go_enter Tryz.func71,Tryz.ntmps71
 go_wp2
 rw [Lib.run_neq_ptr_same w _ u55 hj]
 go_wp2
 go_end0
 exact⟨rfl,rfl⟩
theorem A47(b:Nat)(w:World)(h0:w.cell? ⟨b,0,none⟩=some (.pointer none))(hsh:w.shape? b=some (83,2))(hfz:w.frozen? ⟨b,0,none⟩=false):
 Calls Tryz.prog Pw #[.pointer (some ⟨b,0,none⟩)] w fun e w'=>e= .returned (.tuple #[])∧w'=w.setCell ⟨b,0,none⟩ (.pointer (some ⟨b,0,none⟩)):=by
 have u55:Tryz.prog.underlying 81=some (.pointer 83):=by kernel_rfl
 have u96:Tryz.prog.underlying 121=some .unsafePointer:=by kernel_rfl
 obtain⟨j,hj,hjs⟩:=Option.map_eq_some_iff.1 (show(Tryz.prog.info? 83).map (·.size)=some 2 by kernel_rfl)
 go_enter Tryz.func71,Tryz.ntmps71
 go_wp2
 rw [Lib.run_to_unsafe w ⟨b,0,none⟩ u55 u96 hj (by rw [hjs];decide) hsh (Nat.zero_lt_succ 1)]
 simp only [Result.andThen]
 rw [Oper.upon_value]
 go_wp2
 rw [run_callFunc_extern Tryz.func86 (by kernel_rfl) (by kernel_rfl) (by kernel_rfl) (e:=Extern.AbiNoEscape.same) (by kernel_rfl)]
 rw [Lib.run_noEscape]
 simp only [Result.andThen]
 rw [Oper.upon_value]
 go_wp2
 rw [Lib.run_from_unsafe w ⟨b,0,none⟩ u96 u55 hj hsh (by kernel_rfl)]
 simp only [Result.andThen]
 rw [Oper.upon_value]
 go_wp2
 go_end0
 exact⟨rfl,rfl⟩
theorem Bbz:∀f bt,E0.self f=some bt→Rp E0.P f bt:=by
 intro f bt h
 have h:A06 A1s f=some bt:=h
 simp only [A1s,A06]at h
 split at h
 ·rename_i hf
  have:71=f:=by simpa using hf
  subst this
  injection h with h
  subst h
  exact⟨fun b w h0=>Ap2 Tryz.func71 (by kernel_rfl) (by kernel_rfl) ((A8i b w h0).mono fun e w' ⟨h1,h2⟩=>⟨_,h1,rfl,h2⟩),
   fun b w h0 h1 h2=>Ap2 Tryz.func71 (by kernel_rfl) (by kernel_rfl) ((A47 b w h0 h1 h2).mono fun e w' ⟨h1,h2⟩=>⟨_,h1,rfl,h2⟩)⟩
 ·cases h
theorem Aqi:Bw E0.P 100 ai_digits_taker.code 5 [.tmp 2]:=Bn _ _ Tryz.f100 [] [2] _ 5 Tryz.func100 (by kernel_rfl) (by kernel_rfl) (by kernel_rfl) (by kernel_rfl)
theorem Amz:Bw E0.P 109 ai_digits_taker_1.code 23 [.tmp 2]:=Bn _ _ Tryz.f109 [] [2] _ 23 Tryz.func109 (by kernel_rfl) (by kernel_rfl) (by kernel_rfl) (by kernel_rfl)
theorem Yn:Bw E0.P 73 ai_strings_Builder_WriteString.code 19 [.tmp 4, .tmp 5]:=Bn _ _ Tryz.f73 [] [4,5] _ 19 Tryz.func73 (by kernel_rfl) (by kernel_rfl) (by kernel_rfl) (by kernel_rfl)
theorem Z9:Bw E0.P 47 ai_strings_Builder_WriteByte.code 17 [.tmp 4]:=Bn _ _ Tryz.f47 [] [4] _ 17 Tryz.func47 (by kernel_rfl) (by kernel_rfl) (by kernel_rfl) (by kernel_rfl)
theorem Ada:Bw E0.P 51 ai_strings_Builder_String.code 14 [.tmp 2]:=Bn _ _ Tryz.f51 [] [2] _ 14 Tryz.func51 (by kernel_rfl) (by kernel_rfl) (by kernel_rfl) (by kernel_rfl)
theorem Atv:Bw E0.P 17 ai_parse_none.code 6 [.cell 2 25, .tmp 3]:=Bn _ _ Tryz.f17 [] [2,3] _ 6 Tryz.func17 (by kernel_rfl) (by kernel_rfl) (by kernel_rfl) (by kernel_rfl)
theorem Avo:Bw E0.P 31 ai_token_bad.code 6 [.cell 2 46, .tmp 3]:=Bn _ _ Tryz.f31 [] [2,3] _ 6 Tryz.func31 (by kernel_rfl) (by kernel_rfl) (by kernel_rfl) (by kernel_rfl)
theorem Ahm:Bw E0.P 77 ai_token_scanner_told.code 13 [.cell 4 46, .tmp 5]:=Bn _ _ Tryz.f77 [] [4,5] _ 13 Tryz.func77 (by kernel_rfl) (by kernel_rfl) (by kernel_rfl) (by kernel_rfl)
theorem Ahk:Bw E0.P 75 ai_token_scanner_more.code 23 [.tmp 2, .tmp 3]:=Bn _ _ Tryz.f75 [] [2,3] _ 23 Tryz.func75 (by kernel_rfl) (by kernel_rfl) (by kernel_rfl) (by kernel_rfl)
theorem Ahl:Bw E0.P 56 ai_token_scanner_sign.code 18 [.cell 6 46, .tmp 7]:=Bn _ _ Tryz.f56 [] [6,7] _ 18 Tryz.func56 (by kernel_rfl) (by kernel_rfl) (by kernel_rfl) (by kernel_rfl)
theorem Agm:Bw E0.P 59 ai_token_scanner_twice.code 36 [.tmp 2]:=Bn _ _ Tryz.f59 [] [2] _ 36 Tryz.func59 (by kernel_rfl) (by kernel_rfl) (by kernel_rfl) (by kernel_rfl)
theorem Agl:Bw E0.P 79 ai_token_scanner_hex_1.code 37 []:=Bn _ _ Tryz.f79 [] [] _ 37 Tryz.func79 (by kernel_rfl) (by kernel_rfl) (by kernel_rfl) (by kernel_rfl)
theorem Agk:Bw E0.P 35 ai_parse_reader_inside.code 37 [.cell 4 25, .tmp 5]:=Bn _ _ Tryz.f35 [] [4,5] _ 37 Tryz.func35 (by kernel_rfl) (by kernel_rfl) (by kernel_rfl) (by kernel_rfl)
theorem Aii:Bw E0.P 62 ai_parse_cursor_peek.code 15 [.cell 2 46, .tmp 3]:=Bn _ _ Tryz.f62 [] [2,3] _ 15 Tryz.func62 (by kernel_rfl) (by kernel_rfl) (by kernel_rfl) (by kernel_rfl)
theorem Bcm:∀f ac nt rs,E0.inl f=some (ac,nt,rs)→Bw E0.P f ac.code nt rs:=by
 refine Bbj A53 fun x hx=> ?_
 simp only [A53,List.mem_cons,List.not_mem_nil,or_false]at hx
 rcases hx with rfl |rfl |rfl |rfl |rfl |rfl |rfl |rfl |rfl |rfl |rfl |rfl |rfl |rfl
 ·exact Aqi
 ·exact Amz
 ·exact Yn
 ·exact Z9
 ·exact Ada
 ·exact Atv
 ·exact Avo
 ·exact Ahm
 ·exact Ahk
 ·exact Ahl
 ·exact Agm
 ·exact Agl
 ·exact Agk
 ·exact Aii
theorem Bdf:Adu E0:=⟨A2i _ _ (by kernel_rfl),by kernel_rfl,Bbz,Bcm⟩
theorem Bb(nt:Nat):Adu (A7 E0 nt):=A95 E0 Bdf nt
abbrev KK:=Ex→St→Prop
abbrev QQ:=AV→Heap→Prop
abbrev LL:=List (List IV)
abbrev Ai(n:Int):AV:= .imm (.int .i64 n)
abbrev As(s:List UInt8):AV:= .imm (.str s)
abbrev Ab(b:Bool):AV:= .imm (.bool b)
abbrev Al(n:Nat)(r:LL):AV:= .imm (.sl .any n r)
theorem kr {p q:Prop} (h:p=q)(x:p):q:=cast h x
def kE(f:St→Prop):KK
 | .normal,st=>f st
 | .exit _,_=>False
 | .goto _,_=>False
 | .ret,st=>f st
def kP(m:List Nat)(K:KK):KK
 | .normal,st=>K .normal (mask m st)
 | .exit i,st=>K (.exit i) st
 | .goto i,st=>K (.goto i) st
 | .ret,st=>K .ret st
def kF(n:Nat)(f r:St→Prop):KK
 | .normal,st=>f st
 | .exit i,st=>match i.beq n with |true=>f st |false=>False
 | .goto _,_=>False
 | .ret,st=>r st
def kC(n:Nat)(f:St→Prop)(K:KK):KK
 | .normal,st=>f st
 | .exit i,st=>match i.beq n with |true=>f st |false=>K (.exit i) st
 | .goto i,st=>K (.goto i) st
 | .ret,st=>K .ret st
abbrev LB:=List UInt8
abbrev Ad:Nm:= .arg 0
abbrev Ar:Nm:= .arg 1
abbrev nL0:Nm:= .loc 0
abbrev Fp:Nm:= .loc 1
abbrev nL2:Nm:= .loc 2
abbrev nL3:Nm:= .loc 3
abbrev nL4:Nm:= .loc 4
abbrev nL5:Nm:= .loc 5
abbrev nL6:Nm:= .loc 6
abbrev nL7:Nm:= .loc 7
abbrev Bbn:Nm:= .loc 11
abbrev Bbo:Nm:= .loc 13
abbrev Zt:Nm:= .loc 37
end Go.Proofs.Sim.Se
