import Derived.Test.YtaggabcajidnnaaGreatDoorSeatEnv
import Derived.Test.YtaggabcajidnnaaGreatDoorSimPQ
import Derived.WalkKit
import Derived.Lib.Builder
import Derived.Laws.Externs
namespace Go.Proofs.Sim.Se
open Go Go.Proofs Go.Proofs.Sim
set_option maxRecDepth 100000
theorem Bq0(b:Nat)(w:World)(h0:w.cell? ⟨b,0,none⟩=some (.pointer (some ⟨b,0,none⟩))):
 Calls Tryz.prog Ti #[.pointer (some ⟨b,0,none⟩)] w fun e w'=>e= .returned (.tuple #[])∧w'=w:=by
 have u55:Tryz.prog.underlying 138=some (.pointer 140):=by kernel_rfl
 obtain⟨j,hj,hjs⟩:=Option.map_eq_some_iff.1 (show(Tryz.prog.info? 140).map (·.size)=some 2 by kernel_rfl)
 go_enter Tryz.func142,Tryz.ntmps142
 go_wp2
 rw [Lib.run_neq_ptr_same w _ u55 hj]
 go_wp2
 go_end0
 exact⟨rfl,rfl⟩
theorem Bne(b:Nat)(w:World)(h0:w.cell? ⟨b,0,none⟩=some (.pointer none))(hsh:w.shape? b=some (140,2))(hfz:w.frozen? ⟨b,0,none⟩=false):
 Calls Tryz.prog Ti #[.pointer (some ⟨b,0,none⟩)] w fun e w'=>e= .returned (.tuple #[])∧w'=w.setCell ⟨b,0,none⟩ (.pointer (some ⟨b,0,none⟩)):=by
 have u55:Tryz.prog.underlying 138=some (.pointer 140):=by kernel_rfl
 have u96:Tryz.prog.underlying 181=some .unsafePointer:=by kernel_rfl
 obtain⟨j,hj,hjs⟩:=Option.map_eq_some_iff.1 (show(Tryz.prog.info? 140).map (·.size)=some 2 by kernel_rfl)
 go_enter Tryz.func142,Tryz.ntmps142
 go_wp2
 rw [Lib.run_to_unsafe w ⟨b,0,none⟩ u55 u96 hj (by rw [hjs];decide) hsh (Nat.zero_lt_succ 1)]
 simp only [Result.andThen]
 rw [Oper.upon_value]
 go_wp2
 rw [run_callFunc_extern Tryz.func157 (by kernel_rfl) (by kernel_rfl) (by kernel_rfl) (e:=Extern.AbiNoEscape.same) (by kernel_rfl)]
 rw [Lib.run_noEscape]
 simp only [Result.andThen]
 rw [Oper.upon_value]
 go_wp2
 rw [Lib.run_from_unsafe w ⟨b,0,none⟩ u96 u55 hj hsh (by kernel_rfl)]
 simp only [Result.andThen]
 rw [Oper.upon_value]
 go_wp2
 go_end0
 exact⟨rfl,rfl⟩
theorem Buy:∀f bt,E0.self f=some bt→Vw E0.P f bt:=by
 intro f bt h
 have h:Bib Bja f=some bt:=h
 simp only [Bja,Bib]at h
 split at h
 ·rename_i hf
  have:142=f:=by simpa using hf
  subst this
  injection h with h
  subst h
  exact⟨fun b w h0=>A2r Tryz.func142 (by kernel_rfl) (by kernel_rfl) ((Bq0 b w h0).mono fun e w' ⟨h1,h2⟩=>⟨_,h1,rfl,h2⟩),
   fun b w h0 h1 h2=>A2r Tryz.func142 (by kernel_rfl) (by kernel_rfl) ((Bne b w h0 h1 h2).mono fun e w' ⟨h1,h2⟩=>⟨_,h1,rfl,h2⟩)⟩
 ·cases h
theorem A3c:Bo E0.P 166 ai_digits_taker.code 5 [.tmp 2]:=Bh _ _ Tryz.f166 [] [2] _ 5 Tryz.func166 (by kernel_rfl) (by kernel_rfl) (by kernel_rfl) (by kernel_rfl)
theorem Axk:Bo E0.P 172 ai_digits_taker_1.code 23 [.tmp 2]:=Bh _ _ Tryz.f172 [] [2] _ 23 Tryz.func172 (by kernel_rfl) (by kernel_rfl) (by kernel_rfl) (by kernel_rfl)
theorem Acw:Bo E0.P 144 ai_strings_Builder_WriteString.code 19 [.tmp 4, .tmp 5]:=Bh _ _ Tryz.f144 [] [4,5] _ 19 Tryz.func144 (by kernel_rfl) (by kernel_rfl) (by kernel_rfl) (by kernel_rfl)
theorem Aes:Bo E0.P 111 ai_strings_Builder_WriteByte.code 17 [.tmp 4]:=Bh _ _ Tryz.f111 [] [4] _ 17 Tryz.func111 (by kernel_rfl) (by kernel_rfl) (by kernel_rfl) (by kernel_rfl)
theorem Ai9:Bo E0.P 115 ai_strings_Builder_String.code 14 [.tmp 2]:=Bh _ _ Tryz.f115 [] [2] _ 14 Tryz.func115 (by kernel_rfl) (by kernel_rfl) (by kernel_rfl) (by kernel_rfl)
theorem A8s:Bo E0.P 65 ai_parse_none.code 6 [.cell 2 28, .tmp 3]:=Bh _ _ Tryz.f65 [] [2,3] _ 6 Tryz.func65 (by kernel_rfl) (by kernel_rfl) (by kernel_rfl) (by kernel_rfl)
theorem Bbb:Bo E0.P 63 ai_token_bad.code 6 [.cell 2 78, .tmp 3]:=Bh _ _ Tryz.f63 [] [2,3] _ 6 Tryz.func63 (by kernel_rfl) (by kernel_rfl) (by kernel_rfl) (by kernel_rfl)
theorem Apn:Bo E0.P 127 ai_token_scanner_told.code 13 [.cell 4 78, .tmp 5]:=Bh _ _ Tryz.f127 [] [4,5] _ 13 Tryz.func127 (by kernel_rfl) (by kernel_rfl) (by kernel_rfl) (by kernel_rfl)
theorem Apl:Bo E0.P 125 ai_token_scanner_more.code 23 [.tmp 2, .tmp 3]:=Bh _ _ Tryz.f125 [] [2,3] _ 23 Tryz.func125 (by kernel_rfl) (by kernel_rfl) (by kernel_rfl) (by kernel_rfl)
theorem Apm:Bo E0.P 91 ai_token_scanner_sign.code 18 [.cell 6 78, .tmp 7]:=Bh _ _ Tryz.f91 [] [6,7] _ 18 Tryz.func91 (by kernel_rfl) (by kernel_rfl) (by kernel_rfl) (by kernel_rfl)
theorem Anp:Bo E0.P 94 ai_token_scanner_twice.code 36 [.tmp 2]:=Bh _ _ Tryz.f94 [] [2] _ 36 Tryz.func94 (by kernel_rfl) (by kernel_rfl) (by kernel_rfl) (by kernel_rfl)
theorem Ano:Bo E0.P 129 ai_token_scanner_hex_1.code 37 []:=Bh _ _ Tryz.f129 [] [] _ 37 Tryz.func129 (by kernel_rfl) (by kernel_rfl) (by kernel_rfl) (by kernel_rfl)
theorem Ann:Bo E0.P 135 ai_parse_reader_inside.code 37 [.cell 4 28, .tmp 5]:=Bh _ _ Tryz.f135 [] [4,5] _ 37 Tryz.func135 (by kernel_rfl) (by kernel_rfl) (by kernel_rfl) (by kernel_rfl)
theorem Arh:Bo E0.P 152 ai_parse_cursor_peek.code 15 [.cell 2 78, .tmp 3]:=Bh _ _ Tryz.f152 [] [2,3] _ 15 Tryz.func152 (by kernel_rfl) (by kernel_rfl) (by kernel_rfl) (by kernel_rfl)
theorem Bvy:∀f ac nt rs,E0.inl f=some (ac,nt,rs)→Bo E0.P f ac.code nt rs:=by
 refine Buc Boa fun x hx=> ?_
 simp only [Boa,List.mem_cons,List.not_mem_nil,or_false]at hx
 rcases hx with rfl |rfl |rfl |rfl |rfl |rfl |rfl |rfl |rfl |rfl |rfl |rfl |rfl |rfl
 ·exact A3c
 ·exact Axk
 ·exact Acw
 ·exact Aes
 ·exact Ai9
 ·exact A8s
 ·exact Bbb
 ·exact Apn
 ·exact Apl
 ·exact Apm
 ·exact Anp
 ·exact Ano
 ·exact Ann
 ·exact Arh
theorem Bwr:Aj3 E0:=⟨Bkb _ _ (by kernel_rfl),by kernel_rfl,Buy,Bvy⟩
theorem Az(nt:Nat):Aj3 (Ar E0 nt):=Bsn E0 Bwr nt
abbrev KK:=Ex→St→Prop
abbrev QQ:=AV→Heap→Prop
abbrev LL:=List (List IV)
abbrev Ai(n:Int):AV:= .imm (.int .i64 n)
abbrev As(s:List UInt8):AV:= .imm (.str s)
abbrev Ab(b:Bool):AV:= .imm (.bool b)
abbrev Al(n:Nat)(r:LL):AV:= .imm (.sl .any n r)
theorem kr {p q:Prop} (h:p=q)(x:p):q:=cast h x
def kE(f:St→Prop):KK
 | .normal,st=>f st
 | .exit _,_=>False
 | .goto _,_=>False
 | .ret,st=>f st
def kP(m:List Nat)(K:KK):KK
 | .normal,st=>K .normal (mask m st)
 | .exit i,st=>K (.exit i) st
 | .goto i,st=>K (.goto i) st
 | .ret,st=>K .ret st
def kF(n:Nat)(f r:St→Prop):KK
 | .normal,st=>f st
 | .exit i,st=>match i.beq n with |true=>f st |false=>False
 | .goto _,_=>False
 | .ret,st=>r st
def kC(n:Nat)(f:St→Prop)(K:KK):KK
 | .normal,st=>f st
 | .exit i,st=>match i.beq n with |true=>f st |false=>K (.exit i) st
 | .goto i,st=>K (.goto i) st
 | .ret,st=>K .ret st
abbrev LB:=List UInt8
abbrev Af:Nm:= .arg 0
abbrev Ay:Nm:= .arg 1
abbrev nL0:Nm:= .loc 0
abbrev Dc:Nm:= .loc 1
abbrev nL2:Nm:= .loc 2
abbrev nL3:Nm:= .loc 3
abbrev nL4:Nm:= .loc 4
abbrev nL5:Nm:= .loc 5
abbrev Oz:Nm:= .loc 6
abbrev nL7:Nm:= .loc 7
abbrev Rz:Nm:= .loc 8
abbrev Bui:Nm:= .loc 11
abbrev Buj:Nm:= .loc 13
abbrev Axf:Nm:= .loc 26
abbrev Ql:Nm:= .loc 28
abbrev Aeg:Nm:= .loc 37
abbrev Bio:Nm:= .loc 73
end Go.Proofs.Sim.Se
