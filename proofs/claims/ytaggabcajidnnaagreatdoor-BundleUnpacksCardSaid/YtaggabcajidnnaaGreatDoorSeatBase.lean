import Derived.Test.YtaggabcajidnnaaGreatDoorSeatEnv
import Derived.Test.YtaggabcajidnnaaGreatDoorSimPQ
import Derived.WalkKit
import Derived.Lib.Builder
import Derived.Laws.Externs
namespace Go.Proofs.Sim.Se
open Go Go.Proofs Go.Proofs.Sim
set_option maxRecDepth 100000
theorem Bvf(b:Nat)(w:World)(h0:w.cell? ⟨b,0,none⟩=some (.pointer (some ⟨b,0,none⟩))):
 Calls Tryz.prog Tm #[.pointer (some ⟨b,0,none⟩)] w fun e w'=>e= .returned (.tuple #[])∧w'=w:=by
 have u55:Tryz.prog.underlying 138=some (.pointer 140):=by kernel_rfl
 obtain⟨j,hj,hjs⟩:=Option.map_eq_some_iff.1 (show(Tryz.prog.info? 140).map (·.size)=some 2 by kernel_rfl)
 go_enter Tryz.func142,Tryz.ntmps142
 go_wp2
 rw [Lib.run_neq_ptr_same w _ u55 hj]
 go_wp2
 go_end0
 exact⟨rfl,rfl⟩
theorem Brg(b:Nat)(w:World)(h0:w.cell? ⟨b,0,none⟩=some (.pointer none))(hsh:w.shape? b=some (140,2))(hfz:w.frozen? ⟨b,0,none⟩=false):
 Calls Tryz.prog Tm #[.pointer (some ⟨b,0,none⟩)] w fun e w'=>e= .returned (.tuple #[])∧w'=w.setCell ⟨b,0,none⟩ (.pointer (some ⟨b,0,none⟩)):=by
 have u55:Tryz.prog.underlying 138=some (.pointer 140):=by kernel_rfl
 have u96:Tryz.prog.underlying 181=some .unsafePointer:=by kernel_rfl
 obtain⟨j,hj,hjs⟩:=Option.map_eq_some_iff.1 (show(Tryz.prog.info? 140).map (·.size)=some 2 by kernel_rfl)
 go_enter Tryz.func142,Tryz.ntmps142
 go_wp2
 rw [Lib.run_to_unsafe w ⟨b,0,none⟩ u55 u96 hj (by rw [hjs];decide) hsh (Nat.zero_lt_succ 1)]
 simp only [Result.andThen]
 rw [Oper.upon_value]
 go_wp2
 rw [run_callFunc_extern Tryz.func157 (by kernel_rfl) (by kernel_rfl) (by kernel_rfl) (e:=Extern.AbiNoEscape.same) (by kernel_rfl)]
 rw [Lib.run_noEscape]
 simp only [Result.andThen]
 rw [Oper.upon_value]
 go_wp2
 rw [Lib.run_from_unsafe w ⟨b,0,none⟩ u96 u55 hj hsh (by kernel_rfl)]
 simp only [Result.andThen]
 rw [Oper.upon_value]
 go_wp2
 go_end0
 exact⟨rfl,rfl⟩
theorem By6:∀f bt,E0.self f=some bt→Vu E0.P f bt:=by
 intro f bt h
 have h:Bms Bnp f=some bt:=h
 simp only [Bnp,Bms]at h
 split at h
 ·rename_i hf
  have:142=f:=by simpa using hf
  subst this
  injection h with h
  subst h
  exact⟨fun b w h0=>A48 Tryz.func142 (by kernel_rfl) (by kernel_rfl) ((Bvf b w h0).mono fun e w' ⟨h1,h2⟩=>⟨_,h1,rfl,h2⟩),
   fun b w h0 h1 h2=>A48 Tryz.func142 (by kernel_rfl) (by kernel_rfl) ((Brg b w h0 h1 h2).mono fun e w' ⟨h1,h2⟩=>⟨_,h1,rfl,h2⟩)⟩
 ·cases h
theorem A5y:Bd E0.P 166 Ap9.code 5 [.tmp 2]:=U7 _ _ Tryz.f166 [] [2] _ 5 Tryz.func166 (by kernel_rfl) (by kernel_rfl) (by kernel_rfl) (by kernel_rfl)
theorem Az0:Bd E0.P 172 Ak5.code 23 [.tmp 2]:=U7 _ _ Tryz.f172 [] [2] _ 23 Tryz.func172 (by kernel_rfl) (by kernel_rfl) (by kernel_rfl) (by kernel_rfl)
theorem Adr:Bd E0.P 144 Q9.code 19 [.tmp 4, .tmp 5]:=U7 _ _ Tryz.f144 [] [4,5] _ 19 Tryz.func144 (by kernel_rfl) (by kernel_rfl) (by kernel_rfl) (by kernel_rfl)
theorem Af4:Bd E0.P 111 Td.code 17 [.tmp 4]:=U7 _ _ Tryz.f111 [] [4] _ 17 Tryz.func111 (by kernel_rfl) (by kernel_rfl) (by kernel_rfl) (by kernel_rfl)
theorem Akh:Bd E0.P 115 Xi.code 14 [.tmp 2]:=U7 _ _ Tryz.f115 [] [2] _ 14 Tryz.func115 (by kernel_rfl) (by kernel_rfl) (by kernel_rfl) (by kernel_rfl)
theorem Bch:Bd E0.P 65 Awc.code 6 [.cell 2 28, .tmp 3]:=U7 _ _ Tryz.f65 [] [2,3] _ 6 Tryz.func65 (by kernel_rfl) (by kernel_rfl) (by kernel_rfl) (by kernel_rfl)
theorem Be5:Bd E0.P 63 Ay7.code 6 [.cell 2 78, .tmp 3]:=U7 _ _ Tryz.f63 [] [2,3] _ 6 Tryz.func63 (by kernel_rfl) (by kernel_rfl) (by kernel_rfl) (by kernel_rfl)
theorem Arr:Bd E0.P 127 Ade.code 13 [.cell 4 78, .tmp 5]:=U7 _ _ Tryz.f127 [] [4,5] _ 13 Tryz.func127 (by kernel_rfl) (by kernel_rfl) (by kernel_rfl) (by kernel_rfl)
theorem Arp:Bd E0.P 125 Adb.code 23 [.tmp 2, .tmp 3]:=U7 _ _ Tryz.f125 [] [2,3] _ 23 Tryz.func125 (by kernel_rfl) (by kernel_rfl) (by kernel_rfl) (by kernel_rfl)
theorem Arq:Bd E0.P 91 Adc.code 18 [.cell 6 78, .tmp 7]:=U7 _ _ Tryz.f91 [] [6,7] _ 18 Tryz.func91 (by kernel_rfl) (by kernel_rfl) (by kernel_rfl) (by kernel_rfl)
theorem Aph:Bd E0.P 94 Aba.code 36 [.tmp 2]:=U7 _ _ Tryz.f94 [] [2] _ 36 Tryz.func94 (by kernel_rfl) (by kernel_rfl) (by kernel_rfl) (by kernel_rfl)
theorem Apg:Bd E0.P 129 Aa9.code 37 []:=U7 _ _ Tryz.f129 [] [] _ 37 Tryz.func129 (by kernel_rfl) (by kernel_rfl) (by kernel_rfl) (by kernel_rfl)
theorem Apf:Bd E0.P 135 Aa8.code 37 [.cell 4 28, .tmp 5]:=U7 _ _ Tryz.f135 [] [4,5] _ 37 Tryz.func135 (by kernel_rfl) (by kernel_rfl) (by kernel_rfl) (by kernel_rfl)
theorem Atq:Bd E0.P 152 Aew.code 15 [.cell 2 78, .tmp 3]:=U7 _ _ Tryz.f152 [] [2,3] _ 15 Tryz.func152 (by kernel_rfl) (by kernel_rfl) (by kernel_rfl) (by kernel_rfl)
theorem Bzw:∀f ac nt rs,E0.inl f=some (ac,nt,rs)→Bd E0.P f ac.code nt rs:=by
 refine Bys Bsa fun x hx=> ?_
 simp only [Bsa,List.mem_cons,List.not_mem_nil,or_false]at hx
 rcases hx with rfl |rfl |rfl |rfl |rfl |rfl |rfl |rfl |rfl |rfl |rfl |rfl |rfl |rfl
 ·exact A5y
 ·exact Az0
 ·exact Adr
 ·exact Af4
 ·exact Akh
 ·exact Bch
 ·exact Be5
 ·exact Arr
 ·exact Arp
 ·exact Arq
 ·exact Aph
 ·exact Apg
 ·exact Apf
 ·exact Atq
theorem B0j:Alb E0:=⟨Bop _ _ (by kernel_rfl),by kernel_rfl,By6,Bzw⟩
theorem okE(nt:Nat):Alb (Aq5 E0 nt):=Bw3 E0 B0j nt
abbrev KK:=Ex→St→Prop
abbrev QQ:=AV→Heap→Prop
abbrev LL:=List (List IV)
abbrev Ai(n:Int):AV:= .imm (.int .i64 n)
abbrev As(s:List UInt8):AV:= .imm (.str s)
abbrev Ab(b:Bool):AV:= .imm (.bool b)
abbrev Al(n:Nat)(r:LL):AV:= .imm (.sl .any n r)
theorem kr {p q:Prop} (h:p=q)(x:p):q:=cast h x
def kE(f:St→Prop):KK
 | .normal,st=>f st
 | .exit _,_=>False
 | .goto _,_=>False
 | .ret,st=>f st
def kP(m:List Nat)(K:KK):KK
 | .normal,st=>K .normal (mask m st)
 | .exit i,st=>K (.exit i) st
 | .goto i,st=>K (.goto i) st
 | .ret,st=>K .ret st
def kF(n:Nat)(f r:St→Prop):KK
 | .normal,st=>f st
 | .exit i,st=>match i.beq n with |true=>f st |false=>False
 | .goto _,_=>False
 | .ret,st=>r st
def kC(n:Nat)(f:St→Prop)(K:KK):KK
 | .normal,st=>f st
 | .exit i,st=>match i.beq n with |true=>f st |false=>K (.exit i) st
 | .goto i,st=>K (.goto i) st
 | .ret,st=>K .ret st
abbrev LB:=List UInt8
abbrev Af:Nm:= .arg 0
abbrev Ar:Nm:= .arg 1
abbrev nL0:Nm:= .loc 0
abbrev Ej:Nm:= .loc 1
abbrev nL2:Nm:= .loc 2
abbrev nL3:Nm:= .loc 3
abbrev nL4:Nm:= .loc 4
abbrev nL5:Nm:= .loc 5
abbrev nL6:Nm:= .loc 6
abbrev nL7:Nm:= .loc 7
abbrev Ud:Nm:= .loc 8
abbrev Ip:Nm:= .loc 9
abbrev Afl:Nm:= .loc 10
abbrev Qi:Nm:= .loc 11
abbrev Byy:Nm:= .loc 13
abbrev Bbq:Nm:= .loc 15
abbrev Wm:Nm:= .loc 16
abbrev Azw:Nm:= .loc 26
abbrev Qj:Nm:= .loc 28
abbrev Afm:Nm:= .loc 37
abbrev Bm4:Nm:= .loc 73
abbrev Oa:Nm:= .loc 99
theorem kq {p q:Prop} (x:p)(h:p=q:=by kernel_rfl):q:=cast h x
theorem fq {f nt:Nat} {fn:Func} {pl:Bfz} {l:List Nat} {rs:List ResultVar} (h1:E0.P.funcs[f]? =some fn)(h2:A0u fn.body=true:=by kernel_rfl)(h3:fn.ntmps=nt:=by kernel_rfl)(h4:fn.results=rs.toArray:=by kernel_rfl)(h5:(fn.name == "runtime.NumGoroutine")=false:=by kernel_rfl):Bd E0.P f (A7 pl l (codeOf fn) 0).1.code nt rs:=U7 _ f fn pl l rs nt h1 h2 h3 h4 h5
theorem fR {nt f:Nat} {ac:AC} {rs:List ResultVar} (m:Nat)(hf:Bd E0.P f ac.code nt rs) {args:List AV} {hp:Heap} {Q:QQ} {A:Prop} (x:A)(e:A=Bty (Aq5 E0 nt) 3 m ac rs args hp Q:=by kernel_rfl)(hl:Nat.ble args.length nt=true:=by exact rfl)(hw:Bbs args=true:=by exact rfl):Call E0.P f args hp Q:=Br2 (Aq5 E0 nt) (okE nt) 3 m f ac rs hf args hp Q hl hw (cast e x)
theorem lR {nt n:Nat} {ac:AC} (live:List Nat) {st:St} {K:KK} {A:Prop} (x:A)(e:A=eval (Aq5 E0 nt) (inlD (Aq5 E0 nt) 3) ac st (Bt5 n E0.P nt ac.code live K):=by kernel_rfl)(hw:Arj st.tm=true:=by exact rfl):Ba n E0.P nt ac.code st K:=Bpo (Aq5 E0 nt) (okE nt) 3 n ac live st K hw (cast e x)
theorem cR {nt n:Nat} {ac:AC} (live:List Nat) {st:St} {K:KK} {A:Prop} (x:A)(e:A=eval (Aq5 E0 nt) (inlD (Aq5 E0 nt) 3) ac st (Byg live K):=by kernel_rfl)(hw:Arj st.tm=true:=by exact rfl):Ao n E0.P nt ac.code st K:=Brp (Aq5 E0 nt) (okE nt) 3 n ac live st K hw (cast e x)
end Go.Proofs.Sim.Se
