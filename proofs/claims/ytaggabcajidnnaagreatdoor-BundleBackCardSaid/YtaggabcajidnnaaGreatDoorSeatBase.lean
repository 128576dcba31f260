import Derived.Test.YtaggabcajidnnaaGreatDoorSeatEnv
import Derived.Test.YtaggabcajidnnaaGreatDoorSimPQ
import Derived.WalkKit
import Derived.Lib.Builder
import Derived.Laws.Externs
namespace Go.Proofs.Sim.Se
open Go Go.Proofs Go.Proofs.Sim
set_option maxRecDepth 100000
theorem Bka(b:Nat)(w:World)(h0:w.cell? ⟨b,0,none⟩=some (.pointer (some ⟨b,0,none⟩))):
 Calls Tryz.prog Rx #[.pointer (some ⟨b,0,none⟩)] w fun e w'=>e= .returned (.tuple #[])∧w'=w:=by
 have u55:Tryz.prog.underlying 138=some (.pointer 140):=by kernel_rfl
 obtain⟨j,hj,hjs⟩:=Option.map_eq_some_iff.1 (show(Tryz.prog.info? 140).map (·.size)=some 2 by kernel_rfl)
 go_enter Tryz.func142,Tryz.ntmps142
 go_wp2
 rw [Lib.run_neq_ptr_same w _ u55 hj]
 go_wp2
 go_end0
 exact⟨rfl,rfl⟩
theorem Bgm(b:Nat)(w:World)(h0:w.cell? ⟨b,0,none⟩=some (.pointer none))(hsh:w.shape? b=some (140,2))(hfz:w.frozen? ⟨b,0,none⟩=false):
 Calls Tryz.prog Rx #[.pointer (some ⟨b,0,none⟩)] w fun e w'=>e= .returned (.tuple #[])∧w'=w.setCell ⟨b,0,none⟩ (.pointer (some ⟨b,0,none⟩)):=by
 have u55:Tryz.prog.underlying 138=some (.pointer 140):=by kernel_rfl
 have u96:Tryz.prog.underlying 181=some .unsafePointer:=by kernel_rfl
 obtain⟨j,hj,hjs⟩:=Option.map_eq_some_iff.1 (show(Tryz.prog.info? 140).map (·.size)=some 2 by kernel_rfl)
 go_enter Tryz.func142,Tryz.ntmps142
 go_wp2
 rw [Lib.run_to_unsafe w ⟨b,0,none⟩ u55 u96 hj (by rw [hjs];decide) hsh (Nat.zero_lt_succ 1)]
 simp only [Result.andThen]
 rw [Oper.upon_value]
 go_wp2
 rw [run_callFunc_extern Tryz.func157 (by kernel_rfl) (by kernel_rfl) (by kernel_rfl) (e:=Extern.AbiNoEscape.same) (by kernel_rfl)]
 rw [Lib.run_noEscape]
 simp only [Result.andThen]
 rw [Oper.upon_value]
 go_wp2
 rw [Lib.run_from_unsafe w ⟨b,0,none⟩ u96 u55 hj hsh (by kernel_rfl)]
 simp only [Result.andThen]
 rw [Oper.upon_value]
 go_wp2
 go_end0
 exact⟨rfl,rfl⟩
theorem Bn7:∀f bt,E0.self f=some bt→Uq E0.P f bt:=by
 intro f bt h
 have h:Bbt Bcn f=some bt:=h
 simp only [Bcn,Bbt]at h
 split at h
 ·rename_i hf
  have:142=f:=by simpa using hf
  subst this
  injection h with h
  subst h
  exact⟨fun b w h0=>Axo Tryz.func142 (by kernel_rfl) (by kernel_rfl) ((Bka b w h0).mono fun e w' ⟨h1,h2⟩=>⟨_,h1,rfl,h2⟩),
   fun b w h0 h1 h2=>Axo Tryz.func142 (by kernel_rfl) (by kernel_rfl) ((Bgm b w h0 h1 h2).mono fun e w' ⟨h1,h2⟩=>⟨_,h1,rfl,h2⟩)⟩
 ·cases h
theorem Ayg:Be E0.P 166 Alc.code 5 [.tmp 2]:=Tw _ _ Tryz.f166 [] [2] _ 5 Tryz.func166 (by kernel_rfl) (by kernel_rfl) (by kernel_rfl) (by kernel_rfl)
theorem Aty:Be E0.P 172 Ahl.code 23 [.tmp 2]:=Tw _ _ Tryz.f172 [] [2] _ 23 Tryz.func172 (by kernel_rfl) (by kernel_rfl) (by kernel_rfl) (by kernel_rfl)
theorem Abv:Be E0.P 144 P5.code 19 [.tmp 4, .tmp 5]:=Tw _ _ Tryz.f144 [] [4,5] _ 19 Tryz.func144 (by kernel_rfl) (by kernel_rfl) (by kernel_rfl) (by kernel_rfl)
theorem Adn:Be E0.P 111 Ro.code 17 [.tmp 4]:=Tw _ _ Tryz.f111 [] [4] _ 17 Tryz.func111 (by kernel_rfl) (by kernel_rfl) (by kernel_rfl) (by kernel_rfl)
theorem Ag4:Be E0.P 115 Vr.code 14 [.tmp 2]:=Tw _ _ Tryz.f115 [] [2] _ 14 Tryz.func115 (by kernel_rfl) (by kernel_rfl) (by kernel_rfl) (by kernel_rfl)
theorem A27:Be E0.P 65 Aqe.code 6 [.cell 2 28, .tmp 3]:=Tw _ _ Tryz.f65 [] [2,3] _ 6 Tryz.func65 (by kernel_rfl) (by kernel_rfl) (by kernel_rfl) (by kernel_rfl)
theorem A5l:Be E0.P 63 As7.code 6 [.cell 2 78, .tmp 3]:=Tw _ _ Tryz.f63 [] [2,3] _ 6 Tryz.func63 (by kernel_rfl) (by kernel_rfl) (by kernel_rfl) (by kernel_rfl)
theorem Amk:Be E0.P 127 Abi.code 13 [.cell 4 78, .tmp 5]:=Tw _ _ Tryz.f127 [] [4,5] _ 13 Tryz.func127 (by kernel_rfl) (by kernel_rfl) (by kernel_rfl) (by kernel_rfl)
theorem Ami:Be E0.P 125 Abg.code 23 [.tmp 2, .tmp 3]:=Tw _ _ Tryz.f125 [] [2,3] _ 23 Tryz.func125 (by kernel_rfl) (by kernel_rfl) (by kernel_rfl) (by kernel_rfl)
theorem Amj:Be E0.P 91 Abh.code 18 [.cell 6 78, .tmp 7]:=Tw _ _ Tryz.f91 [] [6,7] _ 18 Tryz.func91 (by kernel_rfl) (by kernel_rfl) (by kernel_rfl) (by kernel_rfl)
theorem Aky:Be E0.P 94 Zn.code 36 [.tmp 2]:=Tw _ _ Tryz.f94 [] [2] _ 36 Tryz.func94 (by kernel_rfl) (by kernel_rfl) (by kernel_rfl) (by kernel_rfl)
theorem Akx:Be E0.P 129 Zm.code 37 []:=Tw _ _ Tryz.f129 [] [] _ 37 Tryz.func129 (by kernel_rfl) (by kernel_rfl) (by kernel_rfl) (by kernel_rfl)
theorem Akw:Be E0.P 135 Zl.code 37 [.cell 4 28, .tmp 5]:=Tw _ _ Tryz.f135 [] [4,5] _ 37 Tryz.func135 (by kernel_rfl) (by kernel_rfl) (by kernel_rfl) (by kernel_rfl)
theorem Aob:Be E0.P 152 Acp.code 15 [.cell 2 78, .tmp 3]:=Tw _ _ Tryz.f152 [] [2,3] _ 15 Tryz.func152 (by kernel_rfl) (by kernel_rfl) (by kernel_rfl) (by kernel_rfl)
theorem Box:∀f ac nt rs,E0.inl f=some (ac,nt,rs)→Be E0.P f ac.code nt rs:=by
 refine Bnm Bhi fun x hx=> ?_
 simp only [Bhi,List.mem_cons,List.not_mem_nil,or_false]at hx
 rcases hx with rfl |rfl |rfl |rfl |rfl |rfl |rfl |rfl |rfl |rfl |rfl |rfl |rfl |rfl
 ·exact Ayg
 ·exact Aty
 ·exact Abv
 ·exact Adn
 ·exact Ag4
 ·exact A27
 ·exact A5l
 ·exact Amk
 ·exact Ami
 ·exact Amj
 ·exact Aky
 ·exact Akx
 ·exact Akw
 ·exact Aob
theorem Bpp:Ahs E0:=⟨Bdj _ _ (by kernel_rfl),by kernel_rfl,Bn7,Box⟩
theorem okE(nt:Nat):Ahs (Al5 E0 nt):=Bl0 E0 Bpp nt
abbrev KK:=Ex→St→Prop
abbrev QQ:=AV→Heap→Prop
abbrev LL:=List (List IV)
abbrev Ai(n:Int):AV:= .imm (.int .i64 n)
abbrev As(s:List UInt8):AV:= .imm (.str s)
abbrev Ab(b:Bool):AV:= .imm (.bool b)
abbrev Al(n:Nat)(r:LL):AV:= .imm (.sl .any n r)
theorem kr {p q:Prop} (h:p=q)(x:p):q:=cast h x
def kE(f:St→Prop):KK
 | .normal,st=>f st
 | .exit _,_=>False
 | .goto _,_=>False
 | .ret,st=>f st
def kP(m:List Nat)(K:KK):KK
 | .normal,st=>K .normal (mask m st)
 | .exit i,st=>K (.exit i) st
 | .goto i,st=>K (.goto i) st
 | .ret,st=>K .ret st
def kF(n:Nat)(f r:St→Prop):KK
 | .normal,st=>f st
 | .exit i,st=>match i.beq n with |true=>f st |false=>False
 | .goto _,_=>False
 | .ret,st=>r st
def kC(n:Nat)(f:St→Prop)(K:KK):KK
 | .normal,st=>f st
 | .exit i,st=>match i.beq n with |true=>f st |false=>K (.exit i) st
 | .goto i,st=>K (.goto i) st
 | .ret,st=>K .ret st
abbrev LB:=List UInt8
abbrev Ae:Nm:= .arg 0
abbrev Ar:Nm:= .arg 1
abbrev nL0:Nm:= .loc 0
abbrev Fh:Nm:= .loc 1
abbrev nL2:Nm:= .loc 2
abbrev nL3:Nm:= .loc 3
abbrev nL4:Nm:= .loc 4
abbrev nL5:Nm:= .loc 5
abbrev Ng:Nm:= .loc 6
abbrev nL7:Nm:= .loc 7
abbrev Bns:Nm:= .loc 11
abbrev Bnt:Nm:= .loc 13
abbrev Ada:Nm:= .loc 37
abbrev Bb5:Nm:= .loc 73
theorem kq {p q:Prop} (x:p)(h:p=q:=by kernel_rfl):q:=cast h x
theorem fq {f nt:Nat} {fn:Func} {pl:A6c} {l:List Nat} {rs:List ResultVar} (h1:E0.P.funcs[f]? =some fn)(h2:Aux fn.body=true:=by kernel_rfl)(h3:fn.ntmps=nt:=by kernel_rfl)(h4:fn.results=rs.toArray:=by kernel_rfl)(h5:(fn.name == "runtime.NumGoroutine")=false:=by kernel_rfl):Be E0.P f (A8 pl l (codeOf fn) 0).1.code nt rs:=Tw _ f fn pl l rs nt h1 h2 h3 h4 h5
theorem fR {nt f:Nat} {ac:AC} {rs:List ResultVar} (m:Nat)(hf:Be E0.P f ac.code nt rs) {args:List AV} {hp:Heap} {Q:QQ} {A:Prop} (x:A)(e:A=Bi7 (Al5 E0 nt) 3 m ac rs args hp Q:=by kernel_rfl)(hl:Nat.ble args.length nt=true:=by exact rfl)(hw:A2l args=true:=by exact rfl):Call E0.P f args hp Q:=Bg9 (Al5 E0 nt) (okE nt) 3 m f ac rs hf args hp Q hl hw (cast e x)
theorem lR {nt n:Nat} {ac:AC} (live:List Nat) {st:St} {K:KK} {A:Prop} (x:A)(e:A=eval (Al5 E0 nt) (inlD (Al5 E0 nt) 3) ac st (Bje n E0.P nt ac.code live K):=by kernel_rfl)(hw:Amc st.tm=true:=by exact rfl):Bc n E0.P nt ac.code st K:=Bep (Al5 E0 nt) (okE nt) 3 n ac live st K hw (cast e x)
theorem cR {nt n:Nat} {ac:AC} (live:List Nat) {st:St} {K:KK} {A:Prop} (x:A)(e:A=eval (Al5 E0 nt) (inlD (Al5 E0 nt) 3) ac st (Bm8 live K):=by kernel_rfl)(hw:Amc st.tm=true:=by exact rfl):Aq n E0.P nt ac.code st K:=Bgv (Al5 E0 nt) (okE nt) 3 n ac live st K hw (cast e x)
end Go.Proofs.Sim.Se
