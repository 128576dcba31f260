import Derived.Test.YtcdjheflchglaaaDoorSeatEnv
import Derived.Test.YtcdjheflchglaaaDoorSimPQ
import Derived.WalkKit
import Derived.Lib.Builder
import Derived.Laws.Externs
namespace Go.Proofs.Sim.Se
open Go Go.Proofs Go.Proofs.Sim
set_option maxRecDepth 100000
theorem Ay6(b:Nat)(w:World)(h0:w.cell? ⟨b,0,none⟩=some (.pointer (some ⟨b,0,none⟩))):
 Calls Tryd.prog Mo #[.pointer (some ⟨b,0,none⟩)] w fun e w'=>e= .returned (.tuple #[])∧w'=w:=by
 have u55:Tryd.prog.underlying 60=some (.pointer 63):=by kernel_rfl
 obtain⟨j,hj,hjs⟩:=Option.map_eq_some_iff.1 (show(Tryd.prog.info? 63).map (·.size)=some 2 by kernel_rfl)
 go_enter Tryd.func68,Tryd.ntmps68
 go_wp2
 rw [Lib.run_neq_ptr_same w _ u55 hj]
 go_wp2
 go_end0
 exact⟨rfl,rfl⟩
theorem Awk(b:Nat)(w:World)(h0:w.cell? ⟨b,0,none⟩=some (.pointer none))(hsh:w.shape? b=some (63,2))(hfz:w.frozen? ⟨b,0,none⟩=false):
 Calls Tryd.prog Mo #[.pointer (some ⟨b,0,none⟩)] w fun e w'=>e= .returned (.tuple #[])∧w'=w.setCell ⟨b,0,none⟩ (.pointer (some ⟨b,0,none⟩)):=by
 have u55:Tryd.prog.underlying 60=some (.pointer 63):=by kernel_rfl
 have u96:Tryd.prog.underlying 137=some .unsafePointer:=by kernel_rfl
 obtain⟨j,hj,hjs⟩:=Option.map_eq_some_iff.1 (show(Tryd.prog.info? 63).map (·.size)=some 2 by kernel_rfl)
 go_enter Tryd.func68,Tryd.ntmps68
 go_wp2
 rw [Lib.run_to_unsafe w ⟨b,0,none⟩ u55 u96 hj (by rw [hjs];decide) hsh (Nat.zero_lt_succ 1)]
 simp only [Result.andThen]
 rw [Oper.upon_value]
 go_wp2
 rw [run_callFunc_extern Tryd.func103 (by kernel_rfl) (by kernel_rfl) (by kernel_rfl) (e:=Extern.AbiNoEscape.same) (by kernel_rfl)]
 rw [Lib.run_noEscape]
 simp only [Result.andThen]
 rw [Oper.upon_value]
 go_wp2
 rw [Lib.run_from_unsafe w ⟨b,0,none⟩ u96 u55 hj hsh (by kernel_rfl)]
 simp only [Result.andThen]
 rw [Oper.upon_value]
 go_wp2
 go_end0
 exact⟨rfl,rfl⟩
theorem A1r:∀f bt,E0.self f=some bt→Oc E0.P f bt:=by
 intro f bt h
 have h:Asx Atj f=some bt:=h
 simp only [Atj,Asx]at h
 split at h
 ·rename_i hf
  have:68=f:=by simpa using hf
  subst this
  injection h with h
  subst h
  exact⟨fun b w h0=>Aio Tryd.func68 (by kernel_rfl) (by kernel_rfl) ((Ay6 b w h0).mono fun e w' ⟨h1,h2⟩=>⟨_,h1,rfl,h2⟩),
   fun b w h0 h1 h2=>Aio Tryd.func68 (by kernel_rfl) (by kernel_rfl) ((Awk b w h0 h1 h2).mono fun e w' ⟨h1,h2⟩=>⟨_,h1,rfl,h2⟩)⟩
 ·cases h
theorem Ai2:Cf E0.P 124 ai_digits_taker.code 5 [.tmp 2]:=Bu _ _ Tryd.f124 [] [2] _ 5 Tryd.func124 (by kernel_rfl) (by kernel_rfl) (by kernel_rfl) (by kernel_rfl)
theorem Af8:Cf E0.P 137 ai_digits_taker_1.code 23 [.tmp 2]:=Bu _ _ Tryd.f137 [] [2] _ 23 Tryd.func137 (by kernel_rfl) (by kernel_rfl) (by kernel_rfl) (by kernel_rfl)
theorem Aeg:Cf E0.P 36 ai_crossing_putter.code 9 [.tmp 2, .tmp 3]:=Bu _ _ Tryd.f36 [] [2,3] _ 9 Tryd.func36 (by kernel_rfl) (by kernel_rfl) (by kernel_rfl) (by kernel_rfl)
theorem Ab4:Cf E0.P 72 ai_crossing_putter_1.code 21 []:=Bu _ _ Tryd.f72 [] [] _ 21 Tryd.func72 (by kernel_rfl) (by kernel_rfl) (by kernel_rfl) (by kernel_rfl)
theorem Ab5:Cf E0.P 74 ai_crossing_putter_2.code 4 [.tmp 1]:=Bu _ _ Tryd.f74 [] [1] _ 4 Tryd.func74 (by kernel_rfl) (by kernel_rfl) (by kernel_rfl) (by kernel_rfl)
theorem Ahk:Cf E0.P 32 ai_section_parts.code 3 [.tmp 0]:=Bu _ _ Tryd.f32 [] [0] _ 3 Tryd.func32 (by kernel_rfl) (by kernel_rfl) (by kernel_rfl) (by kernel_rfl)
theorem Aeh:Cf E0.P 69 ai_section_parts_1.code 11 [.tmp 3]:=Bu _ _ Tryd.f69 [] [3] _ 11 Tryd.func69 (by kernel_rfl) (by kernel_rfl) (by kernel_rfl) (by kernel_rfl)
theorem Aad:Cf E0.P 42 ai_section_reader_left.code 12 [.tmp 2]:=Bu _ _ Tryd.f42 [] [2] _ 12 Tryd.func42 (by kernel_rfl) (by kernel_rfl) (by kernel_rfl) (by kernel_rfl)
theorem Tn:Cf E0.P 31 ai_strings_Builder_WriteString.code 19 [.tmp 4, .tmp 5]:=Bu _ _ Tryd.f31 [] [4,5] _ 19 Tryd.func31 (by kernel_rfl) (by kernel_rfl) (by kernel_rfl) (by kernel_rfl)
theorem Vd:Cf E0.P 54 ai_strings_Builder_WriteByte.code 17 [.tmp 4]:=Bu _ _ Tryd.f54 [] [4] _ 17 Tryd.func54 (by kernel_rfl) (by kernel_rfl) (by kernel_rfl) (by kernel_rfl)
theorem X7:Cf E0.P 34 ai_strings_Builder_String.code 14 [.tmp 2]:=Bu _ _ Tryd.f34 [] [2] _ 14 Tryd.func34 (by kernel_rfl) (by kernel_rfl) (by kernel_rfl) (by kernel_rfl)
theorem Aae:Cf E0.P 123 ai_strings_Builder_Len.code 8 [.tmp 2]:=Bu _ _ Tryd.f123 [] [2] _ 8 Tryd.func123 (by kernel_rfl) (by kernel_rfl) (by kernel_rfl) (by kernel_rfl)
theorem A2e:∀f ac nt rs,E0.inl f=some (ac,nt,rs)→Cf E0.P f ac.code nt rs:=by
 refine A1i Axb fun x hx=> ?_
 simp only [Axb,List.mem_cons,List.not_mem_nil,or_false]at hx
 rcases hx with rfl |rfl |rfl |rfl |rfl |rfl |rfl |rfl |rfl |rfl |rfl |rfl
 ·exact Ai2
 ·exact Af8
 ·exact Aeg
 ·exact Ab4
 ·exact Ab5
 ·exact Ahk
 ·exact Aeh
 ·exact Aad
 ·exact Tn
 ·exact Vd
 ·exact X7
 ·exact Aae
theorem A2x:Aai E0:=⟨At8 _ _ (by kernel_rfl),by kernel_rfl,A1r,A2e⟩
theorem A8(nt:Nat):Aai (Ar E0 nt):=A0e E0 A2x nt
abbrev KK:=Ex→St→Prop
abbrev QQ:=AV→Heap→Prop
abbrev LL:=List (List IV)
abbrev Ai(n:Int):AV:= .imm (.int .i64 n)
abbrev As(s:List UInt8):AV:= .imm (.str s)
abbrev Ab(b:Bool):AV:= .imm (.bool b)
abbrev Al(n:Nat)(r:LL):AV:= .imm (.sl .any n r)
theorem kr {p q:Prop} (h:p=q)(x:p):q:=cast h x
def kE(f:St→Prop):KK
 | .normal,st=>f st
 | .exit _,_=>False
 | .goto _,_=>False
 | .ret,st=>f st
def kP(m:List Nat)(K:KK):KK
 | .normal,st=>K .normal (mask m st)
 | .exit i,st=>K (.exit i) st
 | .goto i,st=>K (.goto i) st
 | .ret,st=>K .ret st
def kF(n:Nat)(f r:St→Prop):KK
 | .normal,st=>f st
 | .exit i,st=>match i.beq n with |true=>f st |false=>False
 | .goto _,_=>False
 | .ret,st=>r st
def kC(n:Nat)(f:St→Prop)(K:KK):KK
 | .normal,st=>f st
 | .exit i,st=>match i.beq n with |true=>f st |false=>K (.exit i) st
 | .goto i,st=>K (.goto i) st
 | .ret,st=>K .ret st
abbrev LB:=List UInt8
abbrev Am:Nm:= .arg 0
abbrev nL0:Nm:= .loc 0
abbrev L6:Nm:= .loc 1
abbrev nL2:Nm:= .loc 2
abbrev nL3:Nm:= .loc 3
abbrev nL4:Nm:= .loc 4
abbrev nL5:Nm:= .loc 5
abbrev nL7:Nm:= .loc 7
abbrev A1l:Nm:= .loc 13
abbrev Uy:Nm:= .loc 37
end Go.Proofs.Sim.Se
