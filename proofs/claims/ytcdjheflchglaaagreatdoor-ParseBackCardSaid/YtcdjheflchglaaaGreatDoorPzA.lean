import Derived.Test.YtcdjheflchglaaaGreatDoorPbB
import Derived.Test.YtcdjheflchglaaaGreatDoorBkA
import Derived.Test.YtcdjheflchglaaaGreatDoorWrB
set_option maxRecDepth 100000
namespace Go.Proofs.Sim.Se
open Go Go.Proofs Go.Proofs.Sim Go.Proofs.Sim.Va Go.Proofs.Sim.St Go.Proofs.Sim.Pa Go.RowKit
theorem Ayg {s:List UInt8} {a:Nat} {v:V} {rest:List UInt8} (hv:Md 0 v)(_ha:a≤s.length)(h:s.drop a=v.wr++rest)(hr:Qv rest)(hc:v.k=2→Od s (a+v.wr.length)=none)(b:Nat)(hb:b≤s.length)(hn:Ao s (b:Int)=Ao s (a:Int)):Vn s (b:Int)=(v.plain,a+v.wr.length,0):=by
 have e:Dt s (s.length+1) 0 b=(v,a+v.wr.length,0):=by
  have:=A6y hv s (s.length+1) a rest (by omega) h hr hc
  rw [Dt]at this ⊢
  rw [hn];exact this
 unfold Vn
 rw [Azo hb,e]
 simp
theorem A9m {s:List UInt8} {v:V} {e x y:Nat} (h:Vn s 0=(v,e,0))(hn:Ao s (e:Int)=⟨0,0,0,[],x,y⟩):Ah7 s=(v,0):=by
 unfold Ah7
 rw [h]
 simp only
 rw [if_neg (by decide),hn]
 simp
theorem A3c(v:V)(hv:Md 0 v):Ah7 v.wr=(v.plain,0):=by
 have hd:v.wr.drop v.wr.length=[]:=List.drop_length
 have hn:=A5t (s:=v.wr) (a:=v.wr.length) hd (Nat.le_refl _)
 have h0:v.wr.drop 0=v.wr++[]:=by simp
 have:=Ayg (s:=v.wr) (a:=0) hv (Nat.zero_le _) h0 A79 (fun _=>by
  rw [Nat.zero_add,Od,hn];simp) 0 (Nat.zero_le _) rfl
 rw [Nat.zero_add]at this
 exact A9m this hn
theorem A5s(s:List UInt8)(v:V)(hv:Md 0 v):Vn (s++v.wr++[32,93]) (s.length:Int)=(v.plain,s.length+v.wr.length,0):=by
 have h:(s++v.wr++[32,93]).drop s.length=v.wr++[32,93]:=by rw [List.append_assoc,List.drop_left]
 have h2:=Ii h
 have e:=Ar4 (Wt h2)
 exact Ayg hv (by simp) h (L8 _ (by decide)) (fun _=>(Aj7 h2 (Asz (by rw [e];simp) (by rw [e];simp))).1) _ (by simp) rfl
end Go.Proofs.Sim.Se
set_option maxRecDepth 100000
namespace Go.Proofs.Sim.Se
open Go Go.Proofs Go.Proofs.Sim Go.Proofs.Sim.Va Go.Proofs.Sim.St Go.Proofs.Sim.Pa Go.RowKit
abbrev AG(x:V):AV:= .imm (.agg [.int .i64 (gI x.row 0), .int .i64 (gI x.row 1), .int .i64 (gI x.row 2), .str (gS x.row 3), .sl .any 6 (gR x.row 4), .sl .any 7 (gR x.row 5)])
theorem ag(x:V):AG x= .imm (.agg x.row):=by unfold AG;rw [Zy]
theorem Bat(x:V × Int):A6q (whA x)=whA x:=by
 show AV.tup [.imm (.agg [.int .i64 (gI x.1.row 0), .int .i64 (gI x.1.row 1), .int .i64 (gI x.1.row 2), .str (gS x.1.row 3), .sl .any 6 (gR x.1.row 4), .sl .any 7 (gR x.1.row 5)]), .imm (.int .i64 x.2)]=_
 rw [Zy]
theorem A5a {a b:V} (ha:Fit a)(e:a=b) {Q:AV→Heap→Prop} (h:Q (.imm (.bool true)) []):Call E0.P He [AG a,AG b] [] Q:=by
 rw [ag,ag]
 refine(A13 a ha b).mono fun r g hx=> ?_
 obtain⟨c,g1,g2,g3⟩:=hx
 have hc:c=true:=g3.2 e
 subst hc;subst g1;subst g2
 exact h
theorem A1r {Q:AV→Heap→Prop} (h:Q (.imm (.bool true)) []):Call E0.P Cq [] [] fun r g=>Ak (g=[]∧r= .imm (.bool (rB r))) (Let (rB r) fun x=>Q (.imm (.bool x)) []):=
 Call.use Arx ⟨⟨rfl,rfl⟩,Let.intro h⟩
theorem bt {b:Bool} (hb:b=true) {A B:Prop} (h:A):Br b A B:=⟨fun _=>h,fun h'=>absurd (hb.symm.trans h') (by decide)⟩
theorem A7a {v:V} (h:Scal v)(hc:C9 v≤1000):v.wr.length≤20000000:=by
 have:=(A43 h).1;omega
theorem S_ParseBack(s:List UInt8)(v:V)(hw:Wf v):Call E0.P Aff [.imm (.str s), .imm (.agg v.row)] [] Tr:=by
 have hF:=Be1 v hw 500 (by omega)
 have hT:=A0p v
 have hP:=Au2 v
 rw [Kc]at hP
 rw [Ep]at hF hT hP ⊢
 refine Amn _ _ _ _ _ _ _ _ (Agz hF fun c hc=>⟨⟨rfl,rfl⟩,Let.intro ?_⟩)
 by_cases hL:(1000:Int)<(s.length:Int)
 ·refine bt (by simp [rB,gB,aIV,hL]) (Call.use Arx ⟨⟨rfl,rfl⟩,⟨rfl,rfl⟩⟩)
 cases c with
 |false=>exact bt (by simp [rB,gB,aIV]) (Call.use Arx ⟨⟨rfl,rfl⟩,⟨rfl,rfl⟩⟩)
 |true=>
  have hf:=hc rfl
  have hs:=Bb4 hw hf.s
  have hcn:C9 v≤1000:=by have:=hf.c;omega
  have hfit:=Aja 1000 (by omega) _ v (Nat.le_refl _) hcn
  obtain⟨p1,p2⟩:=Auf hs
  have hsm:=A7a p1 (by omega)
  refine⟨fun h=>absurd h (by simp [rB,gB,aIV,hL]),fun _=> ?_⟩
  refine Call.use (hT hs hcn) ⟨⟨rfl,rfl⟩, ?_⟩
  rw [tx0,tx1]
  by_cases hk:v.chk false 0=0
  ·have ht:Apd v=(v.plain.wr,0):=by rw [Apd,if_neg (fun h=>h hk)]
   rw [ht]
   refine⟨fun h=>absurd h (by simp),fun _=> ?_⟩
   have ok:=A6f ((Ba0 v 0).1 hk)
   have w1:=Alb v.plain.wr (by omega)
   rw [A3c _ ok,Aql]at w1
   have w2:=Ar9 (s++v.plain.wr++[32,93]) (by simp;omega) (s.length:Int)
   rw [A5s _ _ ok,Aql]at w2
   refine Call.use w1 ⟨⟨rfl,(Bat _).symm⟩,by simp;omega,by simp;omega,Call.use w2 ⟨⟨rfl,(Avs _).symm⟩,Call.use (hP hfit) ⟨⟨rfl, ?_⟩, ?_⟩⟩⟩
   ·exact(ag v.plain).symm
   ·refine A5a (Aof hfit) rfl ⟨⟨rfl,rfl⟩,bt rfl (Let.intro (bt rfl ?_))⟩
    refine A5a (Aof hfit) rfl ⟨⟨rfl,rfl⟩,Let.intro (bt rfl (Let.intro (bt ?_ (Let.intro (bt rfl (A1r ⟨rfl,rfl⟩)))))) ⟩
    show decide (((s.length+v.plain.wr.length:Nat):Int)=IntKind.i64.wrap ((s.length:Int)+(v.plain.wr.length:Int)))=true
    rw [Bb _ (by omega) (by omega)]
    simp
  ·have ht:Apd v=([],v.chk false 0):=by rw [Apd,if_pos hk]
   rw [ht]
   exact bt (by simpa using hk) (bt rfl (A1r ⟨rfl,rfl⟩))
end Go.Proofs.Sim.Se
