import Derived.Test.YtcdjheflchglaaaGreatDoorPbB
import Derived.Test.YtcdjheflchglaaaGreatDoorBkA
import Derived.Test.YtcdjheflchglaaaGreatDoorWrB
set_option maxRecDepth 100000
namespace Go.Proofs.Sim.Se
open Go Go.Proofs Go.Proofs.Sim Go.Proofs.Sim.Va Go.Proofs.Sim.St Go.Proofs.Sim.Pa Go.RowKit
theorem A6g(N:Nat):∀(l out:List UInt8) (a:Nat),l.length<N→(nameL l out a).1.length≤out.length+l.length:=by
 induction N with
 |zero=>intro l out a h;cases h
 |succ N ih=>
  intro l out a hN
  cases l with
  |nil=>rw [nameL];simp
  |cons c r=>
   have hN':r.length<N:=by simp at hN;omega
   rw [nameL.eq_def]
   simp only
   split
   ·split
    ·split
     ·split
      ·simp
      ·split
       ·simp
       ·rename_i h l r' _ _
        have:=ih r' (out++[Tu (16*Cq h+Cq l)]) (a+3) (by simp at hN';omega)
        simp at this ⊢; omega
     ·simp
    ·split
     ·simp
     ·have:=ih r (out++[c]) (a+1) hN'
      simp at this ⊢; omega
   ·simp
theorem A8w(l t:List UInt8)(k:Nat)(h:Acw l=some (t,k)):t.length≤1:=by
 cases l with
 |nil=>cases h
 |cons c r=>
  rw [Acw]at h
  split at h
  ·injection h with h;injection h with h1 h2;subst h1;simp
  ·split at h
   ·injection h with h;injection h with h1 h2;subst h1;simp
   ·injection h with h;injection h with h1 h2;subst h1;simp
theorem A65:∀(m:Nat) (l out:List UInt8) (d:Int) (a:Nat),(Gw m l out d a).1.length≤out.length+m:=by
 intro m
 induction m with
 |zero=>intro l out d a;rw [Gw];simp
 |succ m ih=>
  intro l out d a
  cases l with
  |nil=>rw [Gw];simp
  |cons c r=>
   rw [Gw]
   split
   ·split
    ·simp
    ·have:=ih ((c::r).drop (O1 (c::r))) (out++[10]) d (a+O1 (c::r));simp at this ⊢; omega
   ·split
    ·split
     ·simp
     ·rename_i t k he
      split
      ·simp
      ·have:=ih (r.drop k) (out++t) d (a+1+k)
       have h1:=A8w _ _ _ he
       simp at this ⊢; omega
    ·split
     ·simp
     ·split
      ·simp
      ·have:=ih r (out++[c]) (if c.toNat=40 then d+1 else if c.toNat=41 then d - 1 else d) (a+1);simp at this ⊢; omega
theorem A81:∀(l:List UInt8) (half:Int) (out:List UInt8) (a:Nat),(Li l half out a).1.length≤out.length+l.length:=by
 intro l
 induction l with
 |nil=>intro half out a;rw [Li];simp
 |cons c r ih=>
  intro half out a
  rw [Li]
  split
  ·split
   ·simp
   ·split
    ·simp
    ·simp
  ·split
   ·split
    ·have:=ih half out (a+1);simp;omega
    ·simp
   ·split
    ·have:=ih (Cq c) out (a+1);simp;omega
    ·split
     ·simp
     ·have:=ih (-1) (out++[Tu (16*half+Cq c)]) (a+1);simp at this ⊢; omega
theorem Aqk(k:Int)(p:Nat)(x:Part):(partT k p x).s.length≤x.1.length:=by
 unfold partT Tt
 split<;>simp
theorem A91(c:UInt8)(r:List UInt8)(p:Nat):(Ic c r p).s.length≤r.length+1:=by
 unfold Ic
 split
 ·simp
 split
 ·simp
 split
 ·have h1:=Aqk 2 p (nameL r [] (p+1));have h2:=A6g _ r [] (p+1) (Nat.lt_succ_self _);simp at h2;omega
 split
 ·have h1:=Aqk 3 p (Gw (r.length+1) r [] 1 (p+1));have h2:=A65 (r.length+1) r [] 1 (p+1);simp at h2;omega
 split
 ·split
  ·simp
  ·have h1:=Aqk 3 p (Li r (-1) [] (p+1));have h2:=A81 r (-1) [] (p+1);simp at h2;omega
 split
 ·split
  ·simp
  ·simp [Tt]
 split
 ·simp [Tt]
 unfold Nf
 split
 ·simp
 split
 ·simp [Tt]
 split
 ·simp [Tt]
 ·simp;omega
theorem A6j(s:List UInt8)(a:Int):(Aj s a).s.length≤s.length:=by
 unfold Aj
 split
 ·simp
 ·rename_i c r h
  have h1:=A91 c r (Dl s a)
  have h2:=congrArg List.length h
  simp at h2;omega
theorem Ou(M:Int)(hM:0≤M)(k n g:Int):Po M (.mk k n g [] [] []):= .mk M _ (by simpa [V.s] using hM) (fun _ h=>nomatch h) (fun _ h=>nomatch h) (fun _ h=>nomatch h)
theorem A3v(M:Int)(hM:0≤M)(s:List UInt8)(n:Int)(b:Nat):Po M (numL s n b).1:=by
 unfold numL
 split
 ·exact Ou M hM _ _ _
 ·split
  ·exact Ou M hM _ _ _
  ·exact Ou M hM _ _ _
theorem A13(M:Int)(hM:0≤M)(t:List UInt8)(b:Nat):Po M (Te t b).1:=by
 unfold Te
 split
 ·exact Ou M hM _ _ _
 ·split
  ·exact Ou M hM _ _ _
  ·split
   ·exact Ou M hM _ _ _
   ·exact Ou M hM _ _ _
theorem A1m(s:List UInt8)(M:Int)(hs:(s.length:Int)≤M):∀(m w a:Nat),Po M (Cy s m w a).1:=by
 have hM:0≤M:=by omega
 have er:∀e,Po M (J5 e).1:=fun e=>Ou M hM _ _ _
 intro m
 induction m with
 |zero=>intro w a;rw [Cy];exact er _
 |succ m ih=>
  intro w a
  have hn:∀b:Int,((Aj s b).s.length:Int)≤M:=fun b=>by have:=A6j s b;omega
  rw [Cy]
  split
  ·exact er _
  split
  ·exact er _
  split
  ·exact A3v M hM _ _ _
  split
  ·exact .mk M _ (hn _) (fun _ h=>nomatch h) (fun _ h=>nomatch h) (fun _ h=>nomatch h)
  split
  ·exact .mk M _ (hn _) (fun _ h=>nomatch h) (fun _ h=>nomatch h) (fun _ h=>nomatch h)
  split
  ·exact A13 M hM _ _
  split
  ·split
   ·exact er _
   ·have:∀(f a:Nat) (acc:List V),(∀x∈acc,Po M x)→Po M (I8 s (Cy s m (w+1)) f a acc).1:=by
     intro f
     induction f with
     |zero=>intro a acc _;rw [I8];exact er _
     |succ f ihf=>
      intro a acc ha
      rw [I8]
      split
      ·exact er _
      split
      ·exact .mk M _ (by simpa [V.s] using hM) ha (fun _ h=>nomatch h) (fun _ h=>nomatch h)
      split
      ·exact er _
      ·refine ihf _ _ fun x hx=> ?_
       rcases List.mem_append.1 hx with hx |hx
       ·exact ha x hx
       ·rw [List.mem_singleton]at hx;subst hx;exact ih _ _
    exact this _ _ [] fun _ h=>nomatch h
  split
  ·split
   ·exact er _
   ·have:∀(f a:Nat) (acc:List Pr),(∀p∈acc,(p.1.length:Int)≤M∧Po M p.2)→Po M (Im s (Cy s m (w+1)) f a acc).1:=by
     intro f
     induction f with
     |zero=>intro a acc _;rw [Im];exact er _
     |succ f ihf=>
      intro a acc ha
      rw [Im]
      split
      ·exact er _
      split
      ·exact .mk M _ (by simpa [V.s] using hM) (fun _ h=>nomatch h) (fun p hp=>(ha p hp).1) (fun p hp=>(ha p hp).2)
      split
      ·exact er _
      split
      ·exact er _
      split
      ·exact er _
      split
      ·exact er _
      ·refine ihf _ _ fun x hx=> ?_
       rcases List.mem_append.1 hx with hx |hx
       ·exact ha x hx
       ·rw [List.mem_singleton]at hx;subst hx;exact⟨hn _,ih _ _⟩
    exact this _ _ [] fun _ h=>nomatch h
  ·exact er _
theorem A6w {w:Nat} {v:V} (h:H9 w v):Po 3000 v→Scal v:=by
 have z:I64 0:=by unfold I64;omega
 have nl:∀ {x:V},x∈([]:List V)→Scal x:=fun h=>nomatch h
 induction h with
 |null w=>intro _;exact .mk _ z z (by simp [V.s]) (fun _ h=>nomatch h) (fun _ h=>nomatch h) (fun _ h=>nomatch h)
 |bool w n h=>intro _;exact .mk _ (by show I64 n;unfold I64;omega) z (by simp [V.s]) (fun _ h=>nomatch h) (fun _ h=>nomatch h) (fun _ h=>nomatch h)
 |int w n h0 h1=>intro _;exact .mk _ (by show I64 n;unfold I64;omega) z (by simp [V.s]) (fun _ h=>nomatch h) (fun _ h=>nomatch h) (fun _ h=>nomatch h)
 |name w s h0 h1=>intro _;exact .mk _ z z (by show s.length≤3000;omega) (fun _ h=>nomatch h) (fun _ h=>nomatch h) (fun _ h=>nomatch h)
 |text w s h1=>
  intro hs
  cases hs with
  |mk _ b1 _ _ _=>exact .mk _ z z (by have:(s.length:Int)≤3000:=b1;show s.length≤3000;omega) (fun _ h=>nomatch h) (fun _ h=>nomatch h) (fun _ h=>nomatch h)
 |list w l hw hl ih=>
  intro hs
  cases hs with
  |mk _ _ b2 _ _=>exact .mk _ z z (by simp [V.s]) (fun x hx=>ih x hx (b2 x hx)) (fun _ h=>nomatch h) (fun _ h=>nomatch h)
 |dict w d hw hk hd hl ih=>
  intro hs
  cases hs with
  |mk _ _ _ b3 b4=>exact .mk _ z z (by simp [V.s]) (fun _ h=>nomatch h) (fun p hp=>by have:=b3 p hp;omega) (fun p hp=>ih p hp (b4 p hp))
 |link w n g h0 h1 h2 h3=>intro _;exact .mk _ (by show I64 n;unfold I64;omega) (by show I64 g;unfold I64;omega) (by simp [V.s]) (fun _ h=>nomatch h) (fun _ h=>nomatch h) (fun _ h=>nomatch h)
theorem A69 {s:List UInt8} {a:Nat} {v:V} {rest:List UInt8} (hv:H9 0 v)(_ha:a≤s.length)(h:s.drop a=v.wr++rest)(hr:Td rest)(hc:v.k=2→Oo s (a+v.wr.length)=none)(b:Nat)(hb:b≤s.length)(hn:Aj s (b:Int)=Aj s (a:Int)):Rh s (b:Int)=(v.plain,a+v.wr.length,0):=by
 have e:Cy s (s.length+1) 0 b=(v,a+v.wr.length,0):=by
  have:=A31 hv s (s.length+1) a rest (by omega) h hr hc
  rw [Cy]at this ⊢
  rw [hn];exact this
 unfold Rh
 rw [Am0 hb,e]
 simp
theorem A7a {s:List UInt8} {v:V} {e x y:Nat} (h:Rh s 0=(v,e,0))(hn:Aj s (e:Int)=⟨0,0,0,[],x,y⟩):Uf s=(v,0):=by
 unfold Uf
 rw [h]
 simp only
 rw [if_neg (by decide),hn]
 simp
def Sz:List UInt8:=[32,37,32,97,32,110,111,116,101,10]
theorem A37(X:List UInt8):El false (Sz++X)=El false X+10:=by
 show El false (32::37::32::97::32::110::111::116::101::10::X)=_
 iterate 10 rw [El,if_neg (by decide)]
 rfl
theorem A2d(v:V)(hv:H9 0 v):Uf (Sz++v.wr++[32])=(v.plain,0):=by
 have h:(Sz++v.wr++[32]).drop 10=v.wr++[32]:=by rw [List.append_assoc];exact List.drop_left (l₁:=Sz)
 have h2:=Ij h
 have hl:(Sz++v.wr++[32]).length=10+v.wr.length+1:=by simp [Sz];omega
 have hn:=L6 h2
 rw [A3q (Wl h2) (by omega)]at hn
 have e0:Aj (Sz++v.wr++[32]) ((0:Nat):Int)=Aj (Sz++v.wr++[32]) ((10:Nat):Int):=by
  have e:Dl (Sz++v.wr++[32]) ((0:Nat):Int)=Dl (Sz++v.wr++[32]) ((10:Nat):Int):=by
   unfold Dl
   rw [Am0 (Nat.zero_le _),Am0 (by omega),h,List.drop_zero,List.append_assoc,A37]
   omega
  unfold Aj
  rw [e]
 have:=A69 hv (by omega) h (Mc _ (by decide)) (fun _=>by rw [Oo,hn];simp) 0 (Nat.zero_le _) e0
 exact A7a this hn
end Go.Proofs.Sim.Se
set_option maxRecDepth 100000
namespace Go.Proofs.Sim.Se
open Go Go.Proofs Go.Proofs.Sim Go.Proofs.Sim.Va Go.Proofs.Sim.St Go.Proofs.Sim.Pa Go.RowKit
abbrev AG(x:V):AV:= .imm (.agg [.int .i64 (gI x.row 0), .int .i64 (gI x.row 1), .int .i64 (gI x.row 2), .str (gS x.row 3), .sl .any 6 (gR x.row 4), .sl .any 7 (gR x.row 5)])
theorem ag(x:V):AG x= .imm (.agg x.row):=by unfold AG;rw [Z6]
theorem At5(x:V × Int):A30 (whA x)=whA x:=by
 show AV.tup [.imm (.agg [.int .i64 (gI x.1.row 0), .int .i64 (gI x.1.row 1), .int .i64 (gI x.1.row 2), .str (gS x.1.row 3), .sl .any 6 (gR x.1.row 4), .sl .any 7 (gR x.1.row 5)]), .imm (.int .i64 x.2)]=_
 rw [Z6]
theorem Aw4 {a b:V} (ha:Fit a)(e:a=b) {Q:AV→Heap→Prop} (h:Q (.imm (.bool true)) []):Call E0.P Dc [AG a,AG b] [] Q:=by
 rw [ag,ag]
 refine(Azl a ha b).mono fun r g hx=> ?_
 obtain⟨c,g1,g2,g3⟩:=hx
 have hc:c=true:=g3.2 e
 subst hc;subst g1;subst g2
 exact h
theorem Azp {Q:AV→Heap→Prop} (h:Q (.imm (.bool true)) []):Call E0.P Co [] [] fun r g=>Am (g=[]∧r= .imm (.bool (rB r))) (Let (rB r) fun x=>Q (.imm (.bool x)) []):=
 Call.use Awb ⟨⟨rfl,rfl⟩,Let.intro h⟩
theorem bt {b:Bool} (hb:b=true) {A B:Prop} (h:A):Br b A B:=⟨fun _=>h,fun h'=>absurd (hb.symm.trans h') (by decide)⟩
theorem A7d {v:V} (h:Scal v)(hc:D5 v≤1000):v.wr.length≤20000000:=by
 have:=(A4p h).1;omega
theorem S_ParseAgain(s:List UInt8):Call E0.P Ado [.imm (.str s)] [] Tr:=by
 refine Aks _ _ (Cm (fun h=>Call.use Awb ⟨⟨rfl,rfl⟩,⟨rfl,rfl⟩⟩) fun h=> ?_)
 have hs:s.length≤1000:=by omega
 have w1:=Afp s (by omega)
 have hfit:=A0d s (by omega)
 by_cases h0:(Uf s).2=0
 ·have key:∃v,Uf s=(v,0)∧H9 0 v∧v.plain=v∧Scal v∧D5 v≤1000:=by
   unfold Uf at h0 ⊢
   by_cases c1:(Rh s 0).2.2=0
   ·rw [if_neg (fun h=>h c1)]at h0 ⊢
    by_cases c2:(Aj s (Rh s 0).2.1).e=0
    ·rw [if_neg (fun h=>h c2)]at h0 ⊢
     by_cases c3:(Aj s (Rh s 0).2.1).k=0
     ·rw [if_neg (fun h=>h c3)]
      refine⟨_,rfl, ?_⟩
      unfold Rh at c1 ⊢
      have e0:M7 s 0=0:=Am0 (Nat.zero_le s.length)
      rw [e0]at c1 ⊢
      by_cases c4:(Cy s (s.length+1) 0 0).2.2=0
      ·rw [if_neg (fun h=>h c4)]
       have ok:=A6s s _ _ _ c4
       have sc:=A6w ok (A1m s 3000 (by omega) _ _ _)
       have cn:=Ayc s _ _ _ (Nat.zero_le _) c4
       have fn:=X8 s _ _ _ (Nat.zero_le _) c4
       obtain⟨p1,p2⟩:=Ar8 sc
       exact⟨A3w ok,Azc _,p1,by have:=fn.2;simp only;omega⟩
      ·rw [if_pos c4]at c1;exact absurd c1 c4
     ·rw [if_pos c3]at h0;exact absurd h0 (by decide)
    ·rw [if_pos c2]at h0;exact absurd h0 c2
   ·rw [if_pos c1]at h0;exact absurd h0 c1
  obtain⟨v,hv,ok,hp,sc,cn⟩:=key
  rw [hv]at w1 hfit
  have hsm:=A7d sc cn
  have hc:v.chk false 0=0:=(A9k v 0).2 ok
  have hT:=Awf v sc cn
  have ht:Av3 v=(v.wr,0):=by rw [Av3,if_neg (fun h=>h hc),hp]
  rw [ht]at hT
  have w2:=Afp (Sz++v.wr++[32]) (by simp [Sz];omega)
  rw [A2d _ ok,hp]at w2
  have hC:=Azk v hfit false
  rw [hc]at hC
  have hP:Jf v:=Asz v hfit
  rw [Jf,hp]at hP
  rw [←ag]at hT hC
  refine Call.use w1 ⟨⟨rfl,(At5 _).symm⟩,⟨fun h=>absurd (show(!decide ((0:Int)=0))=true from h) (by decide),fun _=> ?_⟩⟩
  refine Call.use hT ⟨⟨rfl,rfl⟩,by show(((10:Nat)+v.wr.length:Nat):Int)≤9223372036854775807;omega,by show(((Sz++v.wr).length+1:Nat):Int)≤9223372036854775807;simp [Sz];omega,Call.use w2 ⟨⟨rfl,(At5 _).symm⟩,Call.use hC ⟨⟨rfl,rfl⟩,bt rfl ?_⟩⟩⟩
  show Call E0.P Gh [AG v] [] _
  rw [ag]
  refine Call.use hP ⟨⟨rfl,(ag v).symm⟩, ?_⟩
  refine Aw4 hfit rfl ⟨⟨rfl,rfl⟩,Let.intro (bt rfl (Let.intro (bt rfl (Let.intro (bt rfl ?_)))))⟩
  exact Aw4 hfit rfl ⟨⟨rfl,rfl⟩,Let.intro (bt rfl (Azp ⟨rfl,rfl⟩))⟩
 ·have hz:Uf s=(zero,(Uf s).2):=by
   unfold Uf at h0 ⊢
   split
   ·rfl
   ·rename_i c1
    rw [if_neg c1]at h0
    split
    ·rfl
    ·rename_i c2
     rw [if_neg c2]at h0
     split
     ·rfl
     ·rename_i c3;rw [if_neg c3]at h0;exact absurd rfl h0
  generalize (Uf s).2=e at hz h0
  rw [hz]at w1 hfit
  refine Call.use w1 ⟨⟨rfl,(At5 _).symm⟩,bt (by show(!decide (e=0))=true;simpa using h0) ?_⟩
  have ez:AG zero= .imm (.agg [.int .i64 0, .int .i64 0, .int .i64 0, .str [], .sl .any 6 [], .sl .any 7 []]):=by rw [ag,zero,Af0];rfl
  show Call E0.P Dc [AG zero, .imm (.agg [.int .i64 0, .int .i64 0, .int .i64 0, .str [], .sl .any 6 [], .sl .any 7 []])] [] _
  rw [←ez]
  exact Aw4 hfit rfl ⟨⟨rfl,rfl⟩,bt rfl (Azp ⟨rfl,rfl⟩)⟩
end Go.Proofs.Sim.Se
