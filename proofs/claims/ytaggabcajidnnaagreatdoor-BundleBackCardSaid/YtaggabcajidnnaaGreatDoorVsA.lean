import Derived.Test.YtaggabcajidnnaaGreatDoorSeatGenV
import Derived.Test.YtaggabcajidnnaaGreatDoorVaA
namespace Go.Proofs.Sim.Se
open Go Go.Proofs Go.Proofs.Sim Go.Proofs.Sim.Va Go.Proofs.Sim.St
def Y4(a b:Ky):Int:=if Op.bytesLess a b then -1 else if a=b then 0 else 1
theorem A97(a:Ky):Call E0.P Ox [.imm (.str a)] [] (Is (.imm (.bool false)) []):=by
 refine Amy a _ ?_
 simp [Is]
theorem Bi0(a b:Ky):Call E0.P Mk [.imm (.str a), .imm (.str b)] [] (Is (.imm (.int .i64 (Y4 a b))) []):=by
 refine Akm a b _ ?_
 refine Call.use (A97 a) ⟨⟨rfl,rfl⟩, ?_⟩
 refine Call.use (A97 b) ⟨⟨rfl,rfl⟩, ?_⟩
 refine⟨fun h=>absurd h (by decide),fun _=>⟨fun h=>absurd h (by decide),fun _=>⟨fun h=> ?_,fun h=>⟨fun h2=> ?_,fun h2=> ?_⟩⟩⟩⟩
 ·simp [Is,Y4,h]
 ·simp [h]at h2
  simp [Is,Y4,h,h2]
 ·simp [h]at h2
  subst h2
  simp [Is,Y4,h]
theorem Azh(p q:Pr):Call E0.P Af [.imm (.agg (Bf p)), .imm (.agg (Bf q))] [] (Is (.imm (.int .i64 (Y4 p.1 q.1))) []):=by
 rw [I8,I8]
 refine Akr _ _ _ _ _ _ _ _ _ _ _ _ _ _ _ ?_
 exact Call.use (Bi0 p.1 q.1) ⟨⟨rfl,rfl⟩,⟨rfl,rfl⟩⟩
theorem Bi1(p q:Pr):Call E0.P Bz [.imm (.agg (Bf p)), .imm (.agg (Bf q))] [] (Is (.imm (.bool (p.1 == q.1))) []):=by
 rw [I8,I8]
 exact Aks _ _ _ _ _ _ _ _ _ _ _ _ _ _ _ ⟨rfl,rfl⟩
theorem A96(p:Pr)(k:Ky):Call E0.P Dp [.imm (.agg (Bf p)), .imm (.str k)] [] (Is (.imm (.int .i64 (Y4 p.1 k))) []):=by
 rw [I8]
 refine Ar8 _ _ _ _ _ _ _ _ _ ?_
 exact Call.use (Bi0 p.1 k) ⟨⟨rfl,rfl⟩,⟨rfl,rfl⟩⟩
theorem Anm(a b:Ky):decide (Y4 a b<0)=Op.bytesLess a b:=by
 unfold Y4
 cases h:Op.bytesLess a b with
 |true=>simp
 |false=>by_cases e:a=b<;>simp [e]
abbrev Bh(ps:List Pr):List (List IV):=ps.map Bf
abbrev Bp(ps:List Pr)(n:Nat):Pr:=ps.getD n default
theorem A7(ps:List Pr):(Bh ps).length=ps.length:=List.length_map ..
theorem Ju(ps:List Pr)(n:Nat)(h:n<ps.length):List.take 7 (List.drop 0 ((Bh ps).getD n []))=Bf (Bp ps n):=by
 have:(Bh ps).getD n []=Bf (Bp ps n):=by simp [List.getD_eq_getElem?_getD,h]
 rw [this,I8]
 rfl
theorem Ei(p:Pr): [.str (gS (Bf p) 0), .int .i64 (gI (Bf p) 1), .int .i64 (gI (Bf p) 2), .int .i64 (gI (Bf p) 3), .str (gS (Bf p) 4), .sl .any 6 (gR (Bf p) 5), .sl .any 7 (gR (Bf p) 6)]=Bf p:=by
 rw [I8];rfl
theorem Dz(p:Pr)(e f:Nat):Bg [.str, .int .i64, .int .i64, .int .i64, .str, .sl 6 e, .sl 7 f] (Bf p)=true:=by
 rw [I8];rfl
theorem X6(ps:List Pr)(n:Nat)(p:Pr):(Bh ps).set n (Bf p)=Bh (ps.set n p):=by
 simp [Bh,List.map_set]
abbrev Sm(ps:List Pr):Prop:=ps.length≤4611686018427387904
def swF(a b:Nat):Nat→Nat→List Pr→List Pr
 |0,_,ps=>ps
 |m+1,i,ps=>swF a b m (i+1) ((ps.set (a+i) (Bp ps (b+i))).set (b+i) (Bp ps (a+i)))
theorem Bc4(a b n:Nat):∀(m i:Nat) (ps:List Pr) (Q:Ex→St→Prop),i+m=n→a+n≤ps.length→b+n≤ps.length→Sm ps→
 Q (.exit 0) ⟨[],[(.arg 0, .arr 1 true 7 (Bh (swF a b m i ps)))]⟩→Fy a b n i (Bh ps) Q
 |0,i,ps,Q,h1,h2,h3,h4,hq=>by
  refine Me _ _ _ _ _ _ ⟨fun h=> ?_,fun _=>hq⟩
  have:=of_decide_eq_true h
  omega
 |m+1,i,ps,Q,h1,h2,h3,h4,hq=>by
  refine Me _ _ _ _ _ _ ⟨fun _=> ?_,fun h=> ?_⟩
  ·have w1:IntKind.i64.wrap ((b:Int)+(i:Int))=((b+i:Nat):Int):=by rw [Az _ (by omega) (by omega)];simp
   have w2:IntKind.i64.wrap ((a:Int)+(i:Int))=((a+i:Nat):Int):=by rw [Az _ (by omega) (by omega)];simp
   have w3:IntKind.i64.wrap ((i:Int)+1)=((i+1:Nat):Int):=by rw [Az _ (by omega) (by omega)];simp
   simp only [w1,w2,w3,Int.toNat_natCast]
   rw [Ju ps (b+i) (by omega),Ju ps (a+i) (by omega)]
   refine⟨⟨by omega,by rw [A7];omega⟩,⟨⟨by rw [A7];omega,Dz _ _ _⟩,⟨⟨by omega,by rw [A7];omega⟩,⟨⟨by rw [A7];omega,Dz _ _ _⟩,⟨⟨by omega,by rw [A7];omega⟩,⟨by rw [A7];omega, ?_⟩⟩⟩⟩⟩⟩
   rw [Ei,Ei,X6,X6]
   refine⟨⟨by omega,by rw [A7,List.length_set];omega⟩,⟨by rw [A7,List.length_set];omega, ?_⟩⟩
   exact Bc4 a b n m (i+1) _ Q (by omega) (by simpa using h2) (by simpa using h3) (by simpa [Sm] using h4) hq
  ·have:=of_decide_eq_false h
   omega
theorem A6g(a b n:Nat)(ps:List Pr)(h2:a+n≤ps.length)(h3:b+n≤ps.length)(h4:Sm ps):
 Call E0.P Eg [.own (.arg 0), .imm (.int .i64 a), .imm (.int .i64 b), .imm (.int .i64 n), .fn Af []] [(.arg 0, .arr 1 true 7 (Bh ps))] (Is (.tup []) [(.arg 0, .arr 1 true 7 (Bh (swF a b n 0 ps)))]):=by
 refine Zg _ _ _ _ _ ?_
 exact Bc4 a b n n 0 ps _ (by omega) h2 h3 h4 (Xl _ _ _ ⟨rfl,rfl⟩)
end Go.Proofs.Sim.Se
namespace Go.Proofs.Sim.Se
open Go Go.Proofs Go.Proofs.Sim Go.Proofs.Sim.Va Go.Proofs.Sim.St
theorem Nn(L R:List Pr)(c:Pr)(n:Nat)(h:n=L.length):Bp (L++c::R) n=c:=by
 subst h;simp [Bp]
theorem set_mid(L R:List Pr)(c d:Pr)(n:Nat)(h:n=L.length):(L++c::R).set n d=L++d::R:=by
 subst h;simp
theorem Bax(x y z:List Pr):∀(A2 B2 A1 B1:List Pr),A2.length=B2.length→A1.length=B1.length→
 swF x.length (x.length+(A1.length+A2.length)+y.length) A2.length A1.length (x++(B1++A2)++y++(A1++B2)++z)=x++(B1++B2)++y++(A1++A2)++z
 | [],B2,A1,B1,h1,h2=>by
   have:B2=[]:=List.eq_nil_of_length_eq_zero h1.symm
   subst this
   simp [swF]
 |a::A2,[],A1,B1,h1,h2=>by simp at h1
 |a::A2,b::B2,A1,B1,h1,h2=>by
  have e1:x++(B1++a::A2)++y++(A1++b::B2)++z=(x++B1)++a::(A2++y++A1++b::(B2++z)):=by simp
  have e2:x++(B1++a::A2)++y++(A1++b::B2)++z=(x++B1++a::A2++y++A1)++b::(B2++z):=by simp
  have e3:(x++B1)++b::(A2++y++A1++b::(B2++z))=(x++B1++b::A2++y++A1)++b::(B2++z):=by simp
  have e4:(x++B1++b::A2++y++A1)++a::(B2++z)=x++((B1++[b])++A2)++y++((A1++[a])++B2)++z:=by simp
  have h1':A2.length=B2.length:=by simpa using h1
  simp only [List.length_cons,swF]
  have g1:Bp (x++(B1++a::A2)++y++(A1++b::B2)++z) (x.length+(A1.length+(A2.length+1))+y.length+A1.length)=b:=by
   rw [e2];exact Nn _ _ _ _ (by simp;omega)
  have g2:Bp (x++(B1++a::A2)++y++(A1++b::B2)++z) (x.length+A1.length)=a:=by
   rw [e1];exact Nn _ _ _ _ (by simp;omega)
  rw [g1,g2,e1,set_mid _ _ _ _ _ (by simp;omega),e3,set_mid _ _ _ _ _ (by simp;omega),e4]
  have ih:=Bax x y z A2 B2 (A1++[a]) (B1++[b]) h1' (by simp [h2])
  rw [show(A1++[a]).length=A1.length+1 by simp]at ih
  rw [show x.length+(A1.length+(A2.length+1))+y.length=x.length+(A1.length+1+A2.length)+y.length by omega,ih]
  simp
theorem A88(x A y B z:List Pr)(h:A.length=B.length)(a b n:Nat)(ha:a=x.length)(hb:b=x.length+A.length+y.length)(hn:n=A.length):swF a b n 0 (x++A++y++B++z)=x++B++y++A++z:=by
 have:=Bax x y z A B [] [] h rfl
 simp only [List.length_nil,Nat.zero_add,List.nil_append]at this
 rw [ha,hb,hn]
 exact this
theorem Jm(n:Nm)(ty sz:Nat)(w:Bool)(rows:List (List IV)):Cn [(n, .arr ty w sz rows)] n=rows:=by
 simp [Cn,hget,Nm.beq_self]
theorem Ba2(rows:List (List IV))(R:AV→Heap→Prop):∀(f:Nat) (P X Y S:List Pr) (m i j:Nat),X.length+Y.length≤f→i=X.length→j=Y.length→0<i→0<j→m=P.length+i→Sm (P++X++Y++S)→
 R (.tup []) [(.arg 0, .arr 1 true 7 (Bh (P++Y++X++S)))]→E5 m i j (Bh (P++X++Y++S)) (Ki rows R)
 |0,P,X,Y,S,m,i,j,hf,hi,hj,hi0,hj0,hm,hs,hq=>by omega
 |f+1,P,X,Y,S,m,i,j,hf,hi,hj,hi0,hj0,hm,hs,hq=>by
  have hs':P.length+X.length+Y.length+S.length≤4611686018427387904:=by simpa [Sm,Nat.add_assoc] using hs
  have w1:IntKind.i64.wrap ((m:Int) - (i:Int))=((P.length:Nat):Int):=by rw [Az _ (by omega) (by omega)];omega
  refine Aa3 _ _ _ _ _ ⟨fun hne=>⟨fun hlt=> ?_,fun hlt=> ?_⟩,fun he=> ?_⟩
  ·
   have hlt:j<i:=by have:=of_decide_eq_true hlt;omega
   have w2:IntKind.i64.wrap ((i:Int) - (j:Int))=((i - j:Nat):Int):=by rw [Az _ (by omega) (by omega)];omega
   rw [w1,w2]
   refine Call.use (A6g P.length m j _ (by simp;omega) (by simp;omega) hs) ⟨⟨rfl,rfl⟩, ?_⟩
   rw [Jm]
   obtain⟨X1,X2,rfl,h1⟩:∃X1 X2,X=X1++X2∧X1.length=j:=⟨X.take j,X.drop j,(List.take_append_drop j X).symm,by simp;omega⟩
   simp only [List.length_append]at hi hf
   have e:=A88 P X1 X2 Y S (by omega) P.length m j rfl (by omega) (by omega)
   rw [show P++(X1++X2)++Y++S=P++X1++X2++Y++S by simp,e]
   have:=Ba2 rows R f (P++Y) X2 X1 S m (i - j) j (by omega) (by omega) (by omega) (by omega) hj0 (by simp;omega) (by simp [Sm]at hs ⊢; omega) (by simpa using hq)
   simpa using this
  ·have hlt:i<j:=by
    have h1:=of_decide_eq_false hlt
    have h2:¬((i:Int)=j):=by simpa using hne
    omega
   have w2:IntKind.i64.wrap ((j:Int) - (i:Int))=((j - i:Nat):Int):=by rw [Az _ (by omega) (by omega)];omega
   have w3:IntKind.i64.wrap (IntKind.i64.wrap ((m:Int)+(j:Int)) - (i:Int))=((m+j - i:Nat):Int):=by
    rw [Az ((m:Int)+j) (by omega) (by omega),Az _ (by omega) (by omega)];omega
   rw [w1,w2,w3]
   refine Call.use (A6g P.length (m+j - i) i _ (by simp;omega) (by simp;omega) hs) ⟨⟨rfl,rfl⟩, ?_⟩
   rw [Jm]
   obtain⟨Y1,Y2,rfl,h1⟩:∃Y1 Y2,Y=Y1++Y2∧Y1.length=j - i:=⟨Y.take (j - i),Y.drop (j - i),(List.take_append_drop (j - i) Y).symm,by simp;omega⟩
   simp only [List.length_append]at hj hf
   have e:=A88 P X Y1 Y2 S (by omega) P.length (m+j - i) i rfl (by omega) (by omega)
   rw [show P++X++(Y1++Y2)++S=P++X++Y1++Y2++S by simp,e]
   have:=Ba2 rows R f P Y2 Y1 (X++S) m i (j - i) (by omega) (by omega) (by omega) hi0 (by omega) (by omega) (by simp [Sm]at hs ⊢; omega) (by simpa using hq)
   simpa using this
  ·have he:i=j:=by
    have h2:((i:Int)=j):=by simpa using he
    omega
   subst he
   refine Aav _ _ _ _ _ ?_
   refine Aak _ _ _ _ ?_
   rw [w1]
   refine Call.use (A6g P.length m i _ (by simp;omega) (by simp;omega) hs) ⟨⟨rfl,rfl⟩, ?_⟩
   rw [Jm]
   have e:=A88 P X [] Y S (by omega) P.length m i rfl (by simp;omega) (by omega)
   simp only [List.append_nil]at e
   rw [e]
   exact Aau _ _ _ hq
theorem Bou(P X Y S:List Pr)(a m b:Nat)(hx:0<X.length)(hy:0<Y.length)(ha:a=P.length)(hm:m=a+X.length)(hb:b=m+Y.length)(hs:Sm (P++X++Y++S)):
 Call E0.P K8 [.own (.arg 0), .imm (.int .i64 a), .imm (.int .i64 m), .imm (.int .i64 b), .fn Af []] [(.arg 0, .arr 1 true 7 (Bh (P++X++Y++S)))] (Is (.tup []) [(.arg 0, .arr 1 true 7 (Bh (P++Y++X++S)))]):=by
 have hs':P.length+X.length+Y.length+S.length≤4611686018427387904:=by simpa [Sm,Nat.add_assoc] using hs
 refine Abz _ _ _ _ _ ?_
 have w1:IntKind.i64.wrap ((m:Int) - (a:Int))=((X.length:Nat):Int):=by rw [Az _ (by omega) (by omega)];omega
 have w2:IntKind.i64.wrap ((b:Int) - (m:Int))=((Y.length:Nat):Int):=by rw [Az _ (by omega) (by omega)];omega
 rw [w1,w2]
 exact Ba2 _ _ _ P X Y S m X.length Y.length (Nat.le_refl _) rfl rfl hx hy (by omega) hs ⟨rfl,rfl⟩
end Go.Proofs.Sim.Se
namespace Go.Proofs.Sim.Se
open Go Go.Proofs Go.Proofs.Sim Go.Proofs.Sim.Va Go.Proofs.Sim.St
theorem A92(P S:List Pr)(a i b:Nat)(y:Pr)(Q:Ex→St→Prop)(ha:a=P.length):∀(n:Nat) (A1 A2:List Pr),A1.length=n→Dt (A1++A2)→(∀x∈A2,bl y.1 x.1=true)→Sm (P++A1++y::(A2++S))→
 Q (.exit 2) ⟨[(0, .own (.arg 0)),(1, .imm (.int .i64 a)),(2, .imm (.int .i64 b)),(3, .fn Af []),(8, .imm (.int .i64 i))],[(.arg 0, .arr 1 true 7 (Bh (P++Cb (A1++A2++[y])++S)))]⟩→
 Eo a b i ((a+n:Nat):Int) (Bh (P++A1++y::(A2++S))) Q
 |0,A1,A2,hl,hs,hy,hm,hq=>by
  have:A1=[]:=List.eq_nil_of_length_eq_zero hl
  subst this
  have e:y::A2=Cb ([]++A2++[y]):=by
   have:=Ap1 ordK (key:=pk) (a1:=[]) (a2:=A2) (y:=y) hs (fun x hx=>by cases hx) hy
   simpa using this
  rw [←e]at hq
  have hd:decide ((a:Int)<((a+0:Nat):Int))=false:=by simp
  refine J9 _ _ _ _ _ _ ?_
  rw [hd]
  refine⟨fun h=>(by cases h),⟨fun h=>(by cases h),⟨fun h=>(by cases h),⟨fun h=>(by cases h),⟨fun h=>(by cases h),fun _=>⟨rfl,Let.intro ⟨fun h=>(by cases h),fun _=> ?_⟩⟩⟩⟩⟩⟩⟩
  simpa using hq
 |n+1,A1,A2,hl,hs,hy,hm,hq=>by
  obtain⟨A,z,rfl⟩:∃A z,A1=A++[z]:=by
   rcases List.eq_nil_or_concat A1 with h |⟨A,z,h⟩
   ·subst h;simp at hl
   ·exact⟨A,z,by simpa using h⟩
  have hA:A.length=n:=by simpa using hl
  have hm':P.length+(n+1)+1+A2.length+S.length≤4611686018427387904:=by
   simp [Sm]at hm;omega
  have hd:decide ((a:Int)<((a+(n+1):Nat):Int))=true:=by simp;omega
  have w1:IntKind.i64.wrap (((a+(n+1):Nat):Int) - 1)=((a+n:Nat):Int):=by rw [Az _ (by omega) (by omega)];omega
  have e1:P++(A++[z])++y::(A2++S)=(P++A++[z])++y::(A2++S):=by simp
  have e2:P++(A++[z])++y::(A2++S)=(P++A)++z::(y::(A2++S)):=by simp
  generalize hL:P++(A++[z])++y::(A2++S)=L at*
  have hlen:L.length=P.length+(n+1)+1+A2.length+S.length:=by rw [←hL];simp;omega
  have g1:Bp L (a+(n+1))=y:=by rw [e1];exact Nn _ _ _ _ (by simp;omega)
  have g2:Bp L (a+n)=z:=by rw [e2];exact Nn _ _ _ _ (by simp;omega)
  have r1:=Ju L (a+(n+1)) (by omega)
  have r2:=Ju L (a+n) (by omega)
  rw [g1]at r1
  rw [g2]at r2
  refine J9 _ _ _ _ _ _ ?_
  rw [hd,w1]
  simp only [Int.toNat_natCast]
  rw [r1,r2,Ei,Ei]
  refine⟨fun _=>⟨by omega,by rw [A7];omega⟩,⟨fun _=>⟨by rw [A7];omega,Dz _ _ _⟩,⟨fun _=>⟨by omega,by rw [A7];omega⟩,⟨fun _=>⟨by rw [A7];omega,Dz _ _ _⟩,⟨fun _=> ?_,fun h=>(by cases h)⟩⟩⟩⟩⟩
  refine Call.use (Azh y z) ⟨⟨rfl,rfl⟩,Let.intro ?_⟩
  show Br (decide (Y4 y.1 z.1<0)) _ _
  rw [Anm]
  refine⟨fun hlt=> ?_,fun hge=> ?_⟩
  ·refine Uh _ _ _ _ _ _ ?_
   rw [w1]
   simp only [Int.toNat_natCast]
   rw [r1,r2,Ei,Ei,X6,X6]
   have s1:L.set (a+(n+1)) z=(P++A)++z::(z::(A2++S)):=by rw [e1,set_mid _ _ _ _ _ (by simp;omega)];simp
   have s2:(L.set (a+(n+1)) z).set (a+n) y=P++A++y::((z::A2)++S):=by rw [s1,set_mid _ _ _ _ _ (by simp;omega)];simp
   rw [s2]
   refine⟨⟨by omega,by rw [A7];omega⟩,⟨⟨by rw [A7];omega,Dz _ _ _⟩,⟨⟨by omega,by rw [A7];omega⟩,⟨⟨by rw [A7];omega,Dz _ _ _⟩,⟨⟨by omega,by rw [A7];omega⟩,⟨by rw [A7];omega,⟨⟨by omega,by rw [A7,List.length_set];omega⟩,⟨by rw [A7,List.length_set];omega, ?_⟩⟩⟩⟩⟩⟩⟩⟩
   refine Ul _ _ _ _ _ _ ?_
   refine A92 P S a i b y Q ha n A (z::A2) hA (by simpa using hs) (fun x hx=> ?_) (by simp [Sm];omega) (by simpa using hq)
   rcases List.mem_cons.1 hx with rfl |hx
   ·exact hlt
   ·exact hy x hx
  ·have e:(A++[z])++y::A2=Cb (A++[z]++A2++[y]):=by
    refine Ap1 ordK (key:=pk) (a1:=A++[z]) (a2:=A2) (y:=y) hs (fun x hx=> ?_) hy
    rcases List.mem_append.1 hx with hx |hx
    ·have hz:bl z.1 x.1=false:=by
      have h1:=(Jw.1 hs).1
      exact(Jw.1 h1).2.2 x hx z (by simp)
     exact ordK.le_tr hz hge
    ·have:x=z:=by simpa using hx
     subst this;exact hge
   rw [←e]at hq
   rw [←hL]
   simpa using hq
theorem A59(rows:List (List IV))(R:AV→Heap→Prop)(P S:List Pr)(a b:Nat)(ha:a=P.length):∀(m:Nat) (A B:List Pr),B.length=m→0<A.length→b=a+A.length+B.length→Dt A→Sm (P++A++B++S)→
 R (.tup []) [(.arg 0, .arr 1 true 7 (Bh (P++Cb (A++B)++S)))]→En a b ((a+A.length:Nat):Int) (Bh (P++A++B++S)) (Em rows R)
 |0,A,B,hB,hA,hb,hs,hm,hq=>by
  have:B=[]:=List.eq_nil_of_length_eq_zero hB
  subst this
  refine F9 _ _ _ _ _ ⟨fun h=> ?_,fun _=> ?_⟩
  ·have:=of_decide_eq_true h
   simp at hb
   omega
  ·refine J8 _ _ _ ?_
   have:Cb A=A:=(Af7 ordK hs (Fib.refl A)).symm
   simpa [this] using hq
 |m+1,A,[],hB,_,_,_,_,_=>by simp at hB
 |m+1,A,y::B,hB,hA,hb,hs,hm,hq=>by
  have hm':P.length+A.length+(B.length+1)+S.length≤4611686018427387904:=by
   simp [Sm]at hm;omega
  simp only [List.length_cons]at hb hB
  refine F9 _ _ _ _ _ ⟨fun _=> ?_,fun h=> ?_⟩
  ·have:=A92 P (B++S) a (a+A.length) b y (G7 (Em rows R)) ha A.length A [] rfl (by simpa using hs) (fun x hx=>by cases hx) (by simp [Sm];omega) (by
    refine Uk _ _ _ _ _ ?_
    refine Sl _ _ _ _ _ ?_
    refine Uj _ _ _ _ _ ?_
    have w:IntKind.i64.wrap (((a+A.length:Nat):Int)+1)=((a+(Cb (A++[y])).length:Nat):Int):=by
     rw [Gu ordK,Az _ (by omega) (by omega)];simp;omega
    rw [w,List.append_nil]
    have:=A59 rows R P S a b ha m (Cb (A++[y])) B (by omega) (by rw [Gu ordK];simp) (by rw [Gu ordK];simp;omega) (Jy ordK _) (by simp [Sm,Gu ordK];omega) (by
     have e:Cb (Cb (A++[y])++B)=Cb (A++y::B):=by
      have h1:Cb (A++y::B)=Cb (A++[y]++B):=by simp
      rw [h1]
      refine(Af7 ordK (Jy ordK _) ((Mm ordK _).trans ?_))
      exact Fib.app (Mm ordK _) (Fib.refl _)
     rw [e];exact hq)
    simpa using this)
   simpa using this
  ·have:=of_decide_eq_false h
   omega
theorem Bi3(P X S:List Pr)(a b:Nat)(ha:a=P.length)(hb:b=a+X.length)(hm:Sm (P++X++S)):
 Call E0.P Ev [.own (.arg 0), .imm (.int .i64 a), .imm (.int .i64 b), .fn Af []] [(.arg 0, .arr 1 true 7 (Bh (P++X++S)))] (Is (.tup []) [(.arg 0, .arr 1 true 7 (Bh (P++Cb X++S)))]):=by
 have hm':P.length+X.length+S.length≤4611686018427387904:=by simpa [Sm,Nat.add_assoc] using hm
 refine V4 _ _ _ _ ?_
 have w:IntKind.i64.wrap ((a:Int)+1)=((a+1:Nat):Int):=by rw [Az _ (by omega) (by omega)];simp
 rw [w]
 cases X with
 |nil=>
  refine F9 _ _ _ _ _ ⟨fun h=> ?_,fun _=> ?_⟩
  ·have:=of_decide_eq_true h
   simp at hb
   omega
  ·exact J8 _ _ _ ⟨rfl,by simp [Cb,srt]⟩
 |cons x X=>
  have:=A59 (Bh (P++x::X++S)) (Is (.tup []) [(.arg 0, .arr 1 true 7 (Bh (P++Cb (x::X)++S)))]) P S a b ha X.length [x] X rfl (by simp) (by simp at hb ⊢; omega) (List.pairwise_singleton _ _) (by simpa [Sm] using hm) ⟨rfl,by simp⟩
  simpa using this
end Go.Proofs.Sim.Se
namespace Go.Proofs.Sim.Se
open Go Go.Proofs Go.Proofs.Sim Go.Proofs.Sim.Va Go.Proofs.Sim.St
theorem half(i j:Nat)(h:i+j≤9223372036854775807):IntKind.i64.wrap ((IntKind.u64.wrap (IntKind.i64.wrap ((i:Int)+(j:Int)))).fdiv ((2:Int) ^ (1:Nat)))=(((i+j) / 2:Nat):Int):=by
 rw [Az ((i:Int)+j) (by omega) (by omega)]
 have h1:IntKind.u64.wrap ((i:Int)+j)=((i+j:Nat):Int):=by
  simp [IntKind.wrap,IntKind.signed,IntKind.bits];omega
 rw [h1]
 have h2:((i+j:Nat):Int).fdiv ((2:Int) ^ (1:Nat))=(((i+j) / 2:Nat):Int):=by
  rw [Int.fdiv_eq_ediv_of_nonneg _ (by decide)];simp
 rw [h2,Az _ (by omega) (by omega)]
theorem As8(X Y:List Pr)(i:Nat):Bp (X++Y) i=if i<X.length then Bp X i else Bp Y (i - X.length):=by
 simp only [Bp,List.getD_eq_getElem?_getD]
 split
 ·rename_i h;rw [List.getElem?_append_left h]
 ·rename_i h;rw [List.getElem?_append_right (by omega)]
theorem A77 {x:Pr} {l:List Pr} (h:x∈l):∃i,i<l.length∧Bp l i=x:=by
 obtain⟨i,hi,rfl⟩:=List.getElem_of_mem h
 exact⟨i,hi,by simp [Bp,List.getD_eq_getElem?_getD,hi]⟩
theorem sorted_at {A:List Pr} (h:Dt A)(i j:Nat)(hij:i≤j)(hj:j<A.length):bl (Bp A j).1 (Bp A i).1=false:=by
 by_cases e:i=j
 ·subst e;exact Azt _
 ·have:=(List.pairwise_iff_getElem.1 h) i j (by omega) hj (by omega)
  simpa [Bp,List.getD_eq_getElem?_getD,hj,show i<A.length by omega] using this
theorem Bjf {a b c:Ky} (h1:bl a b=true)(h2:bl c b=false):bl a c=true:=by
 cases h:bl a c with
 |true=>rfl
 |false=>
  have:=ordK.le_tr (a:=b) (b:=c) (c:=a) h2 h
  exact absurd (this.symm.trans h1) (by decide)
theorem Bb0 {a b c:Ky} (h1:bl b a=false)(h2:bl b c=true):bl a c=true:=by
 cases h:bl a c with
 |true=>rfl
 |false=>
  have:=ordK.le_tr (a:=c) (b:=a) (c:=b) h h1
  exact absurd (this.symm.trans h2) (by decide)
theorem Bph(a:Nat)(L:List Pr)(Q:Ex→St→Prop)(hL:Sm L)(ha:a<L.length):∀(f s r:Nat),r - s≤f→s≤r→r≤L.length→
 (∀t,s≤t→t≤r→(s<t→bl (Bp L (t - 1)).1 (Bp L a).1=true)→(t<r→bl (Bp L t).1 (Bp L a).1=false)→Q (.exit 0) ⟨[(0, .own (.arg 0)),(1, .imm (.int .i64 a)),(10, .imm (.int .i64 t))],[(.arg 0, .arr 1 true 7 (Bh L))]⟩)→
 Ee a s r (Bh L) Q:=by
 intro f
 induction f with
 |zero=>
  intro s r hf hsr hr hq
  refine M0 _ _ _ _ _ ⟨fun h=> ?_,fun _=> ?_⟩
  ·have:=of_decide_eq_true h;omega
  ·exact hq s (Nat.le_refl _) hsr (fun h=>by omega) (fun h=>by omega)
 |succ f ih=>
  intro s r hf hsr hr hq
  have hL':L.length≤4611686018427387904:=hL
  refine M0 _ _ _ _ _ ⟨fun h=> ?_,fun h=> ?_⟩
  ·have hlt:s<r:=by have:=of_decide_eq_true h;omega
   rw [half s r (by omega)]
   have hc1:(s+r) / 2<r:=by omega
   have hc2:s≤(s+r) / 2:=by omega
   generalize (s+r) / 2=c at hc1 hc2
   have w:IntKind.i64.wrap ((c:Int)+1)=((c+1:Nat):Int):=by rw [Az _ (by omega) (by omega)];simp
   rw [w]
   simp only [Int.toNat_natCast]
   rw [Ju L c (by omega),Ju L a ha,Ei,Ei]
   refine⟨by decide,⟨⟨by omega,by rw [A7];omega⟩,⟨⟨by rw [A7];omega,Dz _ _ _⟩,⟨⟨by omega,by rw [A7];omega⟩,⟨⟨by rw [A7];omega,Dz _ _ _⟩, ?_⟩⟩⟩⟩⟩
   refine Call.use (Azh _ _) ⟨⟨rfl,rfl⟩, ?_⟩
   show Br (decide (Y4 (Bp L c).1 (Bp L a).1<0)) _ _
   rw [Anm]
   refine⟨fun hb=> ?_,fun hb=> ?_⟩
   ·refine ih (c+1) r (by omega) (by omega) hr fun t h1 h2 h3 h4=>hq t (by omega) h2 (fun _=> ?_) h4
    by_cases e:t=c+1
    ·subst e;exact hb
    ·exact h3 (by omega)
   ·refine ih s c (by omega) (by omega) (by omega) fun t h1 h2 h3 h4=>hq t h1 (by omega) h3 (fun _=> ?_)
    by_cases e:t=c
    ·subst e;exact hb
    ·exact h4 (by omega)
  ·have:=of_decide_eq_false h
   exact hq s (Nat.le_refl _) hsr (fun h=>by omega) (fun h=>by omega)
theorem Bon(m:Nat)(L:List Pr)(Q:Ex→St→Prop)(hL:Sm L)(hm:m<L.length):∀(f s r:Nat),r - s≤f→s≤r→r≤L.length→
 (∀t,s≤t→t≤r→(s<t→bl (Bp L m).1 (Bp L (t - 1)).1=false)→(t<r→bl (Bp L m).1 (Bp L t).1=true)→Q (.exit 4) ⟨[(0, .own (.arg 0)),(2, .imm (.int .i64 m)),(14, .imm (.int .i64 t))],[(.arg 0, .arr 1 true 7 (Bh L))]⟩)→
 D9 m s r (Bh L) Q:=by
 intro f
 induction f with
 |zero=>
  intro s r hf hsr hr hq
  refine Mg _ _ _ _ _ ⟨fun h=> ?_,fun _=> ?_⟩
  ·have:=of_decide_eq_true h;omega
  ·exact hq s (Nat.le_refl _) hsr (fun h=>by omega) (fun h=>by omega)
 |succ f ih=>
  intro s r hf hsr hr hq
  have hL':L.length≤4611686018427387904:=hL
  refine Mg _ _ _ _ _ ⟨fun h=> ?_,fun h=> ?_⟩
  ·have hlt:s<r:=by have:=of_decide_eq_true h;omega
   rw [half s r (by omega)]
   have hc1:(s+r) / 2<r:=by omega
   have hc2:s≤(s+r) / 2:=by omega
   generalize (s+r) / 2=c at hc1 hc2
   have w:IntKind.i64.wrap ((c:Int)+1)=((c+1:Nat):Int):=by rw [Az _ (by omega) (by omega)];simp
   rw [w]
   simp only [Int.toNat_natCast]
   rw [Ju L c (by omega),Ju L m hm,Ei,Ei]
   refine⟨by decide,⟨⟨by omega,by rw [A7];omega⟩,⟨⟨by rw [A7];omega,Dz _ _ _⟩,⟨⟨by omega,by rw [A7];omega⟩,⟨⟨by rw [A7];omega,Dz _ _ _⟩, ?_⟩⟩⟩⟩⟩
   refine Call.use (Azh _ _) ⟨⟨rfl,rfl⟩, ?_⟩
   show Br (!decide (Y4 (Bp L m).1 (Bp L c).1<0)) _ _
   rw [Anm]
   refine⟨fun hb=> ?_,fun hb=> ?_⟩
   ·refine ih (c+1) r (by omega) (by omega) hr fun t h1 h2 h3 h4=>hq t (by omega) h2 (fun _=> ?_) h4
    by_cases e:t=c+1
    ·subst e;simpa using hb
    ·exact h3 (by omega)
   ·refine ih s c (by omega) (by omega) (by omega) fun t h1 h2 h3 h4=>hq t h1 (by omega) h3 (fun _=> ?_)
    by_cases e:t=c
    ·subst e;simpa using hb
    ·exact h4 (by omega)
  ·have:=of_decide_eq_false h
   exact hq s (Nat.le_refl _) hsr (fun h=>by omega) (fun h=>by omega)
theorem Boo(a m b mid n p:Nat)(L:List Pr)(Q:Ex→St→Prop)(hL:Sm L):∀(f s r:Nat),r - s≤f→s≤r→r≤L.length→p≤9223372036854775807→(∀c,s≤c→c<r→c≤p∧p - c<L.length)→
 (∀t,s≤t→t≤r→(s<t→bl (Bp L (p - (t - 1))).1 (Bp L (t - 1)).1=false)→(t<r→bl (Bp L (p - t)).1 (Bp L t).1=true)→
  Q (.exit 8) ⟨[(0, .own (.arg 0)),(1, .imm (.int .i64 a)),(2, .imm (.int .i64 m)),(3, .imm (.int .i64 b)),(4, .fn Af []),(18, .imm (.int .i64 mid)),(19, .imm (.int .i64 n)),(20, .imm (.int .i64 t))],[(.arg 0, .arr 1 true 7 (Bh L))]⟩)→
 Cy a m b mid n s r p (Bh L) Q:=by
 intro f
 induction f with
 |zero=>
  intro s r hf hsr hr hp hc hq
  refine Mi _ _ _ _ _ _ _ _ _ _ ⟨fun h=> ?_,fun _=> ?_⟩
  ·have:=of_decide_eq_true h;omega
  ·exact hq s (Nat.le_refl _) hsr (fun h=>by omega) (fun h=>by omega)
 |succ f ih=>
  intro s r hf hsr hr hp hc hq
  have hL':L.length≤4611686018427387904:=hL
  refine Mi _ _ _ _ _ _ _ _ _ _ ⟨fun h=> ?_,fun h=> ?_⟩
  ·have hlt:s<r:=by have:=of_decide_eq_true h;omega
   rw [half s r (by omega)]
   have hc1:(s+r) / 2<r:=by omega
   have hc2:s≤(s+r) / 2:=by omega
   generalize (s+r) / 2=c at hc1 hc2
   obtain⟨hcp,hcl⟩:=hc c hc2 hc1
   have w:IntKind.i64.wrap ((c:Int)+1)=((c+1:Nat):Int):=by rw [Az _ (by omega) (by omega)];simp
   have w2:IntKind.i64.wrap ((p:Int) - (c:Int))=((p - c:Nat):Int):=by rw [Az _ (by omega) (by omega)];omega
   rw [w,w2]
   simp only [Int.toNat_natCast]
   rw [Ju L (p - c) hcl,Ju L c (by omega),Ei,Ei]
   refine⟨by decide,⟨⟨by omega,by rw [A7];omega⟩,⟨⟨by rw [A7];omega,Dz _ _ _⟩,⟨⟨by omega,by rw [A7];omega⟩,⟨⟨by rw [A7];omega,Dz _ _ _⟩, ?_⟩⟩⟩⟩⟩
   refine Call.use (Azh _ _) ⟨⟨rfl,rfl⟩, ?_⟩
   show Br (!decide (Y4 (Bp L (p - c)).1 (Bp L c).1<0)) _ _
   rw [Anm]
   refine⟨fun hb=> ?_,fun hb=> ?_⟩
   ·refine ih (c+1) r (by omega) (by omega) hr hp (fun d h1 h2=>hc d (by omega) h2) fun t h1 h2 h3 h4=>hq t (by omega) h2 (fun _=> ?_) h4
    by_cases e:t=c+1
    ·subst e;simpa using hb
    ·exact h3 (by omega)
   ·refine ih s c (by omega) (by omega) (by omega) hp (fun d h1 h2=>hc d h1 (by omega)) fun t h1 h2 h3 h4=>hq t h1 (by omega) h3 (fun _=> ?_)
    by_cases e:t=c
    ·subst e;simpa using hb
    ·exact h4 (by omega)
  ·have:=of_decide_eq_false h
   exact hq s (Nat.le_refl _) hsr (fun h=>by omega) (fun h=>by omega)
theorem Bix(S:List Pr)(x:Pr)(e:Nat)(Q:Ex→St→Prop):∀(B P:List Pr) (k:Nat),k=P.length→e=k+B.length+1→Sm (P++x::(B++S))→
 Q (.exit 2) ⟨[],[(.arg 0, .arr 1 true 7 (Bh (P++B++x::S)))]⟩→Fz e k (Bh (P++x::(B++S))) Q
 | [],P,k,hk,he,hm,hq=>by
   have hm':P.length+1+S.length≤4611686018427387904:=by simp [Sm]at hm;omega
   simp only [List.length_nil]at he
   have w:IntKind.i64.wrap ((e:Int) - 1)=((k:Nat):Int):=by rw [Az _ (by omega) (by omega)];omega
   refine Mf _ _ _ _ ?_
   rw [w]
   refine⟨fun h=> ?_,fun _=>by simpa using hq⟩
   have:=of_decide_eq_true h;omega
 |y::B,P,k,hk,he,hm,hq=>by
  have hm':P.length+1+(B.length+1)+S.length≤4611686018427387904:=by simp [Sm]at hm;omega
  simp only [List.length_cons]at he
  have w:IntKind.i64.wrap ((e:Int) - 1)=((e - 1:Nat):Int):=by rw [Az _ (by omega) (by omega)];omega
  have w2:IntKind.i64.wrap ((k:Int)+1)=((k+1:Nat):Int):=by rw [Az _ (by omega) (by omega)];simp
  refine Mf _ _ _ _ ?_
  rw [w,w2]
  refine⟨fun h=> ?_,fun h=> ?_⟩
  ·have e1:P++x::(y::B++S)=(P++[x])++y::(B++S):=by simp
   generalize hL:P++x::(y::B++S)=L at*
   have hlen:L.length=P.length+1+(B.length+1)+S.length:=by rw [←hL];simp;omega
   have g1:Bp L k=x:=by rw [←hL];exact Nn _ _ _ _ hk
   have g2:Bp L (k+1)=y:=by rw [e1];exact Nn _ _ _ _ (by simp;omega)
   have r1:=Ju L k (by omega)
   have r2:=Ju L (k+1) (by omega)
   rw [g1]at r1
   rw [g2]at r2
   simp only [Int.toNat_natCast]
   rw [r1,r2,Ei,Ei,X6,X6]
   have s1:L.set k y=(P++[y])++y::(B++S):=by rw [←hL,set_mid _ _ _ _ _ hk];simp
   have s2:(L.set k y).set (k+1) x=(P++[y])++x::(B++S):=by rw [s1,set_mid _ _ _ _ _ (by simp;omega)]
   rw [s2]
   refine⟨⟨by omega,by rw [A7];omega⟩,⟨⟨by rw [A7];omega,Dz _ _ _⟩,⟨⟨by omega,by rw [A7];omega⟩,⟨⟨by rw [A7];omega,Dz _ _ _⟩,⟨⟨by omega,by rw [A7];omega⟩,⟨by rw [A7];omega,⟨⟨by omega,by rw [A7,List.length_set];omega⟩,⟨by rw [A7,List.length_set];omega, ?_⟩⟩⟩⟩⟩⟩⟩⟩
   exact Bix S x e Q B (P++[y]) (k+1) (by simp;omega) (by omega) (by simp [Sm];omega) (by simpa using hq)
  ·have:=of_decide_eq_false h;omega
theorem Biy(P:List Pr)(y:Pr)(e:Nat)(Q:Ex→St→Prop)(he:e=P.length):∀(n:Nat) (A S:List Pr),A.length=n→Sm (P++A++y::S)→
 Q (.exit 6) ⟨[],[(.arg 0, .arr 1 true 7 (Bh (P++y::(A++S))))]⟩→F3 e ((e+n:Nat):Int) (Bh (P++A++y::S)) Q
 |0,A,S,hA,hm,hq=>by
  have:A=[]:=List.eq_nil_of_length_eq_zero hA
  subst this
  refine Mh _ _ _ _ ⟨fun h=> ?_,fun _=>by simpa using hq⟩
  have:=of_decide_eq_true h;omega
 |n+1,A,S,hA,hm,hq=>by
  obtain⟨A,z,rfl⟩:∃B z,A=B++[z]:=by
   rcases List.eq_nil_or_concat A with h |⟨A,z,h⟩
   ·subst h;simp at hA
   ·exact⟨A,z,by simpa using h⟩
  have hA:A.length=n:=by simpa using hA
  have hm':P.length+(n+1)+1+S.length≤4611686018427387904:=by simp [Sm]at hm;omega
  have w:IntKind.i64.wrap (((e+(n+1):Nat):Int) - 1)=((e+n:Nat):Int):=by rw [Az _ (by omega) (by omega)];omega
  refine Mh _ _ _ _ ?_
  rw [w]
  refine⟨fun h=> ?_,fun h=> ?_⟩
  ·have e2:P++(A++[z])++y::S=(P++A)++z::(y::S):=by simp
   generalize hL:P++(A++[z])++y::S=L at*
   have hlen:L.length=P.length+(n+1)+1+S.length:=by rw [←hL];simp;omega
   have g1:Bp L (e+(n+1))=y:=by rw [←hL];exact Nn _ _ _ _ (by simp;omega)
   have g2:Bp L (e+n)=z:=by rw [e2];exact Nn _ _ _ _ (by simp;omega)
   have r1:=Ju L (e+(n+1)) (by omega)
   have r2:=Ju L (e+n) (by omega)
   rw [g1]at r1
   rw [g2]at r2
   simp only [Int.toNat_natCast]
   rw [r1,r2,Ei,Ei,X6,X6]
   have s1:L.set (e+(n+1)) z=(P++A)++z::(z::S):=by rw [←hL,set_mid _ _ _ _ _ (by simp;omega)];simp
   have s2:(L.set (e+(n+1)) z).set (e+n) y=P++A++y::(z::S):=by rw [s1,set_mid _ _ _ _ _ (by simp;omega)]
   rw [s2]
   refine⟨⟨by omega,by rw [A7];omega⟩,⟨⟨by rw [A7];omega,Dz _ _ _⟩,⟨⟨by omega,by rw [A7];omega⟩,⟨⟨by rw [A7];omega,Dz _ _ _⟩,⟨⟨by omega,by rw [A7];omega⟩,⟨by rw [A7];omega,⟨⟨by omega,by rw [A7,List.length_set];omega⟩,⟨by rw [A7,List.length_set];omega, ?_⟩⟩⟩⟩⟩⟩⟩⟩
   exact Biy P y e Q he n A (z::S) hA (by simp [Sm];omega) (by simpa using hq)
  ·have:=of_decide_eq_false h;omega
end Go.Proofs.Sim.Se
