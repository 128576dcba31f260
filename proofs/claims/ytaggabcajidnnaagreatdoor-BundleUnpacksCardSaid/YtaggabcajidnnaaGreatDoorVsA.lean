import Derived.Test.YtaggabcajidnnaaGreatDoorSeatGenV
import Derived.Test.YtaggabcajidnnaaGreatDoorVaA
namespace Go.Proofs.Sim.Se
open Go Go.Proofs Go.Proofs.Sim Go.Proofs.Sim.Va Go.Proofs.Sim.St
def Aau(a b:Ky):Int:=if Op.bytesLess a b then -1 else if a=b then 0 else 1
theorem Bk1(a:Ky):Call E0.P Pt [.imm (.str a)] [] (Is (.imm (.bool false)) []):=by
 refine Ar8 a _ ?_
 simp [Is]
theorem Btr(a b:Ky):Call E0.P M9 [.imm (.str a), .imm (.str b)] [] (Is (.imm (.int .i64 (Aau a b))) []):=by
 refine Ao5 a b _ ?_
 refine Call.use (Bk1 a) ⟨⟨rfl,rfl⟩, ?_⟩
 refine Call.use (Bk1 b) ⟨⟨rfl,rfl⟩, ?_⟩
 refine⟨fun h=>absurd h (by decide),fun _=>⟨fun h=>absurd h (by decide),fun _=>⟨fun h=> ?_,fun h=>⟨fun h2=> ?_,fun h2=> ?_⟩⟩⟩⟩
 ·simp [Is,Aau,h]
 ·simp [h]at h2
  simp [Is,Aau,h,h2]
 ·simp [h]at h2
  subst h2
  simp [Is,Aau,h]
theorem A77(p q:Pr):Call E0.P Ak [.imm (.agg (Bc p)), .imm (.agg (Bc q))] [] (Is (.imm (.int .i64 (Aau p.1 q.1))) []):=by
 rw [Em,Em]
 refine Apa _ _ _ _ _ _ _ _ _ _ _ _ _ _ _ ?_
 exact Call.use (Btr p.1 q.1) ⟨⟨rfl,rfl⟩,⟨rfl,rfl⟩⟩
theorem Bts(p q:Pr):Call E0.P Ca [.imm (.agg (Bc p)), .imm (.agg (Bc q))] [] (Is (.imm (.bool (p.1 == q.1))) []):=by
 rw [Em,Em]
 exact Apb _ _ _ _ _ _ _ _ _ _ _ _ _ _ _ ⟨rfl,rfl⟩
theorem Bk0(p:Pr)(k:Ky):Call E0.P Dt [.imm (.agg (Bc p)), .imm (.str k)] [] (Is (.imm (.int .i64 (Aau p.1 k))) []):=by
 rw [Em]
 refine Aya _ _ _ _ _ _ _ _ _ ?_
 exact Call.use (Btr p.1 k) ⟨⟨rfl,rfl⟩,⟨rfl,rfl⟩⟩
theorem As1(a b:Ky):decide (Aau a b<0)=Op.bytesLess a b:=by
 unfold Aau
 cases h:Op.bytesLess a b with
 |true=>simp
 |false=>by_cases e:a=b<;>simp [e]
abbrev Bf(ps:List Pr):List (List IV):=ps.map Bc
abbrev Bo(ps:List Pr)(n:Nat):Pr:=ps.getD n default
theorem Ay(ps:List Pr):(Bf ps).length=ps.length:=List.length_map ..
theorem J3(ps:List Pr)(n:Nat)(h:n<ps.length):List.take 7 (List.drop 0 ((Bf ps).getD n []))=Bc (Bo ps n):=by
 have:(Bf ps).getD n []=Bc (Bo ps n):=by simp [List.getD_eq_getElem?_getD,h]
 rw [this,Em]
 rfl
theorem Dx(p:Pr): [.str (gS (Bc p) 0), .int .i64 (gI (Bc p) 1), .int .i64 (gI (Bc p) 2), .int .i64 (gI (Bc p) 3), .str (gS (Bc p) 4), .sl .any 6 (gR (Bc p) 5), .sl .any 7 (gR (Bc p) 6)]=Bc p:=by
 rw [Em];rfl
theorem C9(p:Pr)(e f:Nat):Be [.str, .int .i64, .int .i64, .int .i64, .str, .sl 6 e, .sl 7 f] (Bc p)=true:=by
 rw [Em];rfl
theorem Zz(ps:List Pr)(n:Nat)(p:Pr):(Bf ps).set n (Bc p)=Bf (ps.set n p):=by
 simp [Bf,List.map_set]
abbrev Sm(ps:List Pr):Prop:=ps.length≤4611686018427387904
def swF(a b:Nat):Nat→Nat→List Pr→List Pr
 |0,_,ps=>ps
 |m+1,i,ps=>swF a b m (i+1) ((ps.set (a+i) (Bo ps (b+i))).set (b+i) (Bo ps (a+i)))
theorem Bn5(a b n:Nat):∀(m i:Nat) (ps:List Pr) (Q:Ex→St→Prop),i+m=n→a+n≤ps.length→b+n≤ps.length→Sm ps→
 Q (.exit 0) ⟨[],[(.arg 0, .arr 1 true 7 (Bf (swF a b m i ps)))]⟩→F5 a b n i (Bf ps) Q
 |0,i,ps,Q,h1,h2,h3,h4,hq=>by
  refine M0 _ _ _ _ _ _ ⟨fun h=> ?_,fun _=>hq⟩
  have:=of_decide_eq_true h
  omega
 |m+1,i,ps,Q,h1,h2,h3,h4,hq=>by
  refine M0 _ _ _ _ _ _ ⟨fun _=> ?_,fun h=> ?_⟩
  ·have w1:IntKind.i64.wrap ((b:Int)+(i:Int))=((b+i:Nat):Int):=by rw [Av _ (by omega) (by omega)];simp
   have w2:IntKind.i64.wrap ((a:Int)+(i:Int))=((a+i:Nat):Int):=by rw [Av _ (by omega) (by omega)];simp
   have w3:IntKind.i64.wrap ((i:Int)+1)=((i+1:Nat):Int):=by rw [Av _ (by omega) (by omega)];simp
   simp only [w1,w2,w3,Int.toNat_natCast]
   rw [J3 ps (b+i) (by omega),J3 ps (a+i) (by omega)]
   refine⟨⟨by omega,by rw [Ay];omega⟩,⟨⟨by rw [Ay];omega,C9 _ _ _⟩,⟨⟨by omega,by rw [Ay];omega⟩,⟨⟨by rw [Ay];omega,C9 _ _ _⟩,⟨⟨by omega,by rw [Ay];omega⟩,⟨by rw [Ay];omega, ?_⟩⟩⟩⟩⟩⟩
   rw [Dx,Dx,Zz,Zz]
   refine⟨⟨by omega,by rw [Ay,List.length_set];omega⟩,⟨by rw [Ay,List.length_set];omega, ?_⟩⟩
   exact Bn5 a b n m (i+1) _ Q (by omega) (by simpa using h2) (by simpa using h3) (by simpa [Sm] using h4) hq
  ·have:=of_decide_eq_false h
   omega
theorem Bf7(a b n:Nat)(ps:List Pr)(h2:a+n≤ps.length)(h3:b+n≤ps.length)(h4:Sm ps):
 Call E0.P Ei [.own (.arg 0), .imm (.int .i64 a), .imm (.int .i64 b), .imm (.int .i64 n), .fn Ak []] [(.arg 0, .arr 1 true 7 (Bf ps))] (Is (.tup []) [(.arg 0, .arr 1 true 7 (Bf (swF a b n 0 ps)))]):=by
 refine Aa2 _ _ _ _ _ ?_
 exact Bn5 a b n n 0 ps _ (by omega) h2 h3 h4 (Y5 _ _ _ ⟨rfl,rfl⟩)
end Go.Proofs.Sim.Se
namespace Go.Proofs.Sim.Se
open Go Go.Proofs Go.Proofs.Sim Go.Proofs.Sim.Va Go.Proofs.Sim.St
theorem Ja(L R:List Pr)(c:Pr)(n:Nat)(h:n=L.length):Bo (L++c::R) n=c:=by
 subst h;simp [Bo]
theorem set_mid(L R:List Pr)(c d:Pr)(n:Nat)(h:n=L.length):(L++c::R).set n d=L++d::R:=by
 subst h;simp
theorem Blp(x y z:List Pr):∀(A2 B2 A1 B1:List Pr),A2.length=B2.length→A1.length=B1.length→
 swF x.length (x.length+(A1.length+A2.length)+y.length) A2.length A1.length (x++(B1++A2)++y++(A1++B2)++z)=x++(B1++B2)++y++(A1++A2)++z
 | [],B2,A1,B1,h1,h2=>by
   have:B2=[]:=List.eq_nil_of_length_eq_zero h1.symm
   subst this
   simp [swF]
 |a::A2,[],A1,B1,h1,h2=>by simp at h1
 |a::A2,b::B2,A1,B1,h1,h2=>by
  have e1:x++(B1++a::A2)++y++(A1++b::B2)++z=(x++B1)++a::(A2++y++A1++b::(B2++z)):=by simp
  have e2:x++(B1++a::A2)++y++(A1++b::B2)++z=(x++B1++a::A2++y++A1)++b::(B2++z):=by simp
  have e3:(x++B1)++b::(A2++y++A1++b::(B2++z))=(x++B1++b::A2++y++A1)++b::(B2++z):=by simp
  have e4:(x++B1++b::A2++y++A1)++a::(B2++z)=x++((B1++[b])++A2)++y++((A1++[a])++B2)++z:=by simp
  have h1':A2.length=B2.length:=by simpa using h1
  simp only [List.length_cons,swF]
  have g1:Bo (x++(B1++a::A2)++y++(A1++b::B2)++z) (x.length+(A1.length+(A2.length+1))+y.length+A1.length)=b:=by
   rw [e2];exact Ja _ _ _ _ (by simp;omega)
  have g2:Bo (x++(B1++a::A2)++y++(A1++b::B2)++z) (x.length+A1.length)=a:=by
   rw [e1];exact Ja _ _ _ _ (by simp;omega)
  rw [g1,g2,e1,set_mid _ _ _ _ _ (by simp;omega),e3,set_mid _ _ _ _ _ (by simp;omega),e4]
  have ih:=Blp x y z A2 B2 (A1++[a]) (B1++[b]) h1' (by simp [h2])
  rw [show(A1++[a]).length=A1.length+1 by simp]at ih
  rw [show x.length+(A1.length+(A2.length+1))+y.length=x.length+(A1.length+1+A2.length)+y.length by omega,ih]
  simp
theorem Bi6(x A y B z:List Pr)(h:A.length=B.length)(a b n:Nat)(ha:a=x.length)(hb:b=x.length+A.length+y.length)(hn:n=A.length):swF a b n 0 (x++A++y++B++z)=x++B++y++A++z:=by
 have:=Blp x y z A B [] [] h rfl
 simp only [List.length_nil,Nat.zero_add,List.nil_append]at this
 rw [ha,hb,hn]
 exact this
theorem Jr(n:Nm)(ty sz:Nat)(w:Bool)(rows:List (List IV)):Cq [(n, .arr ty w sz rows)] n=rows:=by
 simp [Cq,hget,Nm.beq_self]
theorem Blv(rows:List (List IV))(R:AV→Heap→Prop):∀(f:Nat) (P X Y S:List Pr) (m i j:Nat),X.length+Y.length≤f→i=X.length→j=Y.length→0<i→0<j→m=P.length+i→Sm (P++X++Y++S)→
 R (.tup []) [(.arg 0, .arr 1 true 7 (Bf (P++Y++X++S)))]→E9 m i j (Bf (P++X++Y++S)) (Ko rows R)
 |0,P,X,Y,S,m,i,j,hf,hi,hj,hi0,hj0,hm,hs,hq=>by omega
 |f+1,P,X,Y,S,m,i,j,hf,hi,hj,hi0,hj0,hm,hs,hq=>by
  have hs':P.length+X.length+Y.length+S.length≤4611686018427387904:=by simpa [Sm,Nat.add_assoc] using hs
  have w1:IntKind.i64.wrap ((m:Int) - (i:Int))=((P.length:Nat):Int):=by rw [Av _ (by omega) (by omega)];omega
  refine Ac0 _ _ _ _ _ ⟨fun hne=>⟨fun hlt=> ?_,fun hlt=> ?_⟩,fun he=> ?_⟩
  ·
   have hlt:j<i:=by have:=of_decide_eq_true hlt;omega
   have w2:IntKind.i64.wrap ((i:Int) - (j:Int))=((i - j:Nat):Int):=by rw [Av _ (by omega) (by omega)];omega
   rw [w1,w2]
   refine Call.use (Bf7 P.length m j _ (by simp;omega) (by simp;omega) hs) ⟨⟨rfl,rfl⟩, ?_⟩
   rw [Jr]
   obtain⟨X1,X2,rfl,h1⟩:∃X1 X2,X=X1++X2∧X1.length=j:=⟨X.take j,X.drop j,(List.take_append_drop j X).symm,by simp;omega⟩
   simp only [List.length_append]at hi hf
   have e:=Bi6 P X1 X2 Y S (by omega) P.length m j rfl (by omega) (by omega)
   rw [show P++(X1++X2)++Y++S=P++X1++X2++Y++S by simp,e]
   have:=Blv rows R f (P++Y) X2 X1 S m (i - j) j (by omega) (by omega) (by omega) (by omega) hj0 (by simp;omega) (by simp [Sm]at hs ⊢; omega) (by simpa using hq)
   simpa using this
  ·have hlt:i<j:=by
    have h1:=of_decide_eq_false hlt
    have h2:¬((i:Int)=j):=by simpa using hne
    omega
   have w2:IntKind.i64.wrap ((j:Int) - (i:Int))=((j - i:Nat):Int):=by rw [Av _ (by omega) (by omega)];omega
   have w3:IntKind.i64.wrap (IntKind.i64.wrap ((m:Int)+(j:Int)) - (i:Int))=((m+j - i:Nat):Int):=by
    rw [Av ((m:Int)+j) (by omega) (by omega),Av _ (by omega) (by omega)];omega
   rw [w1,w2,w3]
   refine Call.use (Bf7 P.length (m+j - i) i _ (by simp;omega) (by simp;omega) hs) ⟨⟨rfl,rfl⟩, ?_⟩
   rw [Jr]
   obtain⟨Y1,Y2,rfl,h1⟩:∃Y1 Y2,Y=Y1++Y2∧Y1.length=j - i:=⟨Y.take (j - i),Y.drop (j - i),(List.take_append_drop (j - i) Y).symm,by simp;omega⟩
   simp only [List.length_append]at hj hf
   have e:=Bi6 P X Y1 Y2 S (by omega) P.length (m+j - i) i rfl (by omega) (by omega)
   rw [show P++X++(Y1++Y2)++S=P++X++Y1++Y2++S by simp,e]
   have:=Blv rows R f P Y2 Y1 (X++S) m i (j - i) (by omega) (by omega) (by omega) hi0 (by omega) (by omega) (by simp [Sm]at hs ⊢; omega) (by simpa using hq)
   simpa using this
  ·have he:i=j:=by
    have h2:((i:Int)=j):=by simpa using he
    omega
   subst he
   refine Acr _ _ _ _ _ ?_
   refine Acf _ _ _ _ ?_
   rw [w1]
   refine Call.use (Bf7 P.length m i _ (by simp;omega) (by simp;omega) hs) ⟨⟨rfl,rfl⟩, ?_⟩
   rw [Jr]
   have e:=Bi6 P X [] Y S (by omega) P.length m i rfl (by simp;omega) (by omega)
   simp only [List.append_nil]at e
   rw [e]
   exact Acp _ _ _ hq
theorem Bzs(P X Y S:List Pr)(a m b:Nat)(hx:0<X.length)(hy:0<Y.length)(ha:a=P.length)(hm:m=a+X.length)(hb:b=m+Y.length)(hs:Sm (P++X++Y++S)):
 Call E0.P Le [.own (.arg 0), .imm (.int .i64 a), .imm (.int .i64 m), .imm (.int .i64 b), .fn Ak []] [(.arg 0, .arr 1 true 7 (Bf (P++X++Y++S)))] (Is (.tup []) [(.arg 0, .arr 1 true 7 (Bf (P++Y++X++S)))]):=by
 have hs':P.length+X.length+Y.length+S.length≤4611686018427387904:=by simpa [Sm,Nat.add_assoc] using hs
 refine Ady _ _ _ _ _ ?_
 have w1:IntKind.i64.wrap ((m:Int) - (a:Int))=((X.length:Nat):Int):=by rw [Av _ (by omega) (by omega)];omega
 have w2:IntKind.i64.wrap ((b:Int) - (m:Int))=((Y.length:Nat):Int):=by rw [Av _ (by omega) (by omega)];omega
 rw [w1,w2]
 exact Blv _ _ _ P X Y S m X.length Y.length (Nat.le_refl _) rfl rfl hx hy (by omega) hs ⟨rfl,rfl⟩
end Go.Proofs.Sim.Se
namespace Go.Proofs.Sim.Se
open Go Go.Proofs Go.Proofs.Sim Go.Proofs.Sim.Va Go.Proofs.Sim.St
theorem Bky(P S:List Pr)(a i b:Nat)(y:Pr)(Q:Ex→St→Prop)(ha:a=P.length):∀(n:Nat) (A1 A2:List Pr),A1.length=n→C8 (A1++A2)→(∀x∈A2,bl y.1 x.1=true)→Sm (P++A1++y::(A2++S))→
 Q (.exit 2) ⟨[(0, .own (.arg 0)),(1, .imm (.int .i64 a)),(2, .imm (.int .i64 b)),(3, .fn Ak []),(8, .imm (.int .i64 i))],[(.arg 0, .arr 1 true 7 (Bf (P++Ce (A1++A2++[y])++S)))]⟩→
 Ep a b i ((a+n:Nat):Int) (Bf (P++A1++y::(A2++S))) Q
 |0,A1,A2,hl,hs,hy,hm,hq=>by
  have:A1=[]:=List.eq_nil_of_length_eq_zero hl
  subst this
  have e:y::A2=Ce ([]++A2++[y]):=by
   have:=Avg ordK (key:=pk) (a1:=[]) (a2:=A2) (y:=y) hs (fun x hx=>by cases hx) hy
   simpa using this
  rw [←e]at hq
  have hd:decide ((a:Int)<((a+0:Nat):Int))=false:=by simp
  refine Kg _ _ _ _ _ _ ?_
  rw [hd]
  refine⟨fun h=>(by cases h),⟨fun h=>(by cases h),⟨fun h=>(by cases h),⟨fun h=>(by cases h),⟨fun h=>(by cases h),fun _=>⟨rfl,Let.intro ⟨fun h=>(by cases h),fun _=> ?_⟩⟩⟩⟩⟩⟩⟩
  simpa using hq
 |n+1,A1,A2,hl,hs,hy,hm,hq=>by
  obtain⟨A,z,rfl⟩:∃A z,A1=A++[z]:=by
   rcases List.eq_nil_or_concat A1 with h |⟨A,z,h⟩
   ·subst h;simp at hl
   ·exact⟨A,z,by simpa using h⟩
  have hA:A.length=n:=by simpa using hl
  have hm':P.length+(n+1)+1+A2.length+S.length≤4611686018427387904:=by
   simp [Sm]at hm;omega
  have hd:decide ((a:Int)<((a+(n+1):Nat):Int))=true:=by simp;omega
  have w1:IntKind.i64.wrap (((a+(n+1):Nat):Int) - 1)=((a+n:Nat):Int):=by rw [Av _ (by omega) (by omega)];omega
  have e1:P++(A++[z])++y::(A2++S)=(P++A++[z])++y::(A2++S):=by simp
  have e2:P++(A++[z])++y::(A2++S)=(P++A)++z::(y::(A2++S)):=by simp
  generalize hL:P++(A++[z])++y::(A2++S)=L at*
  have hlen:L.length=P.length+(n+1)+1+A2.length+S.length:=by rw [←hL];simp;omega
  have g1:Bo L (a+(n+1))=y:=by rw [e1];exact Ja _ _ _ _ (by simp;omega)
  have g2:Bo L (a+n)=z:=by rw [e2];exact Ja _ _ _ _ (by simp;omega)
  have r1:=J3 L (a+(n+1)) (by omega)
  have r2:=J3 L (a+n) (by omega)
  rw [g1]at r1
  rw [g2]at r2
  refine Kg _ _ _ _ _ _ ?_
  rw [hd,w1]
  simp only [Int.toNat_natCast]
  rw [r1,r2,Dx,Dx]
  refine⟨fun _=>⟨by omega,by rw [Ay];omega⟩,⟨fun _=>⟨by rw [Ay];omega,C9 _ _ _⟩,⟨fun _=>⟨by omega,by rw [Ay];omega⟩,⟨fun _=>⟨by rw [Ay];omega,C9 _ _ _⟩,⟨fun _=> ?_,fun h=>(by cases h)⟩⟩⟩⟩⟩
  refine Call.use (A77 y z) ⟨⟨rfl,rfl⟩,Let.intro ?_⟩
  show Br (decide (Aau y.1 z.1<0)) _ _
  rw [As1]
  refine⟨fun hlt=> ?_,fun hge=> ?_⟩
  ·refine Vm _ _ _ _ _ _ ?_
   rw [w1]
   simp only [Int.toNat_natCast]
   rw [r1,r2,Dx,Dx,Zz,Zz]
   have s1:L.set (a+(n+1)) z=(P++A)++z::(z::(A2++S)):=by rw [e1,set_mid _ _ _ _ _ (by simp;omega)];simp
   have s2:(L.set (a+(n+1)) z).set (a+n) y=P++A++y::((z::A2)++S):=by rw [s1,set_mid _ _ _ _ _ (by simp;omega)];simp
   rw [s2]
   refine⟨⟨by omega,by rw [Ay];omega⟩,⟨⟨by rw [Ay];omega,C9 _ _ _⟩,⟨⟨by omega,by rw [Ay];omega⟩,⟨⟨by rw [Ay];omega,C9 _ _ _⟩,⟨⟨by omega,by rw [Ay];omega⟩,⟨by rw [Ay];omega,⟨⟨by omega,by rw [Ay,List.length_set];omega⟩,⟨by rw [Ay,List.length_set];omega, ?_⟩⟩⟩⟩⟩⟩⟩⟩
   refine Vq _ _ _ _ _ _ ?_
   refine Bky P S a i b y Q ha n A (z::A2) hA (by simpa using hs) (fun x hx=> ?_) (by simp [Sm];omega) (by simpa using hq)
   rcases List.mem_cons.1 hx with rfl |hx
   ·exact hlt
   ·exact hy x hx
  ·have e:(A++[z])++y::A2=Ce (A++[z]++A2++[y]):=by
    refine Avg ordK (key:=pk) (a1:=A++[z]) (a2:=A2) (y:=y) hs (fun x hx=> ?_) hy
    rcases List.mem_append.1 hx with hx |hx
    ·have hz:bl z.1 x.1=false:=by
      have h1:=(J5.1 hs).1
      exact(J5.1 h1).2.2 x hx z (by simp)
     exact ordK.le_tr hz hge
    ·have:x=z:=by simpa using hx
     subst this;exact hge
   rw [←e]at hq
   rw [←hL]
   simpa using hq
theorem Bfw(rows:List (List IV))(R:AV→Heap→Prop)(P S:List Pr)(a b:Nat)(ha:a=P.length):∀(m:Nat) (A B:List Pr),B.length=m→0<A.length→b=a+A.length+B.length→C8 A→Sm (P++A++B++S)→
 R (.tup []) [(.arg 0, .arr 1 true 7 (Bf (P++Ce (A++B)++S)))]→Eo a b ((a+A.length:Nat):Int) (Bf (P++A++B++S)) (En rows R)
 |0,A,B,hB,hA,hb,hs,hm,hq=>by
  have:B=[]:=List.eq_nil_of_length_eq_zero hB
  subst this
  refine Gc _ _ _ _ _ ⟨fun h=> ?_,fun _=> ?_⟩
  ·have:=of_decide_eq_true h
   simp at hb
   omega
  ·refine Ke _ _ _ ?_
   have:Ce A=A:=(Ai5 ordK hs (Fib.refl A)).symm
   simpa [this] using hq
 |m+1,A,[],hB,_,_,_,_,_=>by simp at hB
 |m+1,A,y::B,hB,hA,hb,hs,hm,hq=>by
  have hm':P.length+A.length+(B.length+1)+S.length≤4611686018427387904:=by
   simp [Sm]at hm;omega
  simp only [List.length_cons]at hb hB
  refine Gc _ _ _ _ _ ⟨fun _=> ?_,fun h=> ?_⟩
  ·have:=Bky P (B++S) a (a+A.length) b y (He (En rows R)) ha A.length A [] rfl (by simpa using hs) (fun x hx=>by cases hx) (by simp [Sm];omega) (by
    refine Vp _ _ _ _ _ ?_
    refine Ug _ _ _ _ _ ?_
    refine Vo _ _ _ _ _ ?_
    have w:IntKind.i64.wrap (((a+A.length:Nat):Int)+1)=((a+(Ce (A++[y])).length:Nat):Int):=by
     rw [Gy ordK,Av _ (by omega) (by omega)];simp;omega
    rw [w,List.append_nil]
    have:=Bfw rows R P S a b ha m (Ce (A++[y])) B (by omega) (by rw [Gy ordK];simp) (by rw [Gy ordK];simp;omega) (J6 ordK _) (by simp [Sm,Gy ordK];omega) (by
     have e:Ce (Ce (A++[y])++B)=Ce (A++y::B):=by
      have h1:Ce (A++y::B)=Ce (A++[y]++B):=by simp
      rw [h1]
      refine(Ai5 ordK (J6 ordK _) ((Nb ordK _).trans ?_))
      exact Fib.app (Nb ordK _) (Fib.refl _)
     rw [e];exact hq)
    simpa using this)
   simpa using this
  ·have:=of_decide_eq_false h
   omega
theorem Btu(P X S:List Pr)(a b:Nat)(ha:a=P.length)(hb:b=a+X.length)(hm:Sm (P++X++S)):
 Call E0.P Ey [.own (.arg 0), .imm (.int .i64 a), .imm (.int .i64 b), .fn Ak []] [(.arg 0, .arr 1 true 7 (Bf (P++X++S)))] (Is (.tup []) [(.arg 0, .arr 1 true 7 (Bf (P++Ce X++S)))]):=by
 have hm':P.length+X.length+S.length≤4611686018427387904:=by simpa [Sm,Nat.add_assoc] using hm
 refine Xo _ _ _ _ ?_
 have w:IntKind.i64.wrap ((a:Int)+1)=((a+1:Nat):Int):=by rw [Av _ (by omega) (by omega)];simp
 rw [w]
 cases X with
 |nil=>
  refine Gc _ _ _ _ _ ⟨fun h=> ?_,fun _=> ?_⟩
  ·have:=of_decide_eq_true h
   simp at hb
   omega
  ·exact Ke _ _ _ ⟨rfl,by simp [Ce,srt]⟩
 |cons x X=>
  have:=Bfw (Bf (P++x::X++S)) (Is (.tup []) [(.arg 0, .arr 1 true 7 (Bf (P++Ce (x::X)++S)))]) P S a b ha X.length [x] X rfl (by simp) (by simp at hb ⊢; omega) (List.pairwise_singleton _ _) (by simpa [Sm] using hm) ⟨rfl,by simp⟩
  simpa using this
end Go.Proofs.Sim.Se
namespace Go.Proofs.Sim.Se
open Go Go.Proofs Go.Proofs.Sim Go.Proofs.Sim.Va Go.Proofs.Sim.St
theorem half(i j:Nat)(h:i+j≤9223372036854775807):IntKind.i64.wrap ((IntKind.u64.wrap (IntKind.i64.wrap ((i:Int)+(j:Int)))).fdiv ((2:Int) ^ (1:Nat)))=(((i+j) / 2:Nat):Int):=by
 rw [Av ((i:Int)+j) (by omega) (by omega)]
 have h1:IntKind.u64.wrap ((i:Int)+j)=((i+j:Nat):Int):=by
  simp [IntKind.wrap,IntKind.signed,IntKind.bits];omega
 rw [h1]
 have h2:((i+j:Nat):Int).fdiv ((2:Int) ^ (1:Nat))=(((i+j) / 2:Nat):Int):=by
  rw [Int.fdiv_eq_ediv_of_nonneg _ (by decide)];simp
 rw [h2,Av _ (by omega) (by omega)]
theorem Ay8(X Y:List Pr)(i:Nat):Bo (X++Y) i=if i<X.length then Bo X i else Bo Y (i - X.length):=by
 simp only [Bo,List.getD_eq_getElem?_getD]
 split
 ·rename_i h;rw [List.getElem?_append_left h]
 ·rename_i h;rw [List.getElem?_append_right (by omega)]
theorem Bhw {x:Pr} {l:List Pr} (h:x∈l):∃i,i<l.length∧Bo l i=x:=by
 obtain⟨i,hi,rfl⟩:=List.getElem_of_mem h
 exact⟨i,hi,by simp [Bo,List.getD_eq_getElem?_getD,hi]⟩
theorem sorted_at {A:List Pr} (h:C8 A)(i j:Nat)(hij:i≤j)(hj:j<A.length):bl (Bo A j).1 (Bo A i).1=false:=by
 by_cases e:i=j
 ·subst e;exact A8k _
 ·have:=(List.pairwise_iff_getElem.1 h) i j (by omega) hj (by omega)
  simpa [Bo,List.getD_eq_getElem?_getD,hj,show i<A.length by omega] using this
theorem Bt7 {a b c:Ky} (h1:bl a b=true)(h2:bl c b=false):bl a c=true:=by
 cases h:bl a c with
 |true=>rfl
 |false=>
  have:=ordK.le_tr (a:=b) (b:=c) (c:=a) h2 h
  exact absurd (this.symm.trans h1) (by decide)
theorem Bmz {a b c:Ky} (h1:bl b a=false)(h2:bl b c=true):bl a c=true:=by
 cases h:bl a c with
 |true=>rfl
 |false=>
  have:=ordK.le_tr (a:=c) (b:=a) (c:=b) h h1
  exact absurd (this.symm.trans h2) (by decide)
theorem B0b(a:Nat)(L:List Pr)(Q:Ex→St→Prop)(hL:Sm L)(ha:a<L.length):∀(f s r:Nat),r - s≤f→s≤r→r≤L.length→
 (∀t,s≤t→t≤r→(s<t→bl (Bo L (t - 1)).1 (Bo L a).1=true)→(t<r→bl (Bo L t).1 (Bo L a).1=false)→Q (.exit 0) ⟨[(0, .own (.arg 0)),(1, .imm (.int .i64 a)),(10, .imm (.int .i64 t))],[(.arg 0, .arr 1 true 7 (Bf L))]⟩)→
 Eh a s r (Bf L) Q:=by
 intro f
 induction f with
 |zero=>
  intro s r hf hsr hr hq
  refine Nu _ _ _ _ _ ⟨fun h=> ?_,fun _=> ?_⟩
  ·have:=of_decide_eq_true h;omega
  ·exact hq s (Nat.le_refl _) hsr (fun h=>by omega) (fun h=>by omega)
 |succ f ih=>
  intro s r hf hsr hr hq
  have hL':L.length≤4611686018427387904:=hL
  refine Nu _ _ _ _ _ ⟨fun h=> ?_,fun h=> ?_⟩
  ·have hlt:s<r:=by have:=of_decide_eq_true h;omega
   rw [half s r (by omega)]
   have hc1:(s+r) / 2<r:=by omega
   have hc2:s≤(s+r) / 2:=by omega
   generalize (s+r) / 2=c at hc1 hc2
   have w:IntKind.i64.wrap ((c:Int)+1)=((c+1:Nat):Int):=by rw [Av _ (by omega) (by omega)];simp
   rw [w]
   simp only [Int.toNat_natCast]
   rw [J3 L c (by omega),J3 L a ha,Dx,Dx]
   refine⟨by decide,⟨⟨by omega,by rw [Ay];omega⟩,⟨⟨by rw [Ay];omega,C9 _ _ _⟩,⟨⟨by omega,by rw [Ay];omega⟩,⟨⟨by rw [Ay];omega,C9 _ _ _⟩, ?_⟩⟩⟩⟩⟩
   refine Call.use (A77 _ _) ⟨⟨rfl,rfl⟩, ?_⟩
   show Br (decide (Aau (Bo L c).1 (Bo L a).1<0)) _ _
   rw [As1]
   refine⟨fun hb=> ?_,fun hb=> ?_⟩
   ·refine ih (c+1) r (by omega) (by omega) hr fun t h1 h2 h3 h4=>hq t (by omega) h2 (fun _=> ?_) h4
    by_cases e:t=c+1
    ·subst e;exact hb
    ·exact h3 (by omega)
   ·refine ih s c (by omega) (by omega) (by omega) fun t h1 h2 h3 h4=>hq t h1 (by omega) h3 (fun _=> ?_)
    by_cases e:t=c
    ·subst e;exact hb
    ·exact h4 (by omega)
  ·have:=of_decide_eq_false h
   exact hq s (Nat.le_refl _) hsr (fun h=>by omega) (fun h=>by omega)
theorem Bzk(m:Nat)(L:List Pr)(Q:Ex→St→Prop)(hL:Sm L)(hm:m<L.length):∀(f s r:Nat),r - s≤f→s≤r→r≤L.length→
 (∀t,s≤t→t≤r→(s<t→bl (Bo L m).1 (Bo L (t - 1)).1=false)→(t<r→bl (Bo L m).1 (Bo L t).1=true)→Q (.exit 4) ⟨[(0, .own (.arg 0)),(2, .imm (.int .i64 m)),(14, .imm (.int .i64 t))],[(.arg 0, .arr 1 true 7 (Bf L))]⟩)→
 Ec m s r (Bf L) Q:=by
 intro f
 induction f with
 |zero=>
  intro s r hf hsr hr hq
  refine M4 _ _ _ _ _ ⟨fun h=> ?_,fun _=> ?_⟩
  ·have:=of_decide_eq_true h;omega
  ·exact hq s (Nat.le_refl _) hsr (fun h=>by omega) (fun h=>by omega)
 |succ f ih=>
  intro s r hf hsr hr hq
  have hL':L.length≤4611686018427387904:=hL
  refine M4 _ _ _ _ _ ⟨fun h=> ?_,fun h=> ?_⟩
  ·have hlt:s<r:=by have:=of_decide_eq_true h;omega
   rw [half s r (by omega)]
   have hc1:(s+r) / 2<r:=by omega
   have hc2:s≤(s+r) / 2:=by omega
   generalize (s+r) / 2=c at hc1 hc2
   have w:IntKind.i64.wrap ((c:Int)+1)=((c+1:Nat):Int):=by rw [Av _ (by omega) (by omega)];simp
   rw [w]
   simp only [Int.toNat_natCast]
   rw [J3 L c (by omega),J3 L m hm,Dx,Dx]
   refine⟨by decide,⟨⟨by omega,by rw [Ay];omega⟩,⟨⟨by rw [Ay];omega,C9 _ _ _⟩,⟨⟨by omega,by rw [Ay];omega⟩,⟨⟨by rw [Ay];omega,C9 _ _ _⟩, ?_⟩⟩⟩⟩⟩
   refine Call.use (A77 _ _) ⟨⟨rfl,rfl⟩, ?_⟩
   show Br (!decide (Aau (Bo L m).1 (Bo L c).1<0)) _ _
   rw [As1]
   refine⟨fun hb=> ?_,fun hb=> ?_⟩
   ·refine ih (c+1) r (by omega) (by omega) hr fun t h1 h2 h3 h4=>hq t (by omega) h2 (fun _=> ?_) h4
    by_cases e:t=c+1
    ·subst e;simpa using hb
    ·exact h3 (by omega)
   ·refine ih s c (by omega) (by omega) (by omega) fun t h1 h2 h3 h4=>hq t h1 (by omega) h3 (fun _=> ?_)
    by_cases e:t=c
    ·subst e;simpa using hb
    ·exact h4 (by omega)
  ·have:=of_decide_eq_false h
   exact hq s (Nat.le_refl _) hsr (fun h=>by omega) (fun h=>by omega)
theorem Bzl(a m b mid n p:Nat)(L:List Pr)(Q:Ex→St→Prop)(hL:Sm L):∀(f s r:Nat),r - s≤f→s≤r→r≤L.length→p≤9223372036854775807→(∀c,s≤c→c<r→c≤p∧p - c<L.length)→
 (∀t,s≤t→t≤r→(s<t→bl (Bo L (p - (t - 1))).1 (Bo L (t - 1)).1=false)→(t<r→bl (Bo L (p - t)).1 (Bo L t).1=true)→
  Q (.exit 8) ⟨[(0, .own (.arg 0)),(1, .imm (.int .i64 a)),(2, .imm (.int .i64 m)),(3, .imm (.int .i64 b)),(4, .fn Ak []),(18, .imm (.int .i64 mid)),(19, .imm (.int .i64 n)),(20, .imm (.int .i64 t))],[(.arg 0, .arr 1 true 7 (Bf L))]⟩)→
 Cz a m b mid n s r p (Bf L) Q:=by
 intro f
 induction f with
 |zero=>
  intro s r hf hsr hr hp hc hq
  refine M6 _ _ _ _ _ _ _ _ _ _ ⟨fun h=> ?_,fun _=> ?_⟩
  ·have:=of_decide_eq_true h;omega
  ·exact hq s (Nat.le_refl _) hsr (fun h=>by omega) (fun h=>by omega)
 |succ f ih=>
  intro s r hf hsr hr hp hc hq
  have hL':L.length≤4611686018427387904:=hL
  refine M6 _ _ _ _ _ _ _ _ _ _ ⟨fun h=> ?_,fun h=> ?_⟩
  ·have hlt:s<r:=by have:=of_decide_eq_true h;omega
   rw [half s r (by omega)]
   have hc1:(s+r) / 2<r:=by omega
   have hc2:s≤(s+r) / 2:=by omega
   generalize (s+r) / 2=c at hc1 hc2
   obtain⟨hcp,hcl⟩:=hc c hc2 hc1
   have w:IntKind.i64.wrap ((c:Int)+1)=((c+1:Nat):Int):=by rw [Av _ (by omega) (by omega)];simp
   have w2:IntKind.i64.wrap ((p:Int) - (c:Int))=((p - c:Nat):Int):=by rw [Av _ (by omega) (by omega)];omega
   rw [w,w2]
   simp only [Int.toNat_natCast]
   rw [J3 L (p - c) hcl,J3 L c (by omega),Dx,Dx]
   refine⟨by decide,⟨⟨by omega,by rw [Ay];omega⟩,⟨⟨by rw [Ay];omega,C9 _ _ _⟩,⟨⟨by omega,by rw [Ay];omega⟩,⟨⟨by rw [Ay];omega,C9 _ _ _⟩, ?_⟩⟩⟩⟩⟩
   refine Call.use (A77 _ _) ⟨⟨rfl,rfl⟩, ?_⟩
   show Br (!decide (Aau (Bo L (p - c)).1 (Bo L c).1<0)) _ _
   rw [As1]
   refine⟨fun hb=> ?_,fun hb=> ?_⟩
   ·refine ih (c+1) r (by omega) (by omega) hr hp (fun d h1 h2=>hc d (by omega) h2) fun t h1 h2 h3 h4=>hq t (by omega) h2 (fun _=> ?_) h4
    by_cases e:t=c+1
    ·subst e;simpa using hb
    ·exact h3 (by omega)
   ·refine ih s c (by omega) (by omega) (by omega) hp (fun d h1 h2=>hc d h1 (by omega)) fun t h1 h2 h3 h4=>hq t h1 (by omega) h3 (fun _=> ?_)
    by_cases e:t=c
    ·subst e;simpa using hb
    ·exact h4 (by omega)
  ·have:=of_decide_eq_false h
   exact hq s (Nat.le_refl _) hsr (fun h=>by omega) (fun h=>by omega)
theorem Btm(S:List Pr)(x:Pr)(e:Nat)(Q:Ex→St→Prop):∀(B P:List Pr) (k:Nat),k=P.length→e=k+B.length+1→Sm (P++x::(B++S))→
 Q (.exit 2) ⟨[],[(.arg 0, .arr 1 true 7 (Bf (P++B++x::S)))]⟩→F6 e k (Bf (P++x::(B++S))) Q
 | [],P,k,hk,he,hm,hq=>by
   have hm':P.length+1+S.length≤4611686018427387904:=by simp [Sm]at hm;omega
   simp only [List.length_nil]at he
   have w:IntKind.i64.wrap ((e:Int) - 1)=((k:Nat):Int):=by rw [Av _ (by omega) (by omega)];omega
   refine M3 _ _ _ _ ?_
   rw [w]
   refine⟨fun h=> ?_,fun _=>by simpa using hq⟩
   have:=of_decide_eq_true h;omega
 |y::B,P,k,hk,he,hm,hq=>by
  have hm':P.length+1+(B.length+1)+S.length≤4611686018427387904:=by simp [Sm]at hm;omega
  simp only [List.length_cons]at he
  have w:IntKind.i64.wrap ((e:Int) - 1)=((e - 1:Nat):Int):=by rw [Av _ (by omega) (by omega)];omega
  have w2:IntKind.i64.wrap ((k:Int)+1)=((k+1:Nat):Int):=by rw [Av _ (by omega) (by omega)];simp
  refine M3 _ _ _ _ ?_
  rw [w,w2]
  refine⟨fun h=> ?_,fun h=> ?_⟩
  ·have e1:P++x::(y::B++S)=(P++[x])++y::(B++S):=by simp
   generalize hL:P++x::(y::B++S)=L at*
   have hlen:L.length=P.length+1+(B.length+1)+S.length:=by rw [←hL];simp;omega
   have g1:Bo L k=x:=by rw [←hL];exact Ja _ _ _ _ hk
   have g2:Bo L (k+1)=y:=by rw [e1];exact Ja _ _ _ _ (by simp;omega)
   have r1:=J3 L k (by omega)
   have r2:=J3 L (k+1) (by omega)
   rw [g1]at r1
   rw [g2]at r2
   simp only [Int.toNat_natCast]
   rw [r1,r2,Dx,Dx,Zz,Zz]
   have s1:L.set k y=(P++[y])++y::(B++S):=by rw [←hL,set_mid _ _ _ _ _ hk];simp
   have s2:(L.set k y).set (k+1) x=(P++[y])++x::(B++S):=by rw [s1,set_mid _ _ _ _ _ (by simp;omega)]
   rw [s2]
   refine⟨⟨by omega,by rw [Ay];omega⟩,⟨⟨by rw [Ay];omega,C9 _ _ _⟩,⟨⟨by omega,by rw [Ay];omega⟩,⟨⟨by rw [Ay];omega,C9 _ _ _⟩,⟨⟨by omega,by rw [Ay];omega⟩,⟨by rw [Ay];omega,⟨⟨by omega,by rw [Ay,List.length_set];omega⟩,⟨by rw [Ay,List.length_set];omega, ?_⟩⟩⟩⟩⟩⟩⟩⟩
   exact Btm S x e Q B (P++[y]) (k+1) (by simp;omega) (by omega) (by simp [Sm];omega) (by simpa using hq)
  ·have:=of_decide_eq_false h;omega
theorem Btn(P:List Pr)(y:Pr)(e:Nat)(Q:Ex→St→Prop)(he:e=P.length):∀(n:Nat) (A S:List Pr),A.length=n→Sm (P++A++y::S)→
 Q (.exit 6) ⟨[],[(.arg 0, .arr 1 true 7 (Bf (P++y::(A++S))))]⟩→F7 e ((e+n:Nat):Int) (Bf (P++A++y::S)) Q
 |0,A,S,hA,hm,hq=>by
  have:A=[]:=List.eq_nil_of_length_eq_zero hA
  subst this
  refine M5 _ _ _ _ ⟨fun h=> ?_,fun _=>by simpa using hq⟩
  have:=of_decide_eq_true h;omega
 |n+1,A,S,hA,hm,hq=>by
  obtain⟨A,z,rfl⟩:∃B z,A=B++[z]:=by
   rcases List.eq_nil_or_concat A with h |⟨A,z,h⟩
   ·subst h;simp at hA
   ·exact⟨A,z,by simpa using h⟩
  have hA:A.length=n:=by simpa using hA
  have hm':P.length+(n+1)+1+S.length≤4611686018427387904:=by simp [Sm]at hm;omega
  have w:IntKind.i64.wrap (((e+(n+1):Nat):Int) - 1)=((e+n:Nat):Int):=by rw [Av _ (by omega) (by omega)];omega
  refine M5 _ _ _ _ ?_
  rw [w]
  refine⟨fun h=> ?_,fun h=> ?_⟩
  ·have e2:P++(A++[z])++y::S=(P++A)++z::(y::S):=by simp
   generalize hL:P++(A++[z])++y::S=L at*
   have hlen:L.length=P.length+(n+1)+1+S.length:=by rw [←hL];simp;omega
   have g1:Bo L (e+(n+1))=y:=by rw [←hL];exact Ja _ _ _ _ (by simp;omega)
   have g2:Bo L (e+n)=z:=by rw [e2];exact Ja _ _ _ _ (by simp;omega)
   have r1:=J3 L (e+(n+1)) (by omega)
   have r2:=J3 L (e+n) (by omega)
   rw [g1]at r1
   rw [g2]at r2
   simp only [Int.toNat_natCast]
   rw [r1,r2,Dx,Dx,Zz,Zz]
   have s1:L.set (e+(n+1)) z=(P++A)++z::(z::S):=by rw [←hL,set_mid _ _ _ _ _ (by simp;omega)];simp
   have s2:(L.set (e+(n+1)) z).set (e+n) y=P++A++y::(z::S):=by rw [s1,set_mid _ _ _ _ _ (by simp;omega)]
   rw [s2]
   refine⟨⟨by omega,by rw [Ay];omega⟩,⟨⟨by rw [Ay];omega,C9 _ _ _⟩,⟨⟨by omega,by rw [Ay];omega⟩,⟨⟨by rw [Ay];omega,C9 _ _ _⟩,⟨⟨by omega,by rw [Ay];omega⟩,⟨by rw [Ay];omega,⟨⟨by omega,by rw [Ay,List.length_set];omega⟩,⟨by rw [Ay,List.length_set];omega, ?_⟩⟩⟩⟩⟩⟩⟩⟩
   exact Btn P y e Q he n A (z::S) hA (by simp [Sm];omega) (by simpa using hq)
  ·have:=of_decide_eq_false h;omega
end Go.Proofs.Sim.Se
