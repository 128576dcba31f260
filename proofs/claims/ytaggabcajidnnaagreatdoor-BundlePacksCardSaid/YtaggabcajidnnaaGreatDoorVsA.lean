import Derived.Test.YtaggabcajidnnaaGreatDoorSeatGenV
import Derived.Test.YtaggabcajidnnaaGreatDoorVaA
namespace Go.Proofs.Sim.Se
open Go Go.Proofs Go.Proofs.Sim Go.Proofs.Sim.Va Go.Proofs.Sim.St
def Z6(a b:Ky):Int:=if Op.bytesLess a b then -1 else if a=b then 0 else 1
theorem Bgn(a:Ky):Call E0.P P7 [.imm (.str a)] [] (Is (.imm (.bool false)) []):=by
 refine Aqc a _ ?_
 simp [Is]
theorem Bpp(a b:Ky):Call E0.P Nj [.imm (.str a), .imm (.str b)] [] (Is (.imm (.int .i64 (Z6 a b))) []):=by
 refine Anc a b _ ?_
 refine Call.use (Bgn a) ⟨⟨rfl,rfl⟩, ?_⟩
 refine Call.use (Bgn b) ⟨⟨rfl,rfl⟩, ?_⟩
 refine⟨fun h=>absurd h (by decide),fun _=>⟨fun h=>absurd h (by decide),fun _=>⟨fun h=> ?_,fun h=>⟨fun h2=> ?_,fun h2=> ?_⟩⟩⟩⟩
 ·simp [Is,Z6,h]
 ·simp [h]at h2
  simp [Is,Z6,h,h2]
 ·simp [h]at h2
  subst h2
  simp [Is,Z6,h]
theorem A41(p q:Pr):Call E0.P Ak [.imm (.agg (Bl p)), .imm (.agg (Bl q))] [] (Is (.imm (.int .i64 (Z6 p.1 q.1))) []):=by
 rw [F7,F7]
 refine Ani _ _ _ _ _ _ _ _ _ _ _ _ _ _ _ ?_
 exact Call.use (Bpp p.1 q.1) ⟨⟨rfl,rfl⟩,⟨rfl,rfl⟩⟩
theorem Bpq(p q:Pr):Call E0.P Cn [.imm (.agg (Bl p)), .imm (.agg (Bl q))] [] (Is (.imm (.bool (p.1 == q.1))) []):=by
 rw [F7,F7]
 exact Anj _ _ _ _ _ _ _ _ _ _ _ _ _ _ _ ⟨rfl,rfl⟩
theorem Bgm(p:Pr)(k:Ky):Call E0.P Eo [.imm (.agg (Bl p)), .imm (.str k)] [] (Is (.imm (.int .i64 (Z6 p.1 k))) []):=by
 rw [F7]
 refine Avx _ _ _ _ _ _ _ _ _ ?_
 exact Call.use (Bpp p.1 k) ⟨⟨rfl,rfl⟩,⟨rfl,rfl⟩⟩
theorem Aqx(a b:Ky):decide (Z6 a b<0)=Op.bytesLess a b:=by
 unfold Z6
 cases h:Op.bytesLess a b with
 |true=>simp
 |false=>by_cases e:a=b<;>simp [e]
abbrev Bj(ps:List Pr):List (List IV):=ps.map Bl
abbrev Bq(ps:List Pr)(n:Nat):Pr:=ps.getD n default
theorem A9(ps:List Pr):(Bj ps).length=ps.length:=List.length_map ..
theorem Ko(ps:List Pr)(n:Nat)(h:n<ps.length):List.take 7 (List.drop 0 ((Bj ps).getD n []))=Bl (Bq ps n):=by
 have:(Bj ps).getD n []=Bl (Bq ps n):=by simp [List.getD_eq_getElem?_getD,h]
 rw [this,F7]
 rfl
theorem Eu(p:Pr): [.str (gS (Bl p) 0), .int .i64 (gI (Bl p) 1), .int .i64 (gI (Bl p) 2), .int .i64 (gI (Bl p) 3), .str (gS (Bl p) 4), .sl .any 6 (gR (Bl p) 5), .sl .any 7 (gR (Bl p) 6)]=Bl p:=by
 rw [F7];rfl
theorem Dp(p:Pr)(e f:Nat):Bt [.str, .int .i64, .int .i64, .int .i64, .str, .sl 6 e, .sl 7 f] (Bl p)=true:=by
 rw [F7];rfl
theorem Zc(ps:List Pr)(n:Nat)(p:Pr):(Bj ps).set n (Bl p)=Bj (ps.set n p):=by
 simp [Bj,List.map_set]
abbrev Sm(ps:List Pr):Prop:=ps.length≤4611686018427387904
def swF(a b:Nat):Nat→Nat→List Pr→List Pr
 |0,_,ps=>ps
 |m+1,i,ps=>swF a b m (i+1) ((ps.set (a+i) (Bq ps (b+i))).set (b+i) (Bq ps (a+i)))
theorem Bjs(a b n:Nat):∀(m i:Nat) (ps:List Pr) (Q:Ex→St→Prop),i+m=n→a+n≤ps.length→b+n≤ps.length→Sm ps→
 Q (.exit 0) ⟨[],[(.arg 0, .arr 1 true 7 (Bj (swF a b m i ps)))]⟩→G5 a b n i (Bj ps) Q
 |0,i,ps,Q,h1,h2,h3,h4,hq=>by
  refine Na _ _ _ _ _ _ ⟨fun h=> ?_,fun _=>hq⟩
  have:=of_decide_eq_true h
  omega
 |m+1,i,ps,Q,h1,h2,h3,h4,hq=>by
  refine Na _ _ _ _ _ _ ⟨fun _=> ?_,fun h=> ?_⟩
  ·have w1:IntKind.i64.wrap ((b:Int)+(i:Int))=((b+i:Nat):Int):=by rw [Bc _ (by omega) (by omega)];simp
   have w2:IntKind.i64.wrap ((a:Int)+(i:Int))=((a+i:Nat):Int):=by rw [Bc _ (by omega) (by omega)];simp
   have w3:IntKind.i64.wrap ((i:Int)+1)=((i+1:Nat):Int):=by rw [Bc _ (by omega) (by omega)];simp
   simp only [w1,w2,w3,Int.toNat_natCast]
   rw [Ko ps (b+i) (by omega),Ko ps (a+i) (by omega)]
   refine⟨⟨by omega,by rw [A9];omega⟩,⟨⟨by rw [A9];omega,Dp _ _ _⟩,⟨⟨by omega,by rw [A9];omega⟩,⟨⟨by rw [A9];omega,Dp _ _ _⟩,⟨⟨by omega,by rw [A9];omega⟩,⟨by rw [A9];omega, ?_⟩⟩⟩⟩⟩⟩
   rw [Eu,Eu,Zc,Zc]
   refine⟨⟨by omega,by rw [A9,List.length_set];omega⟩,⟨by rw [A9,List.length_set];omega, ?_⟩⟩
   exact Bjs a b n m (i+1) _ Q (by omega) (by simpa using h2) (by simpa using h3) (by simpa [Sm] using h4) hq
  ·have:=of_decide_eq_false h
   omega
theorem Bcc(a b n:Nat)(ps:List Pr)(h2:a+n≤ps.length)(h3:b+n≤ps.length)(h4:Sm ps):
 Call E0.P Fp [.own (.arg 0), .imm (.int .i64 a), .imm (.int .i64 b), .imm (.int .i64 n), .fn Ak []] [(.arg 0, .arr 1 true 7 (Bj ps))] (Is (.tup []) [(.arg 0, .arr 1 true 7 (Bj (swF a b n 0 ps)))]):=by
 refine Aaf _ _ _ _ _ ?_
 exact Bjs a b n n 0 ps _ (by omega) h2 h3 h4 (Yq _ _ _ ⟨rfl,rfl⟩)
end Go.Proofs.Sim.Se
namespace Go.Proofs.Sim.Se
open Go Go.Proofs Go.Proofs.Sim Go.Proofs.Sim.Va Go.Proofs.Sim.St
theorem K4(L R:List Pr)(c:Pr)(n:Nat)(h:n=L.length):Bq (L++c::R) n=c:=by
 subst h;simp [Bq]
theorem set_mid(L R:List Pr)(c d:Pr)(n:Nat)(h:n=L.length):(L++c::R).set n d=L++d::R:=by
 subst h;simp
theorem Bhb(x y z:List Pr):∀(A2 B2 A1 B1:List Pr),A2.length=B2.length→A1.length=B1.length→
 swF x.length (x.length+(A1.length+A2.length)+y.length) A2.length A1.length (x++(B1++A2)++y++(A1++B2)++z)=x++(B1++B2)++y++(A1++A2)++z
 | [],B2,A1,B1,h1,h2=>by
   have:B2=[]:=List.eq_nil_of_length_eq_zero h1.symm
   subst this
   simp [swF]
 |a::A2,[],A1,B1,h1,h2=>by simp at h1
 |a::A2,b::B2,A1,B1,h1,h2=>by
  have e1:x++(B1++a::A2)++y++(A1++b::B2)++z=(x++B1)++a::(A2++y++A1++b::(B2++z)):=by simp
  have e2:x++(B1++a::A2)++y++(A1++b::B2)++z=(x++B1++a::A2++y++A1)++b::(B2++z):=by simp
  have e3:(x++B1)++b::(A2++y++A1++b::(B2++z))=(x++B1++b::A2++y++A1)++b::(B2++z):=by simp
  have e4:(x++B1++b::A2++y++A1)++a::(B2++z)=x++((B1++[b])++A2)++y++((A1++[a])++B2)++z:=by simp
  have h1':A2.length=B2.length:=by simpa using h1
  simp only [List.length_cons,swF]
  have g1:Bq (x++(B1++a::A2)++y++(A1++b::B2)++z) (x.length+(A1.length+(A2.length+1))+y.length+A1.length)=b:=by
   rw [e2];exact K4 _ _ _ _ (by simp;omega)
  have g2:Bq (x++(B1++a::A2)++y++(A1++b::B2)++z) (x.length+A1.length)=a:=by
   rw [e1];exact K4 _ _ _ _ (by simp;omega)
  rw [g1,g2,e1,set_mid _ _ _ _ _ (by simp;omega),e3,set_mid _ _ _ _ _ (by simp;omega),e4]
  have ih:=Bhb x y z A2 B2 (A1++[a]) (B1++[b]) h1' (by simp [h2])
  rw [show(A1++[a]).length=A1.length+1 by simp]at ih
  rw [show x.length+(A1.length+(A2.length+1))+y.length=x.length+(A1.length+1+A2.length)+y.length by omega,ih]
  simp
theorem Bfg(x A y B z:List Pr)(h:A.length=B.length)(a b n:Nat)(ha:a=x.length)(hb:b=x.length+A.length+y.length)(hn:n=A.length):swF a b n 0 (x++A++y++B++z)=x++B++y++A++z:=by
 have:=Bhb x y z A B [] [] h rfl
 simp only [List.length_nil,Nat.zero_add,List.nil_append]at this
 rw [ha,hb,hn]
 exact this
theorem Ki(n:Nm)(ty sz:Nat)(w:Bool)(rows:List (List IV)):Dk [(n, .arr ty w sz rows)] n=rows:=by
 simp [Dk,hget,Nm.beq_self]
theorem Bhi(rows:List (List IV))(R:AV→Heap→Prop):∀(f:Nat) (P X Y S:List Pr) (m i j:Nat),X.length+Y.length≤f→i=X.length→j=Y.length→0<i→0<j→m=P.length+i→Sm (P++X++Y++S)→
 R (.tup []) [(.arg 0, .arr 1 true 7 (Bj (P++Y++X++S)))]→Gc m i j (Bj (P++X++Y++S)) (Li rows R)
 |0,P,X,Y,S,m,i,j,hf,hi,hj,hi0,hj0,hm,hs,hq=>by omega
 |f+1,P,X,Y,S,m,i,j,hf,hi,hj,hi0,hj0,hm,hs,hq=>by
  have hs':P.length+X.length+Y.length+S.length≤4611686018427387904:=by simpa [Sm,Nat.add_assoc] using hs
  have w1:IntKind.i64.wrap ((m:Int) - (i:Int))=((P.length:Nat):Int):=by rw [Bc _ (by omega) (by omega)];omega
  refine Aby _ _ _ _ _ ⟨fun hne=>⟨fun hlt=> ?_,fun hlt=> ?_⟩,fun he=> ?_⟩
  ·
   have hlt:j<i:=by have:=of_decide_eq_true hlt;omega
   have w2:IntKind.i64.wrap ((i:Int) - (j:Int))=((i - j:Nat):Int):=by rw [Bc _ (by omega) (by omega)];omega
   rw [w1,w2]
   refine Call.use (Bcc P.length m j _ (by simp;omega) (by simp;omega) hs) ⟨⟨rfl,rfl⟩, ?_⟩
   rw [Ki]
   obtain⟨X1,X2,rfl,h1⟩:∃X1 X2,X=X1++X2∧X1.length=j:=⟨X.take j,X.drop j,(List.take_append_drop j X).symm,by simp;omega⟩
   simp only [List.length_append]at hi hf
   have e:=Bfg P X1 X2 Y S (by omega) P.length m j rfl (by omega) (by omega)
   rw [show P++(X1++X2)++Y++S=P++X1++X2++Y++S by simp,e]
   have:=Bhi rows R f (P++Y) X2 X1 S m (i - j) j (by omega) (by omega) (by omega) (by omega) hj0 (by simp;omega) (by simp [Sm]at hs ⊢; omega) (by simpa using hq)
   simpa using this
  ·have hlt:i<j:=by
    have h1:=of_decide_eq_false hlt
    have h2:¬((i:Int)=j):=by simpa using hne
    omega
   have w2:IntKind.i64.wrap ((j:Int) - (i:Int))=((j - i:Nat):Int):=by rw [Bc _ (by omega) (by omega)];omega
   have w3:IntKind.i64.wrap (IntKind.i64.wrap ((m:Int)+(j:Int)) - (i:Int))=((m+j - i:Nat):Int):=by
    rw [Bc ((m:Int)+j) (by omega) (by omega),Bc _ (by omega) (by omega)];omega
   rw [w1,w2,w3]
   refine Call.use (Bcc P.length (m+j - i) i _ (by simp;omega) (by simp;omega) hs) ⟨⟨rfl,rfl⟩, ?_⟩
   rw [Ki]
   obtain⟨Y1,Y2,rfl,h1⟩:∃Y1 Y2,Y=Y1++Y2∧Y1.length=j - i:=⟨Y.take (j - i),Y.drop (j - i),(List.take_append_drop (j - i) Y).symm,by simp;omega⟩
   simp only [List.length_append]at hj hf
   have e:=Bfg P X Y1 Y2 S (by omega) P.length (m+j - i) i rfl (by omega) (by omega)
   rw [show P++X++(Y1++Y2)++S=P++X++Y1++Y2++S by simp,e]
   have:=Bhi rows R f P Y2 Y1 (X++S) m i (j - i) (by omega) (by omega) (by omega) hi0 (by omega) (by omega) (by simp [Sm]at hs ⊢; omega) (by simpa using hq)
   simpa using this
  ·have he:i=j:=by
    have h2:((i:Int)=j):=by simpa using he
    omega
   subst he
   refine Abq _ _ _ _ _ ?_
   refine Abf _ _ _ _ ?_
   rw [w1]
   refine Call.use (Bcc P.length m i _ (by simp;omega) (by simp;omega) hs) ⟨⟨rfl,rfl⟩, ?_⟩
   rw [Ki]
   have e:=Bfg P X [] Y S (by omega) P.length m i rfl (by simp;omega) (by omega)
   simp only [List.append_nil]at e
   rw [e]
   exact Abp _ _ _ hq
theorem Bvq(P X Y S:List Pr)(a m b:Nat)(hx:0<X.length)(hy:0<Y.length)(ha:a=P.length)(hm:m=a+X.length)(hb:b=m+Y.length)(hs:Sm (P++X++Y++S)):
 Call E0.P Me [.own (.arg 0), .imm (.int .i64 a), .imm (.int .i64 m), .imm (.int .i64 b), .fn Ak []] [(.arg 0, .arr 1 true 7 (Bj (P++X++Y++S)))] (Is (.tup []) [(.arg 0, .arr 1 true 7 (Bj (P++Y++X++S)))]):=by
 have hs':P.length+X.length+Y.length+S.length≤4611686018427387904:=by simpa [Sm,Nat.add_assoc] using hs
 refine Ac2 _ _ _ _ _ ?_
 have w1:IntKind.i64.wrap ((m:Int) - (a:Int))=((X.length:Nat):Int):=by rw [Bc _ (by omega) (by omega)];omega
 have w2:IntKind.i64.wrap ((b:Int) - (m:Int))=((Y.length:Nat):Int):=by rw [Bc _ (by omega) (by omega)];omega
 rw [w1,w2]
 exact Bhi _ _ _ P X Y S m X.length Y.length (Nat.le_refl _) rfl rfl hx hy (by omega) hs ⟨rfl,rfl⟩
end Go.Proofs.Sim.Se
namespace Go.Proofs.Sim.Se
open Go Go.Proofs Go.Proofs.Sim Go.Proofs.Sim.Va Go.Proofs.Sim.St
theorem Bgi(P S:List Pr)(a i b:Nat)(y:Pr)(Q:Ex→St→Prop)(ha:a=P.length):∀(n:Nat) (A1 A2:List Pr),A1.length=n→D6 (A1++A2)→(∀x∈A2,bl y.1 x.1=true)→Sm (P++A1++y::(A2++S))→
 Q (.exit 2) ⟨[(0, .own (.arg 0)),(1, .imm (.int .i64 a)),(2, .imm (.int .i64 b)),(3, .fn Ak []),(8, .imm (.int .i64 i))],[(.arg 0, .arr 1 true 7 (Bj (P++Cq (A1++A2++[y])++S)))]⟩→
 Fv a b i ((a+n:Nat):Int) (Bj (P++A1++y::(A2++S))) Q
 |0,A1,A2,hl,hs,hy,hm,hq=>by
  have:A1=[]:=List.eq_nil_of_length_eq_zero hl
  subst this
  have e:y::A2=Cq ([]++A2++[y]):=by
   have:=Atj ordK (key:=pk) (a1:=[]) (a2:=A2) (y:=y) hs (fun x hx=>by cases hx) hy
   simpa using this
  rw [←e]at hq
  have hd:decide ((a:Int)<((a+0:Nat):Int))=false:=by simp
  refine Lb _ _ _ _ _ _ ?_
  rw [hd]
  refine⟨fun h=>(by cases h),⟨fun h=>(by cases h),⟨fun h=>(by cases h),⟨fun h=>(by cases h),⟨fun h=>(by cases h),fun _=>⟨rfl,Let.intro ⟨fun h=>(by cases h),fun _=> ?_⟩⟩⟩⟩⟩⟩⟩
  simpa using hq
 |n+1,A1,A2,hl,hs,hy,hm,hq=>by
  obtain⟨A,z,rfl⟩:∃A z,A1=A++[z]:=by
   rcases List.eq_nil_or_concat A1 with h |⟨A,z,h⟩
   ·subst h;simp at hl
   ·exact⟨A,z,by simpa using h⟩
  have hA:A.length=n:=by simpa using hl
  have hm':P.length+(n+1)+1+A2.length+S.length≤4611686018427387904:=by
   simp [Sm]at hm;omega
  have hd:decide ((a:Int)<((a+(n+1):Nat):Int))=true:=by simp;omega
  have w1:IntKind.i64.wrap (((a+(n+1):Nat):Int) - 1)=((a+n:Nat):Int):=by rw [Bc _ (by omega) (by omega)];omega
  have e1:P++(A++[z])++y::(A2++S)=(P++A++[z])++y::(A2++S):=by simp
  have e2:P++(A++[z])++y::(A2++S)=(P++A)++z::(y::(A2++S)):=by simp
  generalize hL:P++(A++[z])++y::(A2++S)=L at*
  have hlen:L.length=P.length+(n+1)+1+A2.length+S.length:=by rw [←hL];simp;omega
  have g1:Bq L (a+(n+1))=y:=by rw [e1];exact K4 _ _ _ _ (by simp;omega)
  have g2:Bq L (a+n)=z:=by rw [e2];exact K4 _ _ _ _ (by simp;omega)
  have r1:=Ko L (a+(n+1)) (by omega)
  have r2:=Ko L (a+n) (by omega)
  rw [g1]at r1
  rw [g2]at r2
  refine Lb _ _ _ _ _ _ ?_
  rw [hd,w1]
  simp only [Int.toNat_natCast]
  rw [r1,r2,Eu,Eu]
  refine⟨fun _=>⟨by omega,by rw [A9];omega⟩,⟨fun _=>⟨by rw [A9];omega,Dp _ _ _⟩,⟨fun _=>⟨by omega,by rw [A9];omega⟩,⟨fun _=>⟨by rw [A9];omega,Dp _ _ _⟩,⟨fun _=> ?_,fun h=>(by cases h)⟩⟩⟩⟩⟩
  refine Call.use (A41 y z) ⟨⟨rfl,rfl⟩,Let.intro ?_⟩
  show Br (decide (Z6 y.1 z.1<0)) _ _
  rw [Aqx]
  refine⟨fun hlt=> ?_,fun hge=> ?_⟩
  ·refine Vl _ _ _ _ _ _ ?_
   rw [w1]
   simp only [Int.toNat_natCast]
   rw [r1,r2,Eu,Eu,Zc,Zc]
   have s1:L.set (a+(n+1)) z=(P++A)++z::(z::(A2++S)):=by rw [e1,set_mid _ _ _ _ _ (by simp;omega)];simp
   have s2:(L.set (a+(n+1)) z).set (a+n) y=P++A++y::((z::A2)++S):=by rw [s1,set_mid _ _ _ _ _ (by simp;omega)];simp
   rw [s2]
   refine⟨⟨by omega,by rw [A9];omega⟩,⟨⟨by rw [A9];omega,Dp _ _ _⟩,⟨⟨by omega,by rw [A9];omega⟩,⟨⟨by rw [A9];omega,Dp _ _ _⟩,⟨⟨by omega,by rw [A9];omega⟩,⟨by rw [A9];omega,⟨⟨by omega,by rw [A9,List.length_set];omega⟩,⟨by rw [A9,List.length_set];omega, ?_⟩⟩⟩⟩⟩⟩⟩⟩
   refine Vs _ _ _ _ _ _ ?_
   refine Bgi P S a i b y Q ha n A (z::A2) hA (by simpa using hs) (fun x hx=> ?_) (by simp [Sm];omega) (by simpa using hq)
   rcases List.mem_cons.1 hx with rfl |hx
   ·exact hlt
   ·exact hy x hx
  ·have e:(A++[z])++y::A2=Cq (A++[z]++A2++[y]):=by
    refine Atj ordK (key:=pk) (a1:=A++[z]) (a2:=A2) (y:=y) hs (fun x hx=> ?_) hy
    rcases List.mem_append.1 hx with hx |hx
    ·have hz:bl z.1 x.1=false:=by
      have h1:=(Kr.1 hs).1
      exact(Kr.1 h1).2.2 x hx z (by simp)
     exact ordK.le_tr hz hge
    ·have:x=z:=by simpa using hx
     subst this;exact hge
   rw [←e]at hq
   rw [←hL]
   simpa using hq
theorem Bb2(rows:List (List IV))(R:AV→Heap→Prop)(P S:List Pr)(a b:Nat)(ha:a=P.length):∀(m:Nat) (A B:List Pr),B.length=m→0<A.length→b=a+A.length+B.length→D6 A→Sm (P++A++B++S)→
 R (.tup []) [(.arg 0, .arr 1 true 7 (Bj (P++Cq (A++B)++S)))]→Fu a b ((a+A.length:Nat):Int) (Bj (P++A++B++S)) (Fs rows R)
 |0,A,B,hB,hA,hb,hs,hm,hq=>by
  have:B=[]:=List.eq_nil_of_length_eq_zero hB
  subst this
  refine Ha _ _ _ _ _ ⟨fun h=> ?_,fun _=> ?_⟩
  ·have:=of_decide_eq_true h
   simp at hb
   omega
  ·refine La _ _ _ ?_
   have:Cq A=A:=(Ahu ordK hs (Fib.refl A)).symm
   simpa [this] using hq
 |m+1,A,[],hB,_,_,_,_,_=>by simp at hB
 |m+1,A,y::B,hB,hA,hb,hs,hm,hq=>by
  have hm':P.length+A.length+(B.length+1)+S.length≤4611686018427387904:=by
   simp [Sm]at hm;omega
  simp only [List.length_cons]at hb hB
  refine Ha _ _ _ _ _ ⟨fun _=> ?_,fun h=> ?_⟩
  ·have:=Bgi P (B++S) a (a+A.length) b y (Ih (Fs rows R)) ha A.length A [] rfl (by simpa using hs) (fun x hx=>by cases hx) (by simp [Sm];omega) (by
    refine Vr _ _ _ _ _ ?_
    refine Um _ _ _ _ _ ?_
    refine Vq _ _ _ _ _ ?_
    have w:IntKind.i64.wrap (((a+A.length:Nat):Int)+1)=((a+(Cq (A++[y])).length:Nat):Int):=by
     rw [H6 ordK,Bc _ (by omega) (by omega)];simp;omega
    rw [w,List.append_nil]
    have:=Bb2 rows R P S a b ha m (Cq (A++[y])) B (by omega) (by rw [H6 ordK];simp) (by rw [H6 ordK];simp;omega) (Kt ordK _) (by simp [Sm,H6 ordK];omega) (by
     have e:Cq (Cq (A++[y])++B)=Cq (A++y::B):=by
      have h1:Cq (A++y::B)=Cq (A++[y]++B):=by simp
      rw [h1]
      refine(Ahu ordK (Kt ordK _) ((Nq ordK _).trans ?_))
      exact Fib.app (Nq ordK _) (Fib.refl _)
     rw [e];exact hq)
    simpa using this)
   simpa using this
  ·have:=of_decide_eq_false h
   omega
theorem Bps(P X S:List Pr)(a b:Nat)(ha:a=P.length)(hb:b=a+X.length)(hm:Sm (P++X++S)):
 Call E0.P F6 [.own (.arg 0), .imm (.int .i64 a), .imm (.int .i64 b), .fn Ak []] [(.arg 0, .arr 1 true 7 (Bj (P++X++S)))] (Is (.tup []) [(.arg 0, .arr 1 true 7 (Bj (P++Cq X++S)))]):=by
 have hm':P.length+X.length+S.length≤4611686018427387904:=by simpa [Sm,Nat.add_assoc] using hm
 refine Xg _ _ _ _ ?_
 have w:IntKind.i64.wrap ((a:Int)+1)=((a+1:Nat):Int):=by rw [Bc _ (by omega) (by omega)];simp
 rw [w]
 cases X with
 |nil=>
  refine Ha _ _ _ _ _ ⟨fun h=> ?_,fun _=> ?_⟩
  ·have:=of_decide_eq_true h
   simp at hb
   omega
  ·exact La _ _ _ ⟨rfl,by simp [Cq,srt]⟩
 |cons x X=>
  have:=Bb2 (Bj (P++x::X++S)) (Is (.tup []) [(.arg 0, .arr 1 true 7 (Bj (P++Cq (x::X)++S)))]) P S a b ha X.length [x] X rfl (by simp) (by simp at hb ⊢; omega) (List.pairwise_singleton _ _) (by simpa [Sm] using hm) ⟨rfl,by simp⟩
  simpa using this
end Go.Proofs.Sim.Se
namespace Go.Proofs.Sim.Se
open Go Go.Proofs Go.Proofs.Sim Go.Proofs.Sim.Va Go.Proofs.Sim.St
theorem half(i j:Nat)(h:i+j≤9223372036854775807):IntKind.i64.wrap ((IntKind.u64.wrap (IntKind.i64.wrap ((i:Int)+(j:Int)))).fdiv ((2:Int) ^ (1:Nat)))=(((i+j) / 2:Nat):Int):=by
 rw [Bc ((i:Int)+j) (by omega) (by omega)]
 have h1:IntKind.u64.wrap ((i:Int)+j)=((i+j:Nat):Int):=by
  simp [IntKind.wrap,IntKind.signed,IntKind.bits];omega
 rw [h1]
 have h2:((i+j:Nat):Int).fdiv ((2:Int) ^ (1:Nat))=(((i+j) / 2:Nat):Int):=by
  rw [Int.fdiv_eq_ediv_of_nonneg _ (by decide)];simp
 rw [h2,Bc _ (by omega) (by omega)]
theorem Awt(X Y:List Pr)(i:Nat):Bq (X++Y) i=if i<X.length then Bq X i else Bq Y (i - X.length):=by
 simp only [Bq,List.getD_eq_getElem?_getD]
 split
 ·rename_i h;rw [List.getElem?_append_left h]
 ·rename_i h;rw [List.getElem?_append_right (by omega)]
theorem Bd2 {x:Pr} {l:List Pr} (h:x∈l):∃i,i<l.length∧Bq l i=x:=by
 obtain⟨i,hi,rfl⟩:=List.getElem_of_mem h
 exact⟨i,hi,by simp [Bq,List.getD_eq_getElem?_getD,hi]⟩
theorem sorted_at {A:List Pr} (h:D6 A)(i j:Nat)(hij:i≤j)(hj:j<A.length):bl (Bq A j).1 (Bq A i).1=false:=by
 by_cases e:i=j
 ·subst e;exact A49 _
 ·have:=(List.pairwise_iff_getElem.1 h) i j (by omega) hj (by omega)
  simpa [Bq,List.getD_eq_getElem?_getD,hj,show i<A.length by omega] using this
theorem Bp3 {a b c:Ky} (h1:bl a b=true)(h2:bl c b=false):bl a c=true:=by
 cases h:bl a c with
 |true=>rfl
 |false=>
  have:=ordK.le_tr (a:=b) (b:=c) (c:=a) h2 h
  exact absurd (this.symm.trans h1) (by decide)
theorem Bii {a b c:Ky} (h1:bl b a=false)(h2:bl b c=true):bl a c=true:=by
 cases h:bl a c with
 |true=>rfl
 |false=>
  have:=ordK.le_tr (a:=c) (b:=a) (c:=b) h h1
  exact absurd (this.symm.trans h2) (by decide)
theorem Bwi(a:Nat)(L:List Pr)(Q:Ex→St→Prop)(hL:Sm L)(ha:a<L.length):∀(f s r:Nat),r - s≤f→s≤r→r≤L.length→
 (∀t,s≤t→t≤r→(s<t→bl (Bq L (t - 1)).1 (Bq L a).1=true)→(t<r→bl (Bq L t).1 (Bq L a).1=false)→Q (.exit 0) ⟨[(0, .own (.arg 0)),(1, .imm (.int .i64 a)),(10, .imm (.int .i64 t))],[(.arg 0, .arr 1 true 7 (Bj L))]⟩)→
 Fj a s r (Bj L) Q:=by
 intro f
 induction f with
 |zero=>
  intro s r hf hsr hr hq
  refine Oc _ _ _ _ _ ⟨fun h=> ?_,fun _=> ?_⟩
  ·have:=of_decide_eq_true h;omega
  ·exact hq s (Nat.le_refl _) hsr (fun h=>by omega) (fun h=>by omega)
 |succ f ih=>
  intro s r hf hsr hr hq
  have hL':L.length≤4611686018427387904:=hL
  refine Oc _ _ _ _ _ ⟨fun h=> ?_,fun h=> ?_⟩
  ·have hlt:s<r:=by have:=of_decide_eq_true h;omega
   rw [half s r (by omega)]
   have hc1:(s+r) / 2<r:=by omega
   have hc2:s≤(s+r) / 2:=by omega
   generalize (s+r) / 2=c at hc1 hc2
   have w:IntKind.i64.wrap ((c:Int)+1)=((c+1:Nat):Int):=by rw [Bc _ (by omega) (by omega)];simp
   rw [w]
   simp only [Int.toNat_natCast]
   rw [Ko L c (by omega),Ko L a ha,Eu,Eu]
   refine⟨by decide,⟨⟨by omega,by rw [A9];omega⟩,⟨⟨by rw [A9];omega,Dp _ _ _⟩,⟨⟨by omega,by rw [A9];omega⟩,⟨⟨by rw [A9];omega,Dp _ _ _⟩, ?_⟩⟩⟩⟩⟩
   refine Call.use (A41 _ _) ⟨⟨rfl,rfl⟩, ?_⟩
   show Br (decide (Z6 (Bq L c).1 (Bq L a).1<0)) _ _
   rw [Aqx]
   refine⟨fun hb=> ?_,fun hb=> ?_⟩
   ·refine ih (c+1) r (by omega) (by omega) hr fun t h1 h2 h3 h4=>hq t (by omega) h2 (fun _=> ?_) h4
    by_cases e:t=c+1
    ·subst e;exact hb
    ·exact h3 (by omega)
   ·refine ih s c (by omega) (by omega) (by omega) fun t h1 h2 h3 h4=>hq t h1 (by omega) h3 (fun _=> ?_)
    by_cases e:t=c
    ·subst e;exact hb
    ·exact h4 (by omega)
  ·have:=of_decide_eq_false h
   exact hq s (Nat.le_refl _) hsr (fun h=>by omega) (fun h=>by omega)
theorem Bvg(m:Nat)(L:List Pr)(Q:Ex→St→Prop)(hL:Sm L)(hm:m<L.length):∀(f s r:Nat),r - s≤f→s≤r→r≤L.length→
 (∀t,s≤t→t≤r→(s<t→bl (Bq L m).1 (Bq L (t - 1)).1=false)→(t<r→bl (Bq L m).1 (Bq L t).1=true)→Q (.exit 4) ⟨[(0, .own (.arg 0)),(2, .imm (.int .i64 m)),(14, .imm (.int .i64 t))],[(.arg 0, .arr 1 true 7 (Bj L))]⟩)→
 Fb m s r (Bj L) Q:=by
 intro f
 induction f with
 |zero=>
  intro s r hf hsr hr hq
  refine Nc _ _ _ _ _ ⟨fun h=> ?_,fun _=> ?_⟩
  ·have:=of_decide_eq_true h;omega
  ·exact hq s (Nat.le_refl _) hsr (fun h=>by omega) (fun h=>by omega)
 |succ f ih=>
  intro s r hf hsr hr hq
  have hL':L.length≤4611686018427387904:=hL
  refine Nc _ _ _ _ _ ⟨fun h=> ?_,fun h=> ?_⟩
  ·have hlt:s<r:=by have:=of_decide_eq_true h;omega
   rw [half s r (by omega)]
   have hc1:(s+r) / 2<r:=by omega
   have hc2:s≤(s+r) / 2:=by omega
   generalize (s+r) / 2=c at hc1 hc2
   have w:IntKind.i64.wrap ((c:Int)+1)=((c+1:Nat):Int):=by rw [Bc _ (by omega) (by omega)];simp
   rw [w]
   simp only [Int.toNat_natCast]
   rw [Ko L c (by omega),Ko L m hm,Eu,Eu]
   refine⟨by decide,⟨⟨by omega,by rw [A9];omega⟩,⟨⟨by rw [A9];omega,Dp _ _ _⟩,⟨⟨by omega,by rw [A9];omega⟩,⟨⟨by rw [A9];omega,Dp _ _ _⟩, ?_⟩⟩⟩⟩⟩
   refine Call.use (A41 _ _) ⟨⟨rfl,rfl⟩, ?_⟩
   show Br (!decide (Z6 (Bq L m).1 (Bq L c).1<0)) _ _
   rw [Aqx]
   refine⟨fun hb=> ?_,fun hb=> ?_⟩
   ·refine ih (c+1) r (by omega) (by omega) hr fun t h1 h2 h3 h4=>hq t (by omega) h2 (fun _=> ?_) h4
    by_cases e:t=c+1
    ·subst e;simpa using hb
    ·exact h3 (by omega)
   ·refine ih s c (by omega) (by omega) (by omega) fun t h1 h2 h3 h4=>hq t h1 (by omega) h3 (fun _=> ?_)
    by_cases e:t=c
    ·subst e;simpa using hb
    ·exact h4 (by omega)
  ·have:=of_decide_eq_false h
   exact hq s (Nat.le_refl _) hsr (fun h=>by omega) (fun h=>by omega)
theorem Bvh(a m b mid n p:Nat)(L:List Pr)(Q:Ex→St→Prop)(hL:Sm L):∀(f s r:Nat),r - s≤f→s≤r→r≤L.length→p≤9223372036854775807→(∀c,s≤c→c<r→c≤p∧p - c<L.length)→
 (∀t,s≤t→t≤r→(s<t→bl (Bq L (p - (t - 1))).1 (Bq L (t - 1)).1=false)→(t<r→bl (Bq L (p - t)).1 (Bq L t).1=true)→
  Q (.exit 8) ⟨[(0, .own (.arg 0)),(1, .imm (.int .i64 a)),(2, .imm (.int .i64 m)),(3, .imm (.int .i64 b)),(4, .fn Ak []),(18, .imm (.int .i64 mid)),(19, .imm (.int .i64 n)),(20, .imm (.int .i64 t))],[(.arg 0, .arr 1 true 7 (Bj L))]⟩)→
 D5 a m b mid n s r p (Bj L) Q:=by
 intro f
 induction f with
 |zero=>
  intro s r hf hsr hr hp hc hq
  refine Ng _ _ _ _ _ _ _ _ _ _ ⟨fun h=> ?_,fun _=> ?_⟩
  ·have:=of_decide_eq_true h;omega
  ·exact hq s (Nat.le_refl _) hsr (fun h=>by omega) (fun h=>by omega)
 |succ f ih=>
  intro s r hf hsr hr hp hc hq
  have hL':L.length≤4611686018427387904:=hL
  refine Ng _ _ _ _ _ _ _ _ _ _ ⟨fun h=> ?_,fun h=> ?_⟩
  ·have hlt:s<r:=by have:=of_decide_eq_true h;omega
   rw [half s r (by omega)]
   have hc1:(s+r) / 2<r:=by omega
   have hc2:s≤(s+r) / 2:=by omega
   generalize (s+r) / 2=c at hc1 hc2
   obtain⟨hcp,hcl⟩:=hc c hc2 hc1
   have w:IntKind.i64.wrap ((c:Int)+1)=((c+1:Nat):Int):=by rw [Bc _ (by omega) (by omega)];simp
   have w2:IntKind.i64.wrap ((p:Int) - (c:Int))=((p - c:Nat):Int):=by rw [Bc _ (by omega) (by omega)];omega
   rw [w,w2]
   simp only [Int.toNat_natCast]
   rw [Ko L (p - c) hcl,Ko L c (by omega),Eu,Eu]
   refine⟨by decide,⟨⟨by omega,by rw [A9];omega⟩,⟨⟨by rw [A9];omega,Dp _ _ _⟩,⟨⟨by omega,by rw [A9];omega⟩,⟨⟨by rw [A9];omega,Dp _ _ _⟩, ?_⟩⟩⟩⟩⟩
   refine Call.use (A41 _ _) ⟨⟨rfl,rfl⟩, ?_⟩
   show Br (!decide (Z6 (Bq L (p - c)).1 (Bq L c).1<0)) _ _
   rw [Aqx]
   refine⟨fun hb=> ?_,fun hb=> ?_⟩
   ·refine ih (c+1) r (by omega) (by omega) hr hp (fun d h1 h2=>hc d (by omega) h2) fun t h1 h2 h3 h4=>hq t (by omega) h2 (fun _=> ?_) h4
    by_cases e:t=c+1
    ·subst e;simpa using hb
    ·exact h3 (by omega)
   ·refine ih s c (by omega) (by omega) (by omega) hp (fun d h1 h2=>hc d h1 (by omega)) fun t h1 h2 h3 h4=>hq t h1 (by omega) h3 (fun _=> ?_)
    by_cases e:t=c
    ·subst e;simpa using hb
    ·exact h4 (by omega)
  ·have:=of_decide_eq_false h
   exact hq s (Nat.le_refl _) hsr (fun h=>by omega) (fun h=>by omega)
theorem Bpj(S:List Pr)(x:Pr)(e:Nat)(Q:Ex→St→Prop):∀(B P:List Pr) (k:Nat),k=P.length→e=k+B.length+1→Sm (P++x::(B++S))→
 Q (.exit 2) ⟨[],[(.arg 0, .arr 1 true 7 (Bj (P++B++x::S)))]⟩→G6 e k (Bj (P++x::(B++S))) Q
 | [],P,k,hk,he,hm,hq=>by
   have hm':P.length+1+S.length≤4611686018427387904:=by simp [Sm]at hm;omega
   simp only [List.length_nil]at he
   have w:IntKind.i64.wrap ((e:Int) - 1)=((k:Nat):Int):=by rw [Bc _ (by omega) (by omega)];omega
   refine Nb _ _ _ _ ?_
   rw [w]
   refine⟨fun h=> ?_,fun _=>by simpa using hq⟩
   have:=of_decide_eq_true h;omega
 |y::B,P,k,hk,he,hm,hq=>by
  have hm':P.length+1+(B.length+1)+S.length≤4611686018427387904:=by simp [Sm]at hm;omega
  simp only [List.length_cons]at he
  have w:IntKind.i64.wrap ((e:Int) - 1)=((e - 1:Nat):Int):=by rw [Bc _ (by omega) (by omega)];omega
  have w2:IntKind.i64.wrap ((k:Int)+1)=((k+1:Nat):Int):=by rw [Bc _ (by omega) (by omega)];simp
  refine Nb _ _ _ _ ?_
  rw [w,w2]
  refine⟨fun h=> ?_,fun h=> ?_⟩
  ·have e1:P++x::(y::B++S)=(P++[x])++y::(B++S):=by simp
   generalize hL:P++x::(y::B++S)=L at*
   have hlen:L.length=P.length+1+(B.length+1)+S.length:=by rw [←hL];simp;omega
   have g1:Bq L k=x:=by rw [←hL];exact K4 _ _ _ _ hk
   have g2:Bq L (k+1)=y:=by rw [e1];exact K4 _ _ _ _ (by simp;omega)
   have r1:=Ko L k (by omega)
   have r2:=Ko L (k+1) (by omega)
   rw [g1]at r1
   rw [g2]at r2
   simp only [Int.toNat_natCast]
   rw [r1,r2,Eu,Eu,Zc,Zc]
   have s1:L.set k y=(P++[y])++y::(B++S):=by rw [←hL,set_mid _ _ _ _ _ hk];simp
   have s2:(L.set k y).set (k+1) x=(P++[y])++x::(B++S):=by rw [s1,set_mid _ _ _ _ _ (by simp;omega)]
   rw [s2]
   refine⟨⟨by omega,by rw [A9];omega⟩,⟨⟨by rw [A9];omega,Dp _ _ _⟩,⟨⟨by omega,by rw [A9];omega⟩,⟨⟨by rw [A9];omega,Dp _ _ _⟩,⟨⟨by omega,by rw [A9];omega⟩,⟨by rw [A9];omega,⟨⟨by omega,by rw [A9,List.length_set];omega⟩,⟨by rw [A9,List.length_set];omega, ?_⟩⟩⟩⟩⟩⟩⟩⟩
   exact Bpj S x e Q B (P++[y]) (k+1) (by simp;omega) (by omega) (by simp [Sm];omega) (by simpa using hq)
  ·have:=of_decide_eq_false h;omega
theorem Bpk(P:List Pr)(y:Pr)(e:Nat)(Q:Ex→St→Prop)(he:e=P.length):∀(n:Nat) (A S:List Pr),A.length=n→Sm (P++A++y::S)→
 Q (.exit 6) ⟨[],[(.arg 0, .arr 1 true 7 (Bj (P++y::(A++S))))]⟩→G7 e ((e+n:Nat):Int) (Bj (P++A++y::S)) Q
 |0,A,S,hA,hm,hq=>by
  have:A=[]:=List.eq_nil_of_length_eq_zero hA
  subst this
  refine Nf _ _ _ _ ⟨fun h=> ?_,fun _=>by simpa using hq⟩
  have:=of_decide_eq_true h;omega
 |n+1,A,S,hA,hm,hq=>by
  obtain⟨A,z,rfl⟩:∃B z,A=B++[z]:=by
   rcases List.eq_nil_or_concat A with h |⟨A,z,h⟩
   ·subst h;simp at hA
   ·exact⟨A,z,by simpa using h⟩
  have hA:A.length=n:=by simpa using hA
  have hm':P.length+(n+1)+1+S.length≤4611686018427387904:=by simp [Sm]at hm;omega
  have w:IntKind.i64.wrap (((e+(n+1):Nat):Int) - 1)=((e+n:Nat):Int):=by rw [Bc _ (by omega) (by omega)];omega
  refine Nf _ _ _ _ ?_
  rw [w]
  refine⟨fun h=> ?_,fun h=> ?_⟩
  ·have e2:P++(A++[z])++y::S=(P++A)++z::(y::S):=by simp
   generalize hL:P++(A++[z])++y::S=L at*
   have hlen:L.length=P.length+(n+1)+1+S.length:=by rw [←hL];simp;omega
   have g1:Bq L (e+(n+1))=y:=by rw [←hL];exact K4 _ _ _ _ (by simp;omega)
   have g2:Bq L (e+n)=z:=by rw [e2];exact K4 _ _ _ _ (by simp;omega)
   have r1:=Ko L (e+(n+1)) (by omega)
   have r2:=Ko L (e+n) (by omega)
   rw [g1]at r1
   rw [g2]at r2
   simp only [Int.toNat_natCast]
   rw [r1,r2,Eu,Eu,Zc,Zc]
   have s1:L.set (e+(n+1)) z=(P++A)++z::(z::S):=by rw [←hL,set_mid _ _ _ _ _ (by simp;omega)];simp
   have s2:(L.set (e+(n+1)) z).set (e+n) y=P++A++y::(z::S):=by rw [s1,set_mid _ _ _ _ _ (by simp;omega)]
   rw [s2]
   refine⟨⟨by omega,by rw [A9];omega⟩,⟨⟨by rw [A9];omega,Dp _ _ _⟩,⟨⟨by omega,by rw [A9];omega⟩,⟨⟨by rw [A9];omega,Dp _ _ _⟩,⟨⟨by omega,by rw [A9];omega⟩,⟨by rw [A9];omega,⟨⟨by omega,by rw [A9,List.length_set];omega⟩,⟨by rw [A9,List.length_set];omega, ?_⟩⟩⟩⟩⟩⟩⟩⟩
   exact Bpk P y e Q he n A (z::S) hA (by simp [Sm];omega) (by simpa using hq)
  ·have:=of_decide_eq_false h;omega
end Go.Proofs.Sim.Se
