import Derived.Test.YtaggabcajidnnaaGreatDoorSimD
namespace Go.Proofs.Sim
open Go
def Afb:List (List UInt8 × Int)→List UInt8→Nat→Option (Nat × Value)
 | [],_,_=>none
 |(k,v)::r,x,i=>if x=k then some (i, .int .i64 v)else Afb r x (i+1)
theorem A6u {x s:ByteArray} :x.data.toList=s.data.toList↔x=s:=by
 constructor
 ·intro h
  cases x;cases s
  simp only [Array.toList_inj]at h
  simp [h]
 ·intro h;rw [h]
theorem As9(x s:ByteArray):(x == s)=decide (x=s):=by
 have h:(x == s)=(x.data == s.data):=by cases x;cases s;rfl
 rw [h]
 by_cases e:x=s
 ·subst e;simp
 ·have:¬x.data=s.data:=fun h=>e (by cases x;cases s;simp at h;rw [h])
  simp [e,this]
theorem Av6(x:ByteArray):∀(es:List MapEntry) (l:List (List UInt8 × Int)) (i:Nat),Ae4 es l→Instr.findNow .string (.string x) es i=some (Afb l x.data.toList i)
 | [],[],_,_=>rfl
 | [],_::_,_,h=>h.elim
 |_::_,[],_,h=>h.elim
 |e::es,(k,v)::l,i,h=>by
  obtain⟨⟨s,hk,hs⟩,hv,h⟩:=h
  have ih:=Av6 x es l (i+1) h
  subst hs
  unfold Instr.findNow Afb
  rw [hk]
  simp only [Instr.sameNow]
  by_cases hx:x=s
  ·subst hx
   rw [As9]
   simp [hv]
  ·have:¬x.data.toList=s.data.toList:=fun h=>hx (A6u.1 h)
   rw [if_neg this]
   have hb:(x == s)=false:=by rw [As9];simpa using hx
   rw [hb]
   exact ih
theorem Bb3(l:List (List UInt8 × Int))(x:List UInt8):∀i,(Afb l x i=none∧Cx l x=0)∨∃j v,Afb l x i=some (j, .int .i64 v)∧Cx l x=v:=by
 induction l with
 |nil=>intro i;exact .inl ⟨rfl,rfl⟩
 |cons a l ih=>
  obtain⟨k,v⟩:=a
  intro i
  unfold Afb Cx
  by_cases h:x=k
  ·simp only [if_pos h];exact .inr ⟨_,_,rfl,rfl⟩
  ·simp only [if_neg h];exact ih _
theorem Atd {P:Program} {k:Nat} (hk:P.underlying k=some .string)(e:Bool)(d:Nat)(s:ByteArray)(w:World):(Instr.checkKey e (d+1) k (.string s)).run P w= .ok () w:=by
 unfold Instr.checkKey
 simp [run_underlying hk]
theorem Al9 {P:Program} {k:Nat} (hk:P.underlying k=some .string)(x:ByteArray) {es:List MapEntry} {l:List (List UInt8 × Int)} (h:Ae4 es l)(w:World):(Instr.findKey k (.string x) es).run P w= .ok (Afb l x.data.toList 0) w:=by
 unfold Instr.findKey
 simp [run_underlying hk,Av6 x es l 0 h]
theorem Aph {P:Program} {w:World} {b:Nat} {es:Array MapEntry} {c:Nat} (h:w.heap[b]? =some (.map es c)):(getObj b).run P w= .ok (.map es c) w:=by
 simp [getObj,Sem.run,h]
theorem Bb2 {P:Program} {t k e:Nat} (ht:P.underlying t=some (.map k e))(hk:P.underlying k=some .string) {i:TypeInfo} (hi:P.info? e=some i)(hz:i.zero=some (.int .i64 0))(x:ByteArray) {w:World} {b clock:Nat} {es:Array MapEntry} {l:List (List UInt8 × Int)} (hb:w.heap[b]? =some (.map es clock))(h:Ae4 es.toList l):
 (Instr.lookup t (.map (some b)) (.string x) false).run P w= .ok (.int .i64 (Cx l x.data.toList)) w:=by
 unfold Instr.lookup
 have hc:=Atd hk es.isEmpty 9999 x w
 have hz':(zeroValue e).run P w= .ok (.int .i64 0) w:=by simp [zeroValue,typeInfo,hi,hz]
 simp only [Sem.run_bind,run_underlying ht,Result.andThen_ok,Aph hb,Sem.run_pure]
 rw [show(10000:Nat)=9999+1 from rfl,hc]
 simp only [Result.andThen_ok,Al9 hk x h w]
 rcases Bb3 l x.data.toList 0 with ⟨h1,h2⟩ |⟨j,v,h1,h2⟩
 ·simp [h1,h2,hz']
 ·simp [h1,h2]
theorem Beo(P:Program)(w:World)(g:G)(hp:Heap)(hs:Sat g hp w)(t:Nat)(ti:TI)(hti:ti.td≠ .missing→Aa5 P t ti)(x y:Value)(X Y:AV)(hx:RepA g x X)(hy:RepA g y Y):
 Out P w g (Instr.lookup t x y false) (Axs ti hp X Y):=by
 unfold Axs
 split
 ·rename_i n s htd
  have hu:=(hti (by rw [htd];simp)).td
  rw [htd]at hu
  obtain⟨k,e,h1,h2,i,h3,h4⟩:=hu
  obtain⟨bs,rfl,hbs⟩:=Pm hy
  cases hx with |mp _ b c l hb=>
  split
  ·rename_i m hg
   have hent:=hs.ent _ _ hg
   cases hent with |map _ b' c' l' es ck q1 q2 q3=>
   rw [hb]at q1;injection q1 with q1;injection q1 with e1 e2 e3;injection e1 with e1
   subst e1
   refine⟨.int .i64 (Cx m s),fun w' hup=> ?_,Q9 _ _ _⟩
   have hlt:b<w.heap.size:=(Array.getElem?_eq_some_iff.1 q2).1
   have q2':=(hup b hlt).trans q2
   rw [Bb2 h1 h2 h3 h4 bs q2' q3,hbs]
  ·trivial
 ·trivial
theorem A74(s:ByteArray)(v:Int)(cl:Nat):∀(es:List MapEntry) (l:List (List UInt8 × Int)) (i:Nat),Ae4 es l→
 (∃j u,Afb l s.data.toList i=some (i+j,u)∧(es[j]?).map (·.key)=some (.string s)∧Ae4 (es.modify j fun e=> { e with key:= .string s,val:= .int .i64 v }) (Yi l s.data.toList v))∨
 (Afb l s.data.toList i=none∧Ae4 (es++[⟨.string s, .int .i64 v,cl⟩]) (Yi l s.data.toList v))
 | [],[],_,_=> .inr ⟨rfl,⟨s,rfl,rfl⟩,rfl,trivial⟩
 | [],_::_,_,h=>h.elim
 |_::_,[],_,h=>h.elim
 |e::es,(k,u)::l,i,h=>by
  obtain⟨⟨t,hk,hs⟩,hv,h⟩:=h
  subst hs
  unfold Afb Yi
  by_cases hx:s=t
  ·subst hx
   simp only [if_true]
   exact .inl ⟨0,_,rfl,by simp [hk],⟨s,rfl,rfl⟩,rfl,h⟩
  ·have:¬s.data.toList=t.data.toList:=fun h=>hx (A6u.1 h)
   simp only [if_neg this]
   rcases A74 s v cl es l (i+1) h with ⟨j,z,h1,h2,h3⟩ |⟨h1,h2⟩
   ·exact .inl ⟨j+1,z,by rw [h1,show i+1+j=i+(j+1)by omega],by simpa using h2,by simpa using ⟨⟨t,hk,rfl⟩,hv,h3⟩⟩
   ·exact .inr ⟨h1,⟨t,hk,rfl⟩,hv,h2⟩
theorem Bfk {P:Program} (s:ByteArray)(w:World):(Instr.keyThatStays (.string s) (.string s)).run P w= .ok (.string s) w:=by
 unfold Instr.keyThatStays
 have:Instr.sameBits 10000 (.string s) (.string s)=true:=by
  rw [show(10000:Nat)=9999+1 from rfl]
  simp [Instr.sameBits,As9]
 simp [this]
theorem A42 {P:Program} {t k e:Nat} (ht:P.underlying t=some (.map k e))(hk:P.underlying k=some .string)(s:ByteArray)(v:Int) {w:World} {b clock:Nat} {es:Array MapEntry} {l:List (List UInt8 × Int)} (hb:w.heap[b]? =some (.map es clock))(h:Ae4 es.toList l):
 ∃es' clock',(Instr.mapUpdate t (.map (some b)) (.string s) (.int .i64 v)).run P w= .ok () { w with heap:=w.heap.setIfInBounds b (.map es' clock') } ∧Ae4 es'.toList (Yi l s.data.toList v):=by
 have hset:∀o:Obj,(setObj b o).run P w= .ok () { w with heap:=w.heap.setIfInBounds b o } :=fun o=>by simp [setObj,Sem.run,hb]
 have hc:=Atd hk false 9999 s w
 rcases A74 s v clock es.toList l 0 h with ⟨j,z,h1,h2,h3⟩ |⟨h1,h2⟩
 ·refine⟨es.modify j fun e=> { e with key:= .string s,val:= .int .i64 v },clock, ?_,by simpa using h3⟩
  unfold Instr.mapUpdate
  simp only [Sem.run_bind,run_underlying ht,Result.andThen_ok,Aph hb]
  rw [show(10000:Nat)=9999+1 from rfl,hc]
  have h2':((es[j]?).map (·.key)).getD (.string s)= .string s:=by
   have:es.toList[j]? =es[j]? :=by simp
   rw [←this,h2];rfl
  simp only [Result.andThen_ok,Al9 hk s h w,h1,Nat.zero_add,Sem.run_bind,h2',Bfk,hset]
 ·refine⟨es.push ⟨.string s, .int .i64 v,clock⟩,clock+1, ?_,by simpa using h2⟩
  unfold Instr.mapUpdate
  simp only [Sem.run_bind,run_underlying ht,Result.andThen_ok,Aph hb]
  rw [show(10000:Nat)=9999+1 from rfl,hc]
  simp only [Result.andThen_ok,Al9 hk s h w,h1,hset]
theorem Bef(P:Program)(T:TT)(hT:Dc P T)(w:World)(g:G)(t:Nat)(x y:Value)(X Y:AV)(hx:RepA g x X)(hy:RepA g y Y):
 Out P w g (Instr.index t x y) (Axr T t X Y):=by
 unfold Axr
 split
 ·rename_i k e esz cells ik n htd
  have hu:=(hT.ok t (by rw [htd];simp)).td
  rw [htd]at hu
  obtain⟨hu,i,hi,hisz⟩:=hu
  have ey:=Ew hy
  subst ey
  split
  ·trivial
  rename_i hmiss
  have hte:=hT.ok e (fun h=>hmiss h)
  split
  ·rename_i hc
   simp only [Bool.and_eq_true]at hc
   obtain⟨hagg,hlen,hsz⟩:=hc
   have hlen:=Nat.eq_of_beq_eq_true hlen
   rintro⟨⟨h0,h1⟩,hsh⟩
   have hr:=D5 hx
   cases hr with |agg cs _ hl hcs=>
   obtain⟨d,hd,hda⟩:=hte.agg
   have hisagg:∀w,(isAgg e).run P w= .ok true w:=by
    intro w
    rw [←hagg, ←hda]
    cases d<;>simp [isAgg,run_underlying hd]
   have hn:n.toNat<k:=by omega
   have hle:n.toNat*esz+esz≤cells.length:=by
    rw [hlen, ←Nat.succ_mul]
    exact Nat.mul_le_mul_right _ hn
   refine⟨.agg (cs.extract (n.toNat*esz) (n.toNat*esz+esz)),fun w _=> ?_, ?_⟩
   ·unfold Instr.index
    have:(0≤n∧n<(k:Int)):=⟨h0,h1⟩
    simp [asIntOf,run_underlying hu,this,Dm hi,hisz,part,hisagg]
   ·rw [Wz hsh]
    have hlen2:((cells.drop (n.toNat*esz)).take esz).length=esz:=by
     rw [List.length_take,List.length_drop];omega
    refine .imm _ _ (.agg _ _ (by rw [Je,hlen2];simp;omega) fun j hj=> ?_)
    rw [Je,hlen2]at hj
    rw [Abj,getD_take _ _ _ _ hj,getD_drop]
    have e1:(cs.extract (n.toNat*esz) (n.toNat*esz+esz)).getD j undef=cs.getD (n.toNat*esz+j) undef:=by
     have h1:j<(cs.extract (n.toNat*esz) (n.toNat*esz+esz)).size:=by simp;omega
     have h2:n.toNat*esz+j<cs.size:=by omega
     simp [Array.getD_eq_getD_getElem?,Array.getElem?_extract,h2]
     rw [if_pos (by omega)]
     simp
    rw [e1]
    exact(hcs _ (by omega)).anyC
  ·trivial
 ·exact A7s P w g t _ (hT.ok t) _ _ _ _ hx hy
end Go.Proofs.Sim
