import Derived.Test.YtaggabcajidnnaaGreatDoorWrA
set_option maxRecDepth 100000
namespace Go.Proofs.Sim.Se
open Go Go.Proofs Go.Proofs.Sim Go.Proofs.Sim.Va Go.RowKit
theorem Bs5(s:List UInt8)(hs:s.length≤1000000000000)(Q:AV→Heap→Prop)(hq:Q (.imm (.bool (decide ((0:UInt8)∈s)))) []):∀(m i:Nat),m+i=s.length→(∀c∈s.take i,c≠0)→Adp s i (Ac6 Q):=by
 intro m
 induction m with
 |zero=>
  intro i hi ha
  refine An5 _ _ _ (Ce (fun h=>by omega) fun _=> ?_)
  rw [List.take_of_length_le (by omega)]at ha
  rw [decide_eq_false (fun h=>ha 0 h rfl)]at hq
  exact A4n _ (A32 _ (A4l _ _ hq))
 |succ m ih=>
  intro i hi ha
  have hlt:i<s.length:=by omega
  refine An5 _ _ _ (Ce (fun _=>⟨⟨by omega,by omega⟩, ?_⟩) fun h=>by omega)
  rw [Lm s i hlt,Jk i (by omega)]
  refine Ce (fun e=> ?_) fun e=>ih (i+1) (by omega) (Ab1 (P:=fun c:UInt8=>c≠0) _ _ hlt ha fun h=>e (by rw [h];rfl))
  have e:s[i]=0:=by
   have h1:s[i].toNat=(0:UInt8).toNat:=by show s[i].toNat=0;omega
   exact UInt8.toNat_inj.1 h1
  rw [decide_eq_true (by rw [←e];exact List.getElem_mem hlt)]at hq
  exact A4m _ _ hq
theorem Bj2(s:List UInt8)(hs:s.length≤1000000000000):Call E0.P Aan [.imm (.str s)] [] (Is (.imm (.bool (decide ((0:UInt8)∈s)))) []):=
 Bam _ _ (Bs5 s hs _ ⟨rfl,rfl⟩ s.length 0 rfl (by simp))
theorem Amo(b:Bool)(p:Prop) {i:Decidable p} :((bif b then !@decide p i else false)=true)↔(b=true∧¬p):=by cases b<;>simp
theorem Bos(p:Prop) {i:Decidable p} :((!@decide p i)=true)↔¬p:=by simp
theorem Bqn(v:V):Call E0.P Ad7 [.imm (.agg (A83 v))] [] (Is (.imm (.bool (decide (Fw v)))) []):=by
 have hl:∀n:Nat,(0:Int)<(n:Int)↔0<n:=fun n=>by omega
 have yes:Fw v→Is (.imm (.bool (decide (Fw v)))) [] (.imm (.bool true)) []:=fun h=>by rw [decide_eq_true h];exact⟨rfl,rfl⟩
 refine A6s _ _ _ _ _ _ _ (Let.intro (Let.intro (Let.intro (Z5 (p:=v.n≠0∧¬(v.k=1∨v.k=2∨v.k=7)) ?_ (fun n0=> ?_) fun y=>⟨rfl,Let.intro (Vx ⟨rfl,Let.intro (Vx ⟨rfl,Let.intro (Vx ⟨rfl,Let.intro (yes (.inl y))⟩)⟩)⟩)⟩))))
 ·rw [Amo,Amo,Amo,Bos];omega
 refine Let.intro (Let.intro (Z5 (p:=v.g≠0∧v.k≠7) ?_ (fun n1=> ?_) fun y=>⟨rfl,Let.intro (Vx ⟨rfl,Let.intro (Vx ⟨rfl,Let.intro (yes (.inr (.inl y)))⟩)⟩)⟩))
 ·rw [Amo,Bos]
 refine Let.intro (Let.intro (Let.intro (Let.intro (Z5 (p:=v.s≠[]∧¬(v.k=3∨v.k=4∨v.k=8)) ?_ (fun n2=> ?_) fun y=>⟨rfl,Let.intro (Vx ⟨rfl,Let.intro (yes (.inr (.inr (.inl y))))⟩)⟩))))
 ·rw [Amo,Amo,Amo]
  have:(!v.s == [])=true↔v.s≠[]:=by simp
  rw [this]
  constructor
  ·rintro⟨⟨⟨a,b⟩,c⟩,d⟩;exact⟨a,by omega⟩
  ·rintro⟨a,b⟩;exact⟨⟨⟨a,by omega⟩,by omega⟩,by omega⟩
 refine Let.intro (Let.intro (Z5 (p:=0<v.l.length∧v.k≠5) ?_ (fun n3=> ?_) fun y=>⟨rfl,Let.intro (yes (.inr (.inr (.inr (.inl y)))))⟩))
 ·rw [Amo,Ca,List.length_map,hl]
 refine Let.intro (Let.intro (Let.intro ?_))
 have:(bif (bif decide ((0:Int)<((v.d.map Bl).length:Int))then !decide (v.k=6)else false)then !decide (v.k=8)else false)=decide (Fw v):=by
  rw [Bool.eq_iff_iff,Amo,Amo,Ca,Ca,List.length_map,hl,Fw]
  exact⟨fun h=> .inr (.inr (.inr (.inr ⟨h.1.1,by omega⟩))),fun h=>by
   rcases h with h |h |h |h |h
   ·exact absurd h n0
   ·exact absurd h n1
   ·exact absurd h n2
   ·exact absurd h n3
   ·exact⟨⟨h.1,by omega⟩,by omega⟩⟩
 rw [this]
 exact⟨rfl,rfl⟩
theorem Bvn(v:V):Call E0.P Asw [.imm (.agg (A83 v))] [] (Is (.imm (.bool (decide (Jq v)))) []):=by
 have fin:∀b:Bool,(b=true↔Jq v)→Is (.imm (.bool (decide (Jq v)))) [] (.imm (.bool b)) []:=by
  intro b hb
  have:b=decide (Jq v):=by rw [Bool.eq_iff_iff,hb,Ca]
  rw [this];exact⟨rfl,rfl⟩
 refine Bby _ _ _ _ _ _ _ (Ce (fun h=>Let.intro (fin _ ?_)) fun h1=>Ce (fun h=>Let.intro (fin _ ?_)) fun h2=>Ce (fun h=>Let.intro (Let.intro (Let.intro (fin _ ?_)))) fun h7=>fin _ ?_)
 ·rw [Amo,Bos,Jq];omega
 ·rw [orB,Jq];omega
 ·rw [Aja,Aja,orB,Jq];omega
 ·rw [Jq]
  constructor
  ·intro h;cases h
  ·intro h;omega
theorem Bmy(k:Int):Call E0.P Aa5 [.imm (.int .i64 k)] [] (Is (.imm (.bool (decide (k=5∨k=6∨k=8)))) []):=by
 refine A4a _ _ (Let.intro (Let.intro ?_))
 have:(bif (bif decide (k=5)then true else decide (k=6))then true else decide (k=8))=decide (k=5∨k=6∨k=8):=by
  rw [Bool.eq_iff_iff,Aja,orB,Ca];omega
 rw [this];exact⟨rfl,rfl⟩
theorem Bi0(v:V)(st:Bool)(w:Int)(b:Bool)(hk:¬((v.k<0∨8<v.k)∨(v.k=8∧st=false)))(hb:b=true↔(Fw v∨(v.k=3∧(0:UInt8)∈v.s)))(Q:AV→Heap→Prop)(hQ:Q (.imm (.int .i64 (Ub v st w))) []):
 Ov w b v.k v.n v.g v.s (v.l.map V.row) (v.d.map Bl) (J9 Q):=by
 rw [Ub,if_neg hk]at hQ
 have ret:∀n:Int,Q (.imm (.int .i64 n)) []→J9 Q .ret ⟨[(6, .imm (.int .i64 n))],[]⟩:=fun n h=>A7f _ _ h
 have l8:∀n:Nat,((127:Int)<(n:Int)↔127<n)∧((65535:Int)<(n:Int)↔65535<n)∧((1048576:Int)<(n:Int)↔1048576<n):=fun n=>⟨by omega,by omega,by omega⟩
 obtain⟨q1,q2,q3⟩:=l8 v.s.length
 refine A6l _ _ _ _ _ _ _ _ _ (Dt hb (fun h=>ret _ ?_) fun h4=>Call.use (Bvn v) ⟨⟨rfl,rfl⟩,Dt (p:=Jq v) (by rw [I7];exact Ca) (fun h=>ret _ ?_) fun h3=> ?_⟩)
 ·rw [if_pos h]at hQ;exact hQ
 ·rw [if_neg h4,if_pos h]at hQ;exact hQ
 rw [if_neg h4,if_neg h3]at hQ
 refine Let.intro (Z5 (p:=v.k=3∧127<v.s.length) (by rw [Oj,q1]) (fun a1=>Let.intro (Let.intro (Dt (p:=v.k=4∧65535<v.s.length) (by rw [Oj,q2]) (fun h=>ret _ ?_) fun a2=> ?_))) fun h=>⟨rfl,Let.intro (Bck (ret _ ?_))⟩)
 ·rw [if_pos (.inr h)]at hQ;exact hQ
 ·rw [if_neg (fun h=>h.elim a1 a2)]at hQ
  refine Let.intro (Dt (p:=v.k=8∧1048576<v.s.length) (by rw [Oj,q3]) (fun h=>ret _ ?_) fun a3=>Call.use (Bmy v.k) ⟨⟨rfl,rfl⟩,Let.intro (Dt (p:=(v.k=5∨v.k=6∨v.k=8)∧64≤w) ?_ (fun h=>ret _ ?_) fun a4=>A7g _ (A3x _ (A7e _ _ ?_)))⟩)
  ·rw [if_pos h]at hQ;exact hQ
  ·rw [I7,Oj]
  ·rw [if_neg a3,if_pos h]at hQ;exact hQ
  ·rw [if_neg a3,if_neg a4]at hQ;exact hQ
 ·rw [if_pos (.inl h)]at hQ;exact hQ
theorem Bvm(v:V)(hs:v.s.length≤1000000000000)(st:Bool)(w:Int):Call E0.P Asv [.imm (.agg (A83 v)), .imm (.bool st), .imm (.int .i64 w)] [] (Is (.imm (.int .i64 (Ub v st w))) []):=by
 refine Bbx _ _ _ _ _ _ _ _ _ (Let.intro (Z5 (orB _ _) (fun hk=>Let.intro (Let.intro (Dt (p:=v.k=8∧st=false) ?_ (fun h=> ?_) fun h8=> ?_))) fun h=>⟨rfl,Let.intro (Bck ?_)⟩))
 ·by_cases a:v.k=8<;>cases st<;>simp [a]
 ·rw [Ub,if_pos (.inr h)];exact⟨rfl,rfl⟩
 ·have hk':¬((v.k<0∨8<v.k)∨(v.k=8∧st=false)):=fun h=>h.elim hk h8
  refine Call.use (Bqn v) ⟨⟨rfl,rfl⟩,Z5 (p:=Fw v) (by rw [I7];exact Ca) (fun e=> ?_) fun e=>⟨rfl,Let.intro (Bi0 v st w _ hk' ⟨fun _=> .inl e,fun _=>rfl⟩ _ ⟨rfl,rfl⟩)⟩⟩
  refine⟨fun h=> ?_,fun h=>⟨rfl,Let.intro (Let.intro (Bi0 v st w _ hk' ⟨fun h=>(by cases h),fun h'=> ?_⟩ _ ⟨rfl,rfl⟩))⟩⟩
  ·have h3:=of_decide_eq_true (eq_of_beq h)
   refine Call.use (Bj2 v.s hs) ⟨⟨rfl,rfl⟩,Let.intro (Let.intro (Bi0 v st w _ hk' ?_ _ ⟨rfl,rfl⟩))⟩
   rw [I7,Ca]
   exact⟨fun h=> .inr ⟨h3,h⟩,fun h=>h.elim (fun h=>absurd h e) fun h=>h.2⟩
  ·exfalso
   rcases h' with h' |h'
   ·exact e h'
   ·rw [decide_eq_true h'.1]at h;cases h
 ·rw [Ub,if_pos (.inl h)];exact⟨rfl,rfl⟩
theorem Bvd(d:List Pr)(hd:d.length≤1000000000000)(k:Nat)(hk:k<d.length)(Q:AV→Heap→Prop)(hq:Q (.imm (.int .i64 (if(Bq d k).1∈(d.take k).map (·.1)then 11 else 0))) []):
 ∀(m i:Nat),m+i=k→(∀x∈(d.take i).map (·.1),x≠(Bq d k).1)→Agl (Bj d) k (Bq d k).1 i (Agi (Aag Q)):=by
 intro m
 induction m with
 |zero=>
  intro i hi ha
  refine Aqt _ _ _ _ _ (Ce (fun h=>by omega) fun _=> ?_)
  have:i=k:=by omega
  subst this
  rw [if_neg (fun h=>ha _ h rfl)]at hq
  exact A68 _ (A3u _ (A66 _ _ (Aql _ _ hq)))
 |succ m ih=>
  intro i hi ha
  have hlt:i<d.length:=by omega
  have hp:Bq d i=d[i]:=by simp [Bq,List.getD_eq_getElem?_getD,hlt]
  refine Aqt _ _ _ _ _ (Ce (fun _=> ?_) fun h=>by omega)
  rw [show(Bj d).getD (Int.toNat (i:Int)) []=Bl (Bq d i) from Nn _ _ hlt,Bet,A9,Jk i (by omega)]
  refine⟨⟨⟨by omega,by omega⟩,Dp _ _ _⟩,Dt (p:=(Bq d i).1=(Bq d k).1) beq_iff_eq (fun h=> ?_) fun h=>ih (i+1) (by omega) fun x hx=> ?_⟩
  ·rw [if_pos (show(Bq d k).1∈(d.take k).map (·.1)by
    rw [←h,hp]
    exact List.mem_map.2 ⟨d[i],List.mem_take_iff_getElem.2 ⟨i,by omega,rfl⟩,rfl⟩)]at hq
   exact A67 _ _ (Aql _ _ hq)
  ·rw [List.take_add_one,List.map_append,List.mem_append]at hx
   rcases hx with hx |hx
   ·exact ha x hx
   ·have:d[i]?.toList=[Bq d i]:=by rw [hp];simp [hlt]
    rw [this]at hx
    have:x=(Bq d i).1:=by simpa using hx
    rw [this];exact h
theorem Btg(d:List Pr)(hd:d.length≤1000000000000)(hs:∀p∈d,p.1.length≤1000000000000)(k:Nat)(hk:k<d.length):Call E0.P Asu [.imm (.sl .any 7 (Bj d)), .imm (.int .i64 k)] []
 (Is (.imm (.int .i64 (if Gg (Bq d k).1∨(Bq d k).1∈(d.take k).map (·.1)then 11 else 0))) []):=by
 have hm:Bq d k∈d:=by simp [Bq,List.getD_eq_getElem?_getD,hk]
 refine Bbv _ _ _ ?_
 rw [show(Bj d).getD (Int.toNat (k:Int)) []=Bl (Bq d k) from Nn _ _ hk,Bet,A9]
 have bad:Gg (Bq d k).1→Is (.imm (.int .i64 (if Gg (Bq d k).1∨(Bq d k).1∈(d.take k).map (·.1)then 11 else 0))) [] (.imm (.int .i64 11)) []:=fun h=>by
  rw [if_pos (.inl h)];exact⟨rfl,rfl⟩
 have good:¬Gg (Bq d k).1→Agg (Bj d) k (Bq d k).1 (Aag (Is (.imm (.int .i64 (if Gg (Bq d k).1∨(Bq d k).1∈(d.take k).map (·.1)then 11 else 0))) [])):=by
  intro h
  refine A6k _ _ _ _ (Bvd d hd k hk _ ?_ k 0 rfl (by simp))
  by_cases h2:(Bq d k).1∈(d.take k).map (·.1)
  ·rw [if_pos h2,if_pos (.inr h2)];exact⟨rfl,rfl⟩
  ·rw [if_neg h2,if_neg (fun h3=>h3.elim h h2)];exact⟨rfl,rfl⟩
 refine⟨⟨⟨by omega,by omega⟩,Dp _ _ _⟩,Z5 (p:=127<(Bq d k).1.length) (by rw [Ca];omega) (fun h1=>Call.use (Bj2 _ (hs _ hm)) ⟨⟨rfl,rfl⟩,Let.intro (Dt (p:=Gg (Bq d k).1) ?_ bad good)⟩) fun h1=>⟨rfl,Let.intro (Bck (bad (.inl h1)))⟩⟩
 rw [I7,Ca,Gg]
 exact⟨fun h=> .inr h,fun h=>h.elim (fun h=>absurd h h1) id⟩
abbrev A2n(v:V):Prop:=∀(st:Bool) (w:Int),0≤w→w≤64→Call E0.P X0 [.imm (.agg v.row), .imm (.bool st), .imm (.int .i64 w)] [] (Is (.imm (.int .i64 (v.chk st w))) [])
theorem Bmo(v:V)(hl:v.l.length≤1000000000000)(ih:∀x∈v.l,A2n x)(w:Int)(hw0:0≤w)(hw:0<v.l.length→w<64)(a b c:Int)(s:List UInt8)(q:List (List IV))(K:Ex→St→Prop)
 (hR:Rs (v.l.map fun x=>x.chk false (w+1))≠0→K .ret ⟨[(6, .imm (.int .i64 (Rs (v.l.map fun x=>x.chk false (w+1)))))],[]⟩)
 (hE:Rs (v.l.map fun x=>x.chk false (w+1))=0→K (.exit 0) ⟨[(2, .imm (.int .i64 w)),(3, .ptr (Nm.loc 3) 0)],[(Nm.loc 3, .blk Aa [.imm (.int .i64 a), .imm (.int .i64 b), .imm (.int .i64 c), .imm (.str s), .imm (.sl .any 6 (H7 v.l)), .imm (.sl .any 7 q)])]⟩):
 ∀(m i:Nat),m+i=v.l.length→Rs (v.l.map fun x=>x.chk false (w+1))=Rs ((v.l.drop i).map fun x=>x.chk false (w+1))→Aay w i a b c s (H7 v.l) q K:=by
 intro m
 induction m with
 |zero=>
  intro i hi he
  refine Amg _ _ _ _ _ _ _ _ _ (Ce (fun h=>by rw [Er]at h;omega) fun _=> ?_)
  rw [List.drop_of_length_le (by omega)]at he
  exact hE he
 |succ m ihm=>
  intro i hi he
  have hlt:i<v.l.length:=by omega
  have hm:J8 v.l i∈v.l:=by simp [J8,List.getD_eq_getElem?_getD,hlt]
  have hd:v.l.drop i=J8 v.l i::v.l.drop (i+1):=by rw [List.drop_eq_getElem_cons hlt];simp [J8,List.getD_eq_getElem?_getD,hlt]
  have hw:=hw (by omega)
  refine Amg _ _ _ _ _ _ _ _ _ (Ce (fun _=> ?_) fun h=>by rw [Er]at h;omega)
  rw [show(H7 v.l).getD (Int.toNat (i:Int)) []=(J8 v.l i).row from Ue _ _ hlt,Ep,Er,Jk i (by omega),Bc _ (by omega) (by omega)]
  refine⟨⟨⟨by omega,by omega⟩,Uf _ _ _⟩,Call.use (ih _ hm false (w+1) (by omega) (by omega)) ⟨⟨rfl,rfl⟩, ?_⟩⟩
  rw [Fy]
  rw [hd,List.map_cons,Rs]at he
  refine⟨fun h=> ?_,fun h=>ihm (i+1) (by omega) ?_⟩
  ·have h:=ndT h
   rw [if_pos h]at he
   rw [he]at hR
   exact hR h
  ·have h:=ndF h
   rw [if_neg (by simpa using h)]at he
   exact he
theorem Bmn(v:V)(hl:v.d.length≤1000000000000)(hs:∀p∈v.d,p.1.length≤1000000000000)(ih:∀x∈v.d,A2n x.2)(w:Int)(hw0:0≤w)(hw:0<v.d.length→w<64)(a b c:Int)(s:List UInt8)(q:List (List IV))(K:Ex→St→Prop)
 (hR:K .ret ⟨[(6, .imm (.int .i64 (Aef [] (v.d.map fun x=>(x.1,x.2.chk false (w+1))))))],[]⟩):
 ∀(m i:Nat),m+i=v.d.length→
  Aef [] (v.d.map fun x=>(x.1,x.2.chk false (w+1)))=Aef ((v.d.take i).map (·.1)) ((v.d.drop i).map fun x=>(x.1,x.2.chk false (w+1)))→Yy w i a b c s q (Bj v.d) (Aav K):=by
 intro m
 induction m with
 |zero=>
  intro i hi he
  refine Ajq _ _ _ _ _ _ _ _ _ (Ce (fun h=>by rw [A9]at h;omega) fun _=> ?_)
  rw [List.drop_of_length_le (by omega)]at he
  rw [he]at hR
  exact A1u _ (Ayx _ (A1t _ _ hR))
 |succ m ihm=>
  intro i hi he
  have hlt:i<v.d.length:=by omega
  have hm:Bq v.d i∈v.d:=by simp [Bq,List.getD_eq_getElem?_getD,hlt]
  have hd:v.d.drop i=Bq v.d i::v.d.drop (i+1):=by rw [List.drop_eq_getElem_cons hlt];simp [Bq,List.getD_eq_getElem?_getD,hlt]
  have ht:(v.d.take (i+1)).map (·.1)=(v.d.take i).map (·.1)++[(Bq v.d i).1]:=by
   have:v.d[i]?.toList=[Bq v.d i]:=by simp [Bq,List.getD_eq_getElem?_getD,hlt]
   rw [List.take_add_one,this];simp
  have hw:=hw (by omega)
  have hk:=Btg v.d hl hs i hlt
  obtain⟨p,hp⟩:∃p,Bq v.d i=p:=⟨_,rfl⟩
  rw [hp]at hm hd hk ht
  rw [hd,List.map_cons,Aef]at he
  refine Ajq _ _ _ _ _ _ _ _ _ (Ce (fun _=>Call.use hk ⟨⟨rfl,rfl⟩, ?_⟩) fun h=>by rw [A9]at h;omega)
  rw [Fy]
  by_cases hbad:Gg p.1∨p.1∈(v.d.take i).map (·.1)
  ·rw [if_pos hbad]
   rw [if_pos hbad]at he
   rw [he]at hR
   exact⟨fun _=>Alv _ _ hR,fun h=>absurd h (by decide)⟩
  ·rw [if_neg hbad]
   rw [if_neg hbad]at he
   refine⟨fun h=>absurd h (by decide),fun _=> ?_⟩
   rw [show(Bj v.d).getD (Int.toNat (i:Int)) []=Bl (Bq v.d i) from Nn _ _ hlt,hp,Le,A9,Jk i (by omega),Bc (w+1) (by omega) (by omega)]
   refine⟨⟨⟨by omega,by omega⟩,Dp _ _ _⟩,Call.use (ih _ hm false (w+1) (by omega) (by omega)) ⟨⟨rfl,rfl⟩, ?_⟩⟩
   rw [Fy]
   refine⟨fun h2=> ?_,fun h2=>ihm (i+1) (by omega) ?_⟩
   ·rw [if_pos (ndT h2)]at he
    rw [he]at hR
    exact Alv _ _ hR
   ·rw [if_neg (by simpa using ndF h2)]at he
    rw [ht];exact he
inductive A61:V→Prop where
 |mk (v:V):v.s.length≤1000000000000→(∀x∈v.l,A61 x)→(∀p∈v.d,p.1.length≤1000000000000)→(∀p∈v.d,A61 p.2)→A61 v
theorem Bm3(v:V)(hf:Fit v):A61 v→A2n v:=by
 induction hf with
 |mk v h1 h2 h3 h4 ih1 ih2=>
  intro hs st w hw0 hw
  obtain⟨_,q1,q2,q3,q4⟩:=hs
  rw [Db,Bct]
  refine A6r _ _ _ _ _ _ _ _ _ (Call.use (Bvm v q1 st w) ⟨⟨rfl,rfl⟩, ?_⟩)
  rw [Fy]
  refine⟨fun h=> ?_,fun h=> ?_⟩
  ·rw [if_pos (ndT h)];exact⟨rfl,rfl⟩
  ·have h0:=ndF h
   rw [if_neg (by simpa using h0)]
   refine Bmo v h1 (fun x hx=>ih1 x hx (q2 x hx)) w hw0 (fun hc=>Ati h0 (.inl hc)) _ _ _ _ _ _ (fun he=> ?_) (fun he=> ?_) v.l.length 0 rfl (by rw [List.drop_zero])
   ·rw [if_pos he]
    exact A1r _ _ ⟨rfl,rfl⟩
   ·rw [if_neg (by simpa using he)]
    refine A1s _ _ _ _ _ _ _ _ (Ayw _ _ _ _ _ _ _ _ ?_)
    exact Bmn v h2 q3 (fun x hx=>ih2 x hx (q4 x hx)) w hw0 (fun hc=>Ati h0 (.inr hc)) _ _ _ _ _ _ (A1q _ _ ⟨rfl,rfl⟩) v.d.length 0 rfl (by rw [List.drop_zero];rfl)
theorem Bfn(v:V)(hf:Fit v)(hs:A61 v)(st:Bool):Call E0.P Amt [.imm (.agg v.row), .imm (.bool st)] [] (Is (.imm (.int .i64 (v.chk st 0))) []):=by
 have h:=Bm3 v hf hs st 0 (by decide) (by decide)
 rw [Db]at h ⊢
 exact A6o _ _ _ _ _ _ _ _ (Call.use h ⟨⟨rfl,rfl⟩,⟨rfl,rfl⟩⟩)
end Go.Proofs.Sim.Se
namespace Go.Proofs.Sim.Se
open Go Go.Proofs Go.Proofs.Sim Go.Proofs.Sim.Va Go.Proofs.Sim.St Go.RowKit
def Io(l:List (List UInt8)):Nat:=(l.map fun t=>t.length+1).sum
theorem Rh(x:List UInt8)(r:List (List UInt8)):Bn (x::r)=x++(r.map fun t=>32::t).flatten:=by
 rw [Bn,Lib.join_cons];rfl
theorem N7(l:List (List UInt8)):(Bn l).length≤Io l:=by
 cases l with
 |nil=>simp [Bn,Lib.join_nil]
 |cons x r=>
  rw [Rh,Io,List.length_append,List.map_cons,List.sum_cons]
  have:((r.map fun t=>(32:UInt8)::t).flatten).length=(r.map fun t=>t.length+1).sum:=by
   induction r with
   |nil=>rfl
   |cons y r ih=>rw [List.map_cons,List.flatten_cons,List.length_append,ih,List.map_cons,List.sum_cons];simp
  omega
theorem Bo9(a b:List (List UInt8)):Io (a++b)=Io a+Io b:=by simp [Io]
theorem Axo(l:List (List UInt8))(i:Nat):Io (l.take i)≤Io l:=by
 have:Io l=Io (l.take i)+Io (l.drop i):=by rw [←Bo9,List.take_append_drop]
 omega
theorem A3k(l:List (List UInt8))(x:List UInt8)(h:x∈l):x.length+1≤Io l:=Arp (fun t:List UInt8=>t.length+1) l x h
theorem Bpa(l:List (List UInt8)):l.length≤Io l:=Aro (fun t:List UInt8=>t.length+1) l fun _ _=>by omega
theorem Aw9(l:List (List UInt8))(i:Nat)(h:i<l.length):Bn (l.take (i+1))=(if 0<i then Bn (l.take i)++[32]else Bn (l.take i))++l[i]:=by
 cases l with
 |nil=>simp at h
 |cons x r=>
  cases i with
  |zero=>
   rw [if_neg (by decide)]
   simp [Bn,Lib.join_nil,Lib.join_one]
  |succ i=>
   have hi:i<r.length:=by simpa using h
   have:r[i]?.toList=[r[i]]:=by simp [hi]
   have e:r.take (i+1)=r.take i++[r[i]]:=by rw [List.take_add_one,this]
   rw [if_pos (by omega),List.take_succ_cons,List.take_succ_cons,Rh,Rh,e,List.map_append,List.flatten_append]
   simp
inductive SmW:V→Prop where
 |mk (v:V):Ow v.n→Ow v.g→v.s.length≤3000→v.l.length≤1000000→v.d.length≤1000000→Io (v.l.map V.wr)≤10000000000→Io (v.d.map fun p=>Bn [Cm p.1,p.2.wr])≤10000000000→(∀p∈v.d,p.1.length≤3000)→
  (∀x∈v.l,SmW x)→(∀p∈v.d,SmW p.2)→SmW v
inductive Scal:V→Prop where
 |mk (v:V):Ow v.n→Ow v.g→v.s.length≤3000→(∀x∈v.l,Scal x)→(∀p∈v.d,p.1.length≤3000)→(∀p∈v.d,Scal p.2)→Scal v
theorem Bsb {v:V} (hw:Wf v):Ta 3000 v→Scal v:=by
 induction hw with
 |mk v a1 a2 a3 a4 a5 a6 a7 a8 a9 ih1 ih2=>
  intro hs
  cases hs with
  |mk _ b1 b2 b3 b4=>exact .mk v a2 a3 (by omega) (fun x hx=>ih1 x hx (b2 x hx)) (fun p hp=>by have:=b3 p hp;omega) (fun p hp=>ih2 p hp (b4 p hp))
theorem Bl1 {v:V} (h:Scal v):A61 v:=by
 induction h with
 |mk v a2 a3 a4 a7 a8 a9 ih1 ih2=>exact .mk v (by omega) ih1 (fun p hp=>by have:=a8 p hp;omega) ih2
theorem Bd4(s:List UInt8):(Cm s).length≤3*s.length+1:=by
 have:=A5m Jl 3 Aof s
 rw [Cm,List.length_cons];omega
theorem Bmd(s:List UInt8):(Si s).length≤2*s.length+2:=by
 have h1:=A5m J7 2 Asl s
 have h2:=Ax9 s
 unfold Si
 split
 ·rw [List.cons_append,List.length_cons,List.length_append];simp only [List.length_cons,List.length_nil];omega
 ·rw [List.length_cons];omega
theorem A6c {α:Type} (f g:α→Nat)(l:List α)(h:∀x∈l,f x≤g x):(l.map f).sum≤(l.map g).sum:=by
 induction l with
 |nil=>simp
 |cons x l ih=>
  have:=ih fun y hy=>h y (by simp [hy])
  have:=h x (by simp)
  simp;omega
theorem Bha {α:Type} (c:Nat)(f:α→Nat)(l:List α):(l.map fun x=>c*f x).sum=c*(l.map f).sum:=by
 induction l with
 |nil=>simp
 |cons x l ih=>simp only [List.map_cons,List.sum_cons,ih,Nat.mul_add]
theorem Aod(a b:List UInt8):(Bn [a,b]).length=a.length+b.length+1:=by rw [Rh];simp;omega
theorem Bu8 {v:V} (h:Scal v):v.wr.length+9100≤20000*Cv v∧Io (v.l.map V.wr)≤20000*Cv v∧Io (v.d.map fun p=>Bn [Cm p.1,p.2.wr])≤20000*Cv v:=by
 induction h with
 |mk v a2 a3 a4 a7 a8 a9 ih1 ih2=>
  have hl:Io (v.l.map V.wr)≤20000*(v.l.map Cv).sum:=by
   rw [Io,List.map_map, ←Bha]
   exact A6c _ _ _ fun x hx=>by have:=(ih1 x hx).1;simp only [Function.comp_apply];omega
  have hd:Io (v.d.map fun p=>Bn [Cm p.1,p.2.wr])≤20000*(v.d.map fun p=>Cv p.2).sum:=by
   rw [Io,List.map_map, ←Bha]
   exact A6c _ _ _ fun p hp=>by
    have:=(ih2 p hp).1
    have h1:=Bd4 p.1
    have h2:=a8 p hp
    simp only [Function.comp_apply,Aod]
    omega
  have hc:=Q7 v
  refine⟨?_,by omega,by omega⟩
  rw [Ou]
  have j1:=N7 (v.l.map V.wr)
  have j2:=N7 (v.d.map fun p=>Bn [Cm p.1,p.2.wr])
  have n1:=Bd4 v.s
  have n2:=Bmd v.s
  have i1:=Pp v.n a2.1 a2.2
  have i2:=Pp v.g a3.1 a3.2
  have e:(v.d.map fun p=>(p.1,p.2.wr)).map (fun p=>Bn [Cm p.1,p.2])=v.d.map fun p=>Bn [Cm p.1,p.2.wr]:=by rw [List.map_map];rfl
  unfold mkW
  split
  ·split<;>simp [A6d,Axr]<;>omega
  split
  ·omega
  split
  ·omega
  split
  ·omega
  split
  ·simp only [List.length_append,List.length_cons,List.length_nil];omega
  split
  ·rw [e];simp only [List.length_append,List.length_cons,List.length_nil];omega
  split
  ·simp only [List.length_append,List.length_cons,List.length_nil,Aod];omega
  ·simp [Ayk];omega
theorem Be7 {v:V} (h:Scal v):Cv v≤100000→SmW v:=by
 induction h with
 |mk v a2 a3 a4 a7 a8 a9 ih1 ih2=>
  intro hc
  have h0:=Bu8 (Scal.mk v a2 a3 a4 a7 a8 a9)
  have he:=Q7 v
  have l1:=Aro Cv v.l fun x _=>Aqy x
  have l2:=Aro (fun p:Pr=>Cv p.2) v.d fun p _=>Aqy p.2
  refine .mk v a2 a3 a4 (by omega) (by omega) (by omega) (by omega) a8 (fun x hx=>ih1 x hx ?_) fun p hp=>ih2 p hp ?_
  ·have:=Arp Cv v.l x hx;omega
  ·have:=Arp (fun p:Pr=>Cv p.2) v.d p hp;omega
theorem Bsd(f:Pr→Nat)(x:Pr)(l:List Pr):((ins bl pk x l).map f).sum=f x+(l.map f).sum:=by
 induction l with
 |nil=>simp [ins]
 |cons y r ih=>
  rw [ins]
  split
  ·rw [List.map_cons,List.sum_cons,ih,List.map_cons,List.sum_cons];omega
  ·simp
theorem Bsf(f:Pr→Nat)(l:List Pr):((Cq l).map f).sum=(l.map f).sum:=by
 induction l with
 |nil=>simp [Cq,srt]
 |cons x l ih=>rw [show Cq (x::l)=ins bl pk x (Cq l) from rfl,Bsd,ih];simp
theorem Bsg(f:Pr→Nat) {a b:List Pr} (h:a.Sublist b):(a.map f).sum≤(b.map f).sum:=by
 induction h with
 |slnil=>simp
 |cons x h ih=>simp;omega
 |cons_cons x h ih=>simp;omega
theorem Bse(f:Pr→Nat)(d:List Pr):(((uniq d).filter Nl).map f).sum≤(d.map f).sum:=by
 rw [←Bsf f d]
 exact Bsg f ((List.filter_sublist).trans (Aal _))
theorem A54 {v:V} (h:Scal v):Scal v.plain∧Cv v.plain≤Cv v:=by
 have z:Ow 0:=⟨by decide,by decide⟩
 have n0:∀(P:V→Prop),∀x∈([]:List V),P x:=fun P x hx=>by cases hx
 have n1:∀(P:Pr→Prop),∀x∈([]:List Pr),P x:=fun P x hx=>by cases hx
 have leaf:∀(k n g:Int) (s:List UInt8),Ow n→Ow g→s.length≤3000→Scal (.mk k n g s [] [])∧Cv (.mk k n g s [] [])=1:=by
  intro k n g s h1 h2 h3
  refine⟨.mk _ h1 h2 h3 (n0 _) (n1 _) (n1 _), ?_⟩
  rw [Q7];simp [V.l,V.d]
 induction h with
 |mk v a2 a3 a4 a7 a8 a9 ih1 ih2=>
  have hp:=Aqy v
  have he:=Q7 v
  rw [Ec]
  have hdm:∀p∈(uniq (Iu v.d)).filter Nl,∃q∈v.d,p=(q.1,q.2.plain):=by
   intro p hp
   have:=A3o (List.mem_filter.1 hp).1
   rw [Iu,List.mem_map]at this
   obtain⟨q,h1,h2⟩:=this
   exact⟨q,h1,h2.symm⟩
  have hsd:(((uniq (Iu v.d)).filter Nl).map fun p:Pr=>Cv p.2).sum≤(v.d.map fun p:Pr=>Cv p.2).sum:=by
   refine Nat.le_trans (Bse _ _) ?_
   rw [Iu,List.map_map]
   exact A6c _ _ _ fun p hp=>(ih2 p hp).2
  have dd:∀(k:Int) (s:List UInt8),s.length≤3000→Scal (.mk k 0 0 s [] ((uniq (Iu v.d)).filter Nl))∧Cv (.mk k 0 0 s [] ((uniq (Iu v.d)).filter Nl))≤Cv v:=by
   intro k s hs
   refine⟨.mk _ z z hs (n0 _) (fun p hp=> ?_) (fun p hp=> ?_), ?_⟩
   ·obtain⟨q,h1,rfl⟩:=hdm p hp
    exact a8 q h1
   ·obtain⟨q,h1,rfl⟩:=hdm p hp
    exact(ih2 q h1).1
   ·rw [Q7]
    show 1+(([]:List V).map Cv).sum+_≤_
    simp only [List.map_nil,List.sum_nil]
    show 1+0+(((uniq (Iu v.d)).filter Nl).map fun p:Pr=>Cv p.2).sum≤_
    omega
  unfold X7
  split
  ·have:=leaf v.k v.n 0 [] a2 z (by simp);exact⟨this.1,by omega⟩
  split
  ·have:=leaf v.k 0 0 v.s z z a4;exact⟨this.1,by omega⟩
  split
  ·refine⟨.mk _ z z (by simp [V.s]) (fun x hx=> ?_) (n1 _) (n1 _), ?_⟩
   ·obtain⟨y,h1,rfl⟩:=List.mem_map.1 hx
    exact(ih1 y h1).1
   ·rw [Q7]
    show 1+((v.l.map V.plain).map Cv).sum+0≤_
    have:((v.l.map V.plain).map Cv).sum≤(v.l.map Cv).sum:=by
     rw [List.map_map];exact A6c _ _ _ fun x hx=>(ih1 x hx).2
    omega
  split
  ·exact dd _ _ (by simp)
  split
  ·have:=leaf v.k v.n v.g [] a2 a3 (by simp);exact⟨this.1,by omega⟩
  split
  ·exact dd _ _ a4
  ·have:=leaf 0 0 0 [] z z (by simp);exact⟨this.1,by show Cv zero≤_;rw [show Cv zero=1 from this.2];exact hp⟩
end Go.Proofs.Sim.Se
set_option maxRecDepth 100000
namespace Go.Proofs.Sim.Se
open Go Go.Proofs Go.Proofs.Sim Go.Proofs.Sim.Va Go.RowKit
theorem Bey(s:List UInt8):rS (.imm (.str s))=s:=rfl
abbrev txs(l:List (List UInt8)):List (List IV):=l.map fun s=>[.str s]
theorem Ak5(l:List (List UInt8)):(txs l).length=l.length:=List.length_map ..
theorem Btd(xs:List (List UInt8))(hN:Io xs≤100000000000):Call E0.P Aoc [.imm (.sl .any 1 (txs xs)), .imm (.str [32])] [] (Is (.imm (.str (Bn xs))) []):=by
 have h1:=N7 xs
 have h2:=Bpa xs
 refine U3 Tryz.func117 (by kernel_rfl) (by kernel_rfl) [.sl .any 1 (txs xs), .str [32]] _ fun g w vs hv hs=> ?_
 obtain⟨v,u,rfl,hr,hu⟩:=Bi5 hv
 obtain rfl:=Atl hu
 cases hr with |sl a cap _ _ _ b o ws q1 q2 q3 q4 q5 q6 q7 q8 q9=>
 by_cases hx:xs=[]
 ·subst hx
  refine(Tryz.strings_Join_none a cap ⟨([32]:List UInt8).toArray⟩ w).mono ?_
  rintro e w' ⟨rfl,rfl⟩
  exact⟨_, .imm (.str []),rfl,Below.refl _ _, .imm _ _ (.str _ _ rfl),rfl,rfl⟩
 ·have hne:txs xs≠[]:=by
   intro h;apply hx
   have:=congrArg List.length h
   rw [Ak5]at this
   exact List.eq_nil_of_length_eq_zero (by simpa using this)
  have ha:=q5 hne
  subst ha
  rw [Ak5]at q1 ⊢
  have cell:∀j,(hj:j<xs.length)→w.cell? ⟨b,o+j,none⟩=some (.string ⟨(xs[j]).toArray⟩):=by
   intro j hj
   have c1:=q7 j 0 (by rw [Ak5];exact hj) (by omega)
   have c2:=q8 j 0 (by rw [Ak5];exact hj) (by omega)
   have c3:=hs.imm _ _ _ c1
   have e:((txs xs).getD j []).getD 0 default= .str xs[j]:=by simp [List.getD_eq_getElem?_getD,hj]
   rw [e]at c2
   have e2:ws j 0= .string ⟨(xs[j]).toArray⟩:=by
    generalize ws j 0=z at c2
    cases c2 with |str s _ h=>
    have:s=⟨(xs[j]).toArray⟩:=by cases s;simp at h;simp [←h]
    rw [this]
   rw [show o+j=o+j*1+0 by omega,c3,e2]
  have hlt:b<w.heap.size:=by
   obtain⟨n,hn⟩:=List.exists_mem_of_ne_nil xs hx
   have h0:0<xs.length:=List.length_pos_of_mem hn
   have:=cell 0 h0
   rcases Nat.lt_or_ge b w.heap.size with h |h
   ·exact h
   ·simp [World.cell?,Array.getElem?_eq_none h]at this
  have em:(xs.map fun s=>(⟨s.toArray⟩:ByteArray)).map (fun x:ByteArray=>x.data.toList)=xs:=by
   rw [List.map_map,show((fun x:ByteArray=>x.data.toList) ∘ fun s:List UInt8=>(⟨s.toArray⟩:ByteArray))=id from by funext s;simp,List.map_id]
  have hj:=Tryz.strings_Join b o cap (xs.map fun s=>(⟨s.toArray⟩:ByteArray)) ⟨([32]:List UInt8).toArray⟩ w (fun j x hx=>by
   rw [List.getElem?_map]at hx
   by_cases hj:j<xs.length
   ·rw [List.getElem?_eq_getElem hj]at hx
    injection hx with hx
    rw [cell j hj, ←hx]
   ·rw [List.getElem?_eq_none (by omega)]at hx;cases hx) hlt (by rw [List.length_map];omega) (by rw [List.length_map];exact q1) (by
   rw [em]
   show(Bn xs).length≤_
   omega)
  rw [List.length_map,em]at hj
  refine hj.mono ?_
  rintro e w' ⟨rfl,hb⟩
  exact⟨_, .imm (.str (Bn xs)),rfl,hb, .imm _ _ (.str _ _ (by simp [Bn])),rfl,rfl⟩
theorem Ar9(xs:List (List UInt8))(hN:Io xs≤100000000000):Call E0.P Xc [.imm (.sl .any 1 (txs xs))] [] (Is (.imm (.str (Bn xs))) []):=
 Azn _ _ (Call.use (Btd xs hN) ⟨⟨rfl,rfl⟩,⟨rfl,rfl⟩⟩)
def L9(k:Int)(xs:List (List UInt8)):List UInt8:=if k=5 then [91]++Bn xs++[93]else if k=6 then [60,60]++Bn xs++[62,62]else if k=7 then Bn xs++[32,82]else Ayk
theorem Bmv(k:Int)(xs:List (List UInt8))(hN:Io xs≤100000000000):Call E0.P Aed [.imm (.int .i64 k), .imm (.sl .any 1 (txs xs))] [] (Is (.imm (.str (L9 k xs))) []):=by
 have hl:=N7 xs
 have w1:IntKind.i64.wrap ((0:Int)+1)=1:=by decide
 have w2:IntKind.i64.wrap ((1:Int)+1)=2:=by decide
 have w3:IntKind.i64.wrap ((2:Int)+1)=3:=by decide
 have last:U0 k (txs xs) 5 [91] [93] 6 [60,60] [62,62] 7 [] [32,82] 3 (Uv (Is (.imm (.str Ayk)) [])):=by
  refine P6 _ _ _ _ _ _ _ _ _ _ _ _ _ ⟨fun h=>absurd h (by decide),fun _=> ?_⟩
  exact Au3 _ (Ary _ (Au2 _ _ ⟨rfl,rfl⟩))
 refine Azm _ _ _ (P6 _ _ _ _ _ _ _ _ _ _ _ _ _ ⟨fun _=>⟨⟨by decide,rfl⟩, ?_⟩,fun h=>absurd h (by decide)⟩)
 show Br (decide ((5:Int)=k)) _ _
 refine Ce (fun e=> ?_) fun n5=> ?_
 ·subst e
  refine Call.use (Ar9 xs hN) ⟨⟨rfl,rfl⟩,⟨?_,⟨?_,V9 _ _ ⟨rfl,rfl⟩⟩⟩⟩
  ·show(((1+(Bn xs).length:Nat)):Int)≤_
   omega
  ·show(((([91]++Bn xs:List UInt8).length+1:Nat)):Int)≤_
   rw [List.length_append];simp only [List.length_cons,List.length_nil];omega
 rw [w1]
 refine P6 _ _ _ _ _ _ _ _ _ _ _ _ _ ⟨fun _=>⟨⟨by decide,rfl⟩, ?_⟩,fun h=>absurd h (by decide)⟩
 show Br (decide ((6:Int)=k)) _ _
 refine Ce (fun e=> ?_) fun n6=> ?_
 ·subst e
  refine Call.use (Ar9 xs hN) ⟨⟨rfl,rfl⟩,⟨?_,⟨?_,V9 _ _ ⟨rfl,rfl⟩⟩⟩⟩
  ·show(((2+(Bn xs).length:Nat)):Int)≤_
   omega
  ·show(((([60,60]++Bn xs:List UInt8).length+2:Nat)):Int)≤_
   rw [List.length_append];simp only [List.length_cons,List.length_nil];omega
 rw [w2]
 refine P6 _ _ _ _ _ _ _ _ _ _ _ _ _ ⟨fun _=>⟨⟨by decide,rfl⟩, ?_⟩,fun h=>absurd h (by decide)⟩
 show Br (decide ((7:Int)=k)) _ _
 refine Ce (fun e=> ?_) fun n7=> ?_
 ·subst e
  refine Call.use (Ar9 xs hN) ⟨⟨rfl,rfl⟩,⟨?_,⟨?_,V9 _ _ ⟨rfl,rfl⟩⟩⟩⟩
  ·show(((0+(Bn xs).length:Nat)):Int)≤_
   omega
  ·show(((([]++Bn xs:List UInt8).length+2:Nat)):Int)≤_
   rw [List.nil_append];omega
 rw [w3,L9,if_neg (Ne.symm n5),if_neg (Ne.symm n6),if_neg (Ne.symm n7)]
 exact last
abbrev Amn(v:V):Prop:=Call E0.P Tt [.imm (.agg v.row)] [] (Is (.imm (.str v.wr)) [])
theorem Bj7 {l:List V} {i:Nat} (h:i<l.length):J8 l i=l[i]:=by simp [J8,List.getD_eq_getElem?_getD,h]
theorem Bg5 {l:List Pr} {i:Nat} (h:i<l.length):Bq l i=l[i]:=by simp [Bq,List.getD_eq_getElem?_getD,h]
theorem Bac {α β:Type} (f:α→β)(l:List α)(i:Nat)(h:i<l.length):(l.take (i+1)).map f=(l.take i).map f++[f l[i]]:=by
 have:l[i]?.toList=[l[i]]:=by simp [h]
 rw [List.take_add_one,this,List.map_append];rfl
abbrev Bka(a b c:Int)(s:List UInt8)(p q:List (List IV)):Heap:=[(Nm.loc 1, .blk Aa [.imm (.int .i64 a), .imm (.int .i64 b), .imm (.int .i64 c), .imm (.str s), .imm (.sl .any 6 p), .imm (.sl .any 7 q)])]
theorem Bs4(v:V)(hl:v.l.length≤1000000)(ih:∀x∈v.l,Amn x)(a b c:Int)(s:List UInt8)(p q:List (List IV))(K:Ex→St→Prop)
 (hE:K (.exit 1) ⟨[(1, .ptr (Nm.loc 1) 0),(3, .own (Nm.loc 3))],Bka a b c s p q++[(Nm.loc 3, .arr (Rk+2) true 1 (txs (v.l.map V.wr)))]⟩):
 ∀(m i:Nat),m+i=v.l.length→U1 (H7 v.l) v.l.length i a b c s p q (txs ((v.l.take i).map V.wr)) K:=by
 intro m
 induction m with
 |zero=>
  intro i hi
  refine Ae0 _ _ _ _ _ _ _ _ _ _ _ (Ce (fun h=>by omega) fun _=> ?_)
  rw [List.take_of_length_le (by omega)]
  exact hE
 |succ m ihm=>
  intro i hi
  have hlt:i<v.l.length:=by omega
  refine Ae0 _ _ _ _ _ _ _ _ _ _ _ (Ce (fun _=> ?_) fun h=>by omega)
  rw [show(H7 v.l).getD (Int.toNat (i:Int)) []=(J8 v.l i).row from Ue _ _ hlt,Ep,Er,Jk i (by omega),Bj7 hlt]
  refine⟨⟨⟨by omega,by omega⟩,Uf _ _ _⟩,Call.use (ih _ (List.getElem_mem hlt)) ⟨⟨rfl,rfl⟩,⟨?_, ?_⟩⟩⟩
  ·rw [Ak5,List.length_map,List.length_take];constructor<;>omega
  ·have:=ihm (i+1) (by omega)
   rw [Bac V.wr _ _ hlt,show txs ((v.l.take i).map V.wr++[v.l[i].wr])=txs ((v.l.take i).map V.wr)++[[.str v.l[i].wr]]by simp [txs]]at this
   exact this
theorem Bs3(v:V)(hl:v.d.length≤1000000)(hk:∀x∈v.d,x.1.length≤3000)(hz:∀x∈v.d,Io [Cm x.1,x.2.wr]≤100000000000)(ih:∀x∈v.d,Amn x.2)(a b c:Int)(s:List UInt8)(p q:List (List IV))(K:Ex→St→Prop)
 (hE:K (.exit 3) ⟨[(1, .ptr (Nm.loc 1) 0),(3, .own (Nm.loc 3))],Bka a b c s p q++[(Nm.loc 3, .arr (Rk+2) true 1 (txs (v.d.map fun x=>Bn [Cm x.1,x.2.wr])))]⟩):
 ∀(m i:Nat),m+i=v.d.length→U2 (Bj v.d) v.d.length i a b c s p q (txs ((v.d.take i).map fun x=>Bn [Cm x.1,x.2.wr])) K:=by
 intro m
 induction m with
 |zero=>
  intro i hi
  refine Ae1 _ _ _ _ _ _ _ _ _ _ _ (Ce (fun h=>by omega) fun _=> ?_)
  rw [List.take_of_length_le (by omega)]
  exact hE
 |succ m ihm=>
  intro i hi
  have hlt:i<v.d.length:=by omega
  have hm:=List.getElem_mem hlt
  have hk:=hk _ hm
  refine Ae1 _ _ _ _ _ _ _ _ _ _ _ (Ce (fun _=> ?_) fun h=>by omega)
  rw [show(Bj v.d).getD (Int.toNat (i:Int)) []=Bl (Bq v.d i) from Nn _ _ hlt,Le,Bet,A9,Jk i (by omega),Bg5 hlt]
  refine⟨⟨⟨by omega,by omega⟩,Dp _ _ _⟩,Call.use (Aws _ (by omega)) ⟨⟨rfl,rfl⟩,Call.use (ih _ hm) ⟨⟨rfl,rfl⟩,Call.use (Ar9 [Cm v.d[i].1,v.d[i].2.wr] (hz _ hm)) ⟨⟨rfl,rfl⟩,⟨?_, ?_⟩⟩⟩⟩⟩
  ·rw [Ak5,List.length_map,List.length_take];constructor<;>omega
  ·have:=ihm (i+1) (by omega)
   rw [Bac (fun x:Pr=>Bn [Cm x.1,x.2.wr]) _ _ hlt,show txs ((v.d.take i).map (fun x:Pr=>Bn [Cm x.1,x.2.wr])++[Bn [Cm v.d[i].1,v.d[i].2.wr]])=txs ((v.d.take i).map fun x:Pr=>Bn [Cm x.1,x.2.wr])++[[.str (Bn [Cm v.d[i].1,v.d[i].2.wr])]]by simp [txs]]at this
   exact this
theorem Bah(v:V)(h1:v.k≠1)(h2:v.k≠2)(h3:v.k≠3)(h4:v.k≠4):v.wr=if v.k=5 then L9 v.k (v.l.map V.wr)else if v.k=6 then L9 v.k (v.d.map fun x=>Bn [Cm x.1,x.2.wr])else if v.k=7 then L9 v.k [Lib.itoa v.n,Lib.itoa v.g]else L9 v.k []:=by
 rw [Ou,mkW,if_neg h1,if_neg h2,if_neg h3,if_neg h4]
 by_cases h5:v.k=5
 ·rw [if_pos h5,if_pos h5,L9,if_pos h5]
 rw [if_neg h5,if_neg h5]
 by_cases h6:v.k=6
 ·rw [if_pos h6,if_pos h6,L9,if_neg h5,if_pos h6,List.map_map];rfl
 rw [if_neg h6,if_neg h6]
 by_cases h7:v.k=7
 ·rw [if_pos h7,if_pos h7,L9,if_neg h5,if_neg h6,if_pos h7]
 rw [if_neg h7,if_neg h7,L9,if_neg h5,if_neg h6,if_neg h7]
theorem Bqw(n:Int):Call E0.P Aiz [.imm (.int .i64 n)] [] (Is (.imm (.str (if n=1 then A6d else Axr))) []):=
 A4g _ _ (Ce (fun h=>by rw [if_pos h];exact⟨rfl,rfl⟩) fun h=>by rw [if_neg h];exact⟨rfl,rfl⟩)
theorem Bm5(v:V)(h:SmW v):Amn v:=by
 induction h with
 |mk v b1 b2 b3 b4 b5 b6 b7 b8 b9 b10 ih1 ih2=>
  have hz:∀x∈v.d,Io [Cm x.1,x.2.wr]≤100000000000:=by
   intro x hx
   have:=A3k _ _ (List.mem_map.2 ⟨x,hx,rfl⟩:Bn [Cm x.1,x.2.wr]∈v.d.map fun p=>Bn [Cm p.1,p.2.wr])
   rw [Aod]at this
   simp [Io];omega
  have i1:=Pp v.n b1.1 b1.2
  have i2:=Pp v.g b2.1 b2.2
  have cut:∀(xs:List (List UInt8)) (Q:AV→Heap→Prop),Io xs≤100000000000→Q (.imm (.str (L9 v.k xs))) []→Lv (txs xs) v.k v.n v.g v.s (v.l.map V.row) (v.d.map Bl) (E8 Q):=by
   intro xs Q hx hq
   exact Aun _ _ _ _ _ _ _ _ (Call.use (Bmv v.k xs hx) ⟨⟨rfl,rfl⟩,Awm _ _ hq⟩)
  rw [Amn,Db]
  refine A1d _ _ _ _ _ _ _ (Ce (fun h=> ?_) fun h1=>Ce (fun h=> ?_) fun h2=>Ce (fun h=> ?_) fun h3=>Ce (fun h=> ?_) fun h4=> ?_)
  ·refine Call.use (Bqw _) ⟨⟨rfl,rfl⟩, ?_⟩
   rw [Ou,mkW,if_pos h];exact⟨rfl,rfl⟩
  ·refine Call.use (Ads _ b1.1 b1.2) ⟨⟨rfl,rfl⟩, ?_⟩
   rw [Ou,mkW,if_neg h1,if_pos h];exact⟨rfl,rfl⟩
  ·refine Call.use (Aws _ (by omega)) ⟨⟨rfl,rfl⟩, ?_⟩
   rw [Ou,mkW,if_neg h1,if_neg h2,if_pos h];exact⟨rfl,rfl⟩
  ·refine Call.use (Baw _ (by omega)) ⟨⟨rfl,rfl⟩, ?_⟩
   rw [Ou,mkW,if_neg h1,if_neg h2,if_neg h3,if_pos h];exact⟨rfl,rfl⟩
  ·rw [Bah v h1 h2 h3 h4]
   refine Ce (fun h=> ?_) fun h5=>Ce (fun h=> ?_) fun h6=>Ce (fun h=> ?_) fun h7=> ?_
   ·rw [if_pos h,List.length_map]
    exact Bs4 v b4 ih1 _ _ _ _ _ _ _ (Awn _ _ _ _ _ _ _ _ (cut _ _ (by omega) ⟨rfl,rfl⟩)) v.l.length 0 rfl
   ·rw [if_neg h5,if_pos h,List.length_map]
    exact Bs3 v b5 b8 hz ih2 _ _ _ _ _ _ _ (Awo _ _ _ _ _ _ _ _ (cut _ _ (by omega) ⟨rfl,rfl⟩)) v.d.length 0 rfl
   ·rw [if_neg h5,if_neg h6,if_pos h]
    refine Call.use (Ads _ b1.1 b1.2) ⟨⟨rfl,rfl⟩,Call.use (Ads _ b2.1 b2.2) ⟨⟨rfl,rfl⟩, ?_⟩⟩
    exact cut [Lib.itoa v.n,Lib.itoa v.g] _ (by simp [Io];omega) ⟨rfl,rfl⟩
   ·rw [if_neg h5,if_neg h6,if_neg h7]
    exact cut [] _ (by simp [Io]) ⟨rfl,rfl⟩
abbrev Bb5(v:V):Prop:=Call E0.P X3 [.imm (.agg v.row)] [] (Is (.imm (.str v.wr)) [])
theorem Bs1(v:V)(hl:v.l.length≤1000000)(hz:Io (v.l.map V.wr)≤10000000000)(ih:∀x∈v.l,Bb5 x)(a b c:Int)(s:List UInt8)(q:List (List IV))(K:Ex→St→Prop)
 (hE:K (.exit 1) ⟨[(3, .imm (.str (Bn (v.l.map V.wr))))],[]⟩):
 ∀(m i:Nat),m+i=v.l.length→Y3 (Bn ((v.l.map V.wr).take i)) i a b c s (H7 v.l) q K:=by
 intro m
 induction m with
 |zero=>
  intro i hi
  refine Ajt _ _ _ _ _ _ _ _ _ (Ce (fun h=>by rw [Er]at h;omega) fun _=> ?_)
  rw [List.take_of_length_le (by rw [List.length_map];omega)]
  exact hE
 |succ m ihm=>
  intro i hi
  have hlt:i<v.l.length:=by omega
  have hlt':i<(v.l.map V.wr).length:=by rw [List.length_map];exact hlt
  have hj:=Aw9 (v.l.map V.wr) i hlt'
  have hg:(v.l.map V.wr)[i]=v.l[i].wr:=by simp
  rw [hg]at hj
  have l1:=N7 ((v.l.map V.wr).take i)
  have l2:=Axo (v.l.map V.wr) i
  have l3:=A3k _ _ (List.mem_map.2 ⟨v.l[i],List.getElem_mem hlt,rfl⟩:v.l[i].wr∈v.l.map V.wr)
  have fin:∀t:List UInt8,t.length≤10000000001→t++v.l[i].wr=Bn ((v.l.map V.wr).take (i+1))→Yd t i a b c s (H7 v.l) q (Vo K):=by
   intro t ht he
   refine Ay5 _ _ _ _ _ _ _ _ _ ?_
   rw [show(H7 v.l).getD (Int.toNat (i:Int)) []=(J8 v.l i).row from Ue _ _ hlt,Ep,Er,Bj7 hlt]
   refine⟨⟨⟨by omega,by omega⟩,Uf _ _ _⟩,Call.use (ih _ (List.getElem_mem hlt)) ⟨⟨rfl,rfl⟩,⟨?_, ?_⟩⟩⟩
   ·show(((t.length+v.l[i].wr.length:Nat)):Int)≤_
    omega
   ·show Vo K .normal ⟨[(1, .ptr (Nm.loc 1) 0),(3, .imm (.str (t++v.l[i].wr))),(4, .imm (.int .i64 i))],_⟩
    rw [he]
    refine A2e _ _ _ _ _ _ _ _ _ (Ay6 _ _ _ _ _ _ _ _ _ ?_)
    rw [Jk i (by omega)]
    exact A2d _ _ _ _ _ _ _ _ _ (ihm (i+1) (by omega))
  refine Ajt _ _ _ _ _ _ _ _ _ (Ce (fun _=>Ce (fun h0=>⟨?_,fin _ ?_ ?_⟩) fun h0=>fin _ ?_ ?_) fun h=>by rw [Er]at h;omega)
  ·omega
  ·simp;omega
  ·rw [hj,if_pos (by omega)]
  ·omega
  ·rw [hj,if_neg (by omega)]
theorem Bs0(v:V)(hl:v.d.length≤1000000)(hk:∀x∈v.d,x.1.length≤3000)(hz:Io (v.d.map fun x=>Bn [Cm x.1,x.2.wr])≤10000000000)(ih:∀x∈v.d,Bb5 x.2)(a b c:Int)(s:List UInt8)(q:List (List IV))(K:Ex→St→Prop)
 (hE:K (.exit 3) ⟨[(5, .imm (.str (Bn (v.d.map fun x=>Bn [Cm x.1,x.2.wr]))))],[]⟩):
 ∀(m i:Nat),m+i=v.d.length→Y4 (Bn ((v.d.map fun x=>Bn [Cm x.1,x.2.wr]).take i)) i a b c s q (Bj v.d) K:=by
 intro m
 induction m with
 |zero=>
  intro i hi
  refine Aju _ _ _ _ _ _ _ _ _ (Ce (fun h=>by rw [A9]at h;omega) fun _=> ?_)
  rw [List.take_of_length_le (by rw [List.length_map];omega)]
  exact hE
 |succ m ihm=>
  intro i hi
  have hlt:i<v.d.length:=by omega
  have hm:=List.getElem_mem hlt
  have hk:=hk _ hm
  have hlt':i<(v.d.map fun x=>Bn [Cm x.1,x.2.wr]).length:=by rw [List.length_map];exact hlt
  have hj:=Aw9 (v.d.map fun x=>Bn [Cm x.1,x.2.wr]) i hlt'
  have hg:(v.d.map fun x=>Bn [Cm x.1,x.2.wr])[i]=Cm v.d[i].1++[32]++v.d[i].2.wr:=by simp [Rh]
  rw [hg]at hj
  have l1:=N7 ((v.d.map fun x=>Bn [Cm x.1,x.2.wr]).take i)
  have l2:=Axo (v.d.map fun x=>Bn [Cm x.1,x.2.wr]) i
  have l3:=A3k _ _ (List.mem_map.2 ⟨v.d[i],hm,rfl⟩:Bn [Cm v.d[i].1,v.d[i].2.wr]∈v.d.map fun x=>Bn [Cm x.1,x.2.wr])
  rw [Aod]at l3
  have fin:∀t:List UInt8,t.length≤10000000001→t++(Cm v.d[i].1++[32]++v.d[i].2.wr)=Bn ((v.d.map fun x=>Bn [Cm x.1,x.2.wr]).take (i+1))→Ye t i a b c s q (Bj v.d) (Vp K):=by
   intro t ht he
   refine Ay8 _ _ _ _ _ _ _ _ _ ?_
   rw [show(Bj v.d).getD (Int.toNat (i:Int)) []=Bl (Bq v.d i) from Nn _ _ hlt,Le,Bet,A9,Bg5 hlt]
   have rng:((0:Int)≤(i:Int)∧(i:Int)<(v.d.length:Int))∧Bt [.str, .int .i64, .int .i64, .int .i64, .str, .sl 6 Aa, .sl 7 Ag] (Bl v.d[i])=true:=⟨⟨by omega,by omega⟩,Dp _ _ _⟩
   refine⟨rng,⟨rng,Call.use (A43 _ (by omega)) ⟨⟨rfl,rfl⟩,⟨?_,⟨?_,Call.use (ih _ hm) ⟨⟨rfl,rfl⟩,⟨?_, ?_⟩⟩⟩⟩⟩⟩⟩
   ·show(((t.length+(Cm v.d[i].1).length:Nat)):Int)≤_
    omega
   ·show((((t++Cm v.d[i].1).length+1:Nat)):Int)≤_
    rw [List.length_append];omega
   ·show((((t++Cm v.d[i].1++[32]).length+v.d[i].2.wr.length:Nat)):Int)≤_
    rw [List.length_append,List.length_append];simp only [List.length_cons,List.length_nil];omega
   ·show Vp K .normal ⟨[(1, .ptr (Nm.loc 1) 0),(5, .imm (.str (t++Cm v.d[i].1++[32]++v.d[i].2.wr))),(6, .imm (.int .i64 i))],_⟩
    rw [show t++Cm v.d[i].1++[32]++v.d[i].2.wr=t++(Cm v.d[i].1++[32]++v.d[i].2.wr)by simp,he]
    refine A2g _ _ _ _ _ _ _ _ _ (Ay9 _ _ _ _ _ _ _ _ _ ?_)
    rw [Jk i (by omega)]
    exact A2f _ _ _ _ _ _ _ _ _ (ihm (i+1) (by omega))
  refine Aju _ _ _ _ _ _ _ _ _ (Ce (fun _=>Ce (fun h0=>⟨?_,fin _ ?_ ?_⟩) fun h0=>fin _ ?_ ?_) fun h=>by rw [A9]at h;omega)
  ·omega
  ·simp;omega
  ·rw [hj,if_pos (by omega)]
  ·omega
  ·rw [hj,if_neg (by omega)]
theorem Bj0(v:V)(h:SmW v):Bb5 v:=by
 induction h with
 |mk v b1 b2 b3 b4 b5 b6 b7 b8 b9 b10 ih1 ih2=>
  have i1:=Pp v.n b1.1 b1.2
  have i2:=Pp v.g b2.1 b2.2
  rw [Bb5,Db]
  refine A6w _ _ _ _ _ _ _ (Ce (fun h=>Ce (fun h2=> ?_) fun h2=> ?_) fun h1=>Ce (fun h=> ?_) fun h2=>Ce (fun h=> ?_) fun h3=>Ce (fun h=> ?_) fun h4=> ?_)
  ·rw [Ou,mkW,if_pos h,if_pos h2];exact⟨rfl,rfl⟩
  ·rw [Ou,mkW,if_pos h,if_neg h2];exact⟨rfl,rfl⟩
  ·refine Call.use (Ahg _ b1.1 b1.2) ⟨⟨rfl,rfl⟩, ?_⟩
   rw [Ou,mkW,if_neg h1,if_pos h];exact⟨rfl,rfl⟩
  ·refine Call.use (A43 _ (by omega)) ⟨⟨rfl,rfl⟩, ?_⟩
   rw [Ou,mkW,if_neg h1,if_neg h2,if_pos h];exact⟨rfl,rfl⟩
  ·refine Call.use (Bfo _ (by omega)) ⟨⟨rfl,rfl⟩, ?_⟩
   rw [Ou,mkW,if_neg h1,if_neg h2,if_neg h3,if_pos h];exact⟨rfl,rfl⟩
  ·rw [Bah v h1 h2 h3 h4]
   have j1:=N7 (v.l.map V.wr)
   have j2:=N7 (v.d.map fun x=>Bn [Cm x.1,x.2.wr])
   refine Ce (fun h=> ?_) fun h5=>Ce (fun h=> ?_) fun h6=>Ce (fun h=> ?_) fun h7=> ?_
   ·rw [if_pos h]
    refine Bs1 v b4 b6 ih1 _ _ _ _ _ _ (A2b _ _ (Ay7 _ _ ⟨by omega,⟨by simp only [List.length_append,List.length_cons,List.length_nil];omega,Al3 _ _ ?_⟩⟩)) v.l.length 0 rfl
    rw [L9,if_pos h];exact⟨rfl,rfl⟩
   ·rw [if_neg h5,if_pos h]
    refine Bs0 v b5 b8 b7 ih2 _ _ _ _ _ _ (A2c _ _ (Aza _ _ ⟨by omega,⟨by simp only [List.length_append,List.length_cons,List.length_nil];omega,Al3 _ _ ?_⟩⟩)) v.d.length 0 rfl
    rw [L9,if_neg h5,if_pos h];exact⟨rfl,rfl⟩
   ·rw [if_neg h5,if_neg h6,if_pos h]
    refine Call.use (Ahg _ b1.1 b1.2) ⟨⟨rfl,rfl⟩, ?_⟩
    rw [Bey]
    refine⟨by omega,Call.use (Ahg _ b2.1 b2.2) ⟨⟨rfl,rfl⟩, ?_⟩⟩
    rw [Bey]
    refine⟨by rw [List.length_append];simp only [List.length_cons,List.length_nil];omega,⟨by rw [List.length_append,List.length_append];simp only [List.length_cons,List.length_nil];omega, ?_⟩⟩
    rw [L9,if_neg h5,if_neg h6,if_pos h,Rh]
    have:Lib.itoa v.n++(([Lib.itoa v.g].map fun t=>(32:UInt8)::t).flatten)++[32,82]=Lib.itoa v.n++[32]++Lib.itoa v.g++[32,82]:=by simp
    rw [this];exact⟨rfl,rfl⟩
   ·rw [if_neg h5,if_neg h6,if_neg h7,L9,if_neg h5,if_neg h6,if_neg h7]
    exact Azb _ (A2a _ _ ⟨rfl,rfl⟩)
end Go.Proofs.Sim.Se
set_option maxRecDepth 100000
namespace Go.Proofs.Sim.Se
open Go Go.Proofs Go.Proofs.Sim Go.Proofs.Sim.Va Go.Proofs.Sim.St Go.RowKit
def Bdq(t:List UInt8 × Int):AV:= .tup [.imm (.str t.1), .imm (.int .i64 t.2)]
theorem tx0(t:List UInt8 × Int):rS (rT (Bdq t) 0)=t.1:=rfl
theorem tx1(t:List UInt8 × Int):rI (rT (Bdq t) 1)=t.2:=rfl
theorem Bcf(v:V)(hs:Scal v)(hc:Cv v≤1000):Call E0.P Aiy [.imm (.agg v.row)] [] (Is (Bdq (Kv v)) []):=by
 have hf:=Aq3 1000 (by omega) _ v (Nat.le_refl _) hc
 obtain⟨p1,p2⟩:=A54 hs
 have h1:=Bqi v hf false
 have h2:Ni v:=A7p v hf
 have h3:Amn v.plain:=Bm5 _ (Be7 p1 (by omega))
 rw [Ni]at h2
 rw [Db]at h1 h2 ⊢
 refine A4e _ _ _ _ _ _ _ (Call.use h1 ⟨⟨rfl,rfl⟩, ?_⟩)
 rw [Fy,Kv]
 refine⟨fun h=> ?_,fun h=> ?_⟩
 ·rw [if_pos (ndT h)];exact⟨rfl,rfl⟩
 ·rw [if_neg (by simpa using ndF h)]
  refine Call.use h2 ⟨⟨rfl, ?_⟩, ?_⟩
  ·rw [Aep,Ep]
  rw [Aep,Ep]
  exact Call.use h3 ⟨⟨rfl,rfl⟩,⟨rfl,rfl⟩⟩
theorem Bhq(v:V)(hs:Scal v)(hc:Cv v≤1000):Call E0.P Apb [.imm (.agg v.row)] [] (Is (Bdq (Kv v)) []):=by
 have hf:=Aq3 1000 (by omega) _ v (Nat.le_refl _) hc
 obtain⟨p1,p2⟩:=A54 hs
 have h1:=Bfn v hf (Bl1 hs) false
 have h2:Xq v:=Bmu v hf
 have h3:Bb5 v.plain:=Bj0 _ (Be7 p1 (by omega))
 rw [Xq]at h2
 rw [Db]at h1 h2 ⊢
 refine Bao _ _ _ _ _ _ _ (Call.use h1 ⟨⟨rfl,rfl⟩, ?_⟩)
 rw [Fy,Kv]
 refine⟨fun h=> ?_,fun h=> ?_⟩
 ·rw [if_pos (ndT h)];exact⟨rfl,rfl⟩
 ·rw [if_neg (by simpa using ndF h)]
  refine Call.use h2 ⟨⟨rfl, ?_⟩, ?_⟩
  ·rw [Aep,Ep]
  rw [Aep,Ep]
  exact Call.use h3 ⟨⟨rfl,rfl⟩,⟨rfl,rfl⟩⟩
end Go.Proofs.Sim.Se
