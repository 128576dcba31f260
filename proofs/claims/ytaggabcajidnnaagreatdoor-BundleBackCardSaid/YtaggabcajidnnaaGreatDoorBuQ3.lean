import Derived.Test.YtaggabcajidnnaaGreatDoorBuB
import Derived.Test.YtaggabcajidnnaaGreatDoorSimR
import Derived.Test.YtaggabcajidnnaaGreatDoorCards
import Derived.Test.YtaggabcajidnnaaGreatDoorTie
import Derived.WalkKit
import Derived.ProofKit
import Derived.OpenShut
import Derived.Deep.DeepHandedRow
import Derived.Lib.LaidTab
import Derived.Stop.LaidErr
import Derived.ChangeMaps
namespace Go.Proofs.YtaggabcajidnnaaGreatDoor
open Go Go.ChangeShapes Go.WideShapes Go.ChangeAt Go.RowKit Go.Proofs.Sim Go.Proofs.Sim.Se Go.Proofs.Sim.Va
open Go.ChangeMaps (open_string shut_string)
set_option maxRecDepth 100000
theorem Bfx {P:Program} {W:World} {n:String} {g:Nat} {cs:Array Value} (hg:P.globalNamed n=some g)(h:W.var? P n=some cs):∃T fz,W.heap[g]? =some (.cells cs T fz):=by
 unfold World.var? at h
 rw [hg]at h
 simp only [Option.bind_some]at h
 split at h
 ·rename_i c T fz hh;injection h with h;subst h;exact⟨T,fz,hh⟩
 ·cases h
theorem Bhb(k n:Nat)(vs:List Value)(h:k≠n):A7o [(k,vs)] n=none:=by
 unfold A7o
 cases hb:Nat.beq k n with
 |true=>exact absurd (Nat.eq_of_beq_eq_true hb) h
 |false=>rfl
theorem tabs {W:World} (h:laidMetH Tryz.prog Rows.bundleBackRow.laid W):TabOK (fun b o=>W.cell? ⟨b,o,none⟩) (fun b=>W.heap[b]?):=by
 have h:laidMet Tryz.prog Rows.bundleBackRow.laid W:=h
 have h3:=laidMet.tail (laidMet.tail h)
 have ht:Lib.TabIs Tryz.prog W "internal/strconv.uint64pow10" .u64 Lib.pow10Tab:=
  Lib.tabIs_of_head (g:=1) (t:=185) (by kernel_rfl) (by kernel_rfl) Tryz.underlying185 Tryz.underlying168 (by kernel_rfl) (by kernel_rfl) h3
 obtain⟨T,fz,e3⟩:=Bfx (g:=1) (by kernel_rfl) ht
 refine⟨fun gl cells hg j hj=> ?_,fun gl vs hg=> ?_⟩
 ·exact absurd hg (by rw [show glk Bi9 gl=none from rfl];simp)
 ·by_cases e:1=gl
  ·subst e
   obtain rfl:(Lib.pow10Tab.map fun z=>Value.int .u64 z)=vs:=Option.some.inj hg
   exact⟨T,fz,e3⟩
  ·exact absurd hg (by rw [show A7o Bja gl=none from Bhb _ _ _ e];simp)
noncomputable def laidWorld(os:Os):World:=
 let w0:=World.holding Tryz.prog os ⟨#[], #[],[]⟩
 let put (h:Array Obj) (g:Nat) (cs:Array Value):Array Obj:=h.modify g fun
  | .cells _ t frozen=> .cells cs t frozen
  |o=>o
 let h2:=put w0.heap 1 (Lib.pow10Tab.map fun z=>Value.int .u64 z).toArray
 let h3:=put h2 2 (#[0,1,28,2,29,14,24,3,30,22,20,15,25,17,4,8,31,27,13,23,21,19,16,7,26,12,18,6,11,5,10,9].map fun z=>Value.int .u8 z)
 let h4:=put h3 3 (#[0,1,56,2,57,49,28,3,61,58,42,50,38,29,17,4,62,47,59,36,45,43,51,22,53,39,33,30,24,18,12,5,63,55,48,27,60,41,37,16,46,35,44,21,52,32,23,11,54,26,40,15,34,20,31,10,25,14,19,9,13,8,7,6].map fun z=>Value.int .u8 z)
 { w0 with heap:=h4 }
theorem laid_met(os:Os)(args:Array Value):laidMet Tryz.prog Rows.bundleBackRow.laid ((laidWorld os).forCall (fun _ _=>0) ⟨#[],args,[]⟩).memory:=
 laidMet_of_run' 8 (by kernel_rfl) (by kernel_rfl)
theorem own:ownKnob Tryz.prog.godebug=none:=by kernel_rfl
theorem laidOut:laidOutB Tryz.prog=true:=by kernel_rfl
theorem A76 {α:Type} {f:α→List IV} {p:α→Prop} (rows:List (List IV))(h:∀r∈rows,∃x:α,r=f x∧p x):∃l:List α,rows=l.map f∧∀x∈l,p x:=by
 induction rows with
 |nil=>exact⟨[],rfl,fun x hx=>by cases hx⟩
 |cons r rows ih=>
  obtain⟨l,rfl,hl⟩:=ih fun x hx=>h x (by simp [hx])
  obtain⟨x,rfl,hx⟩:=h r (by simp)
  refine⟨x::l,rfl,fun y hy=> ?_⟩
  rcases List.mem_cons.1 hy with rfl |hy
  ·exact hx
  ·exact hl y hy
theorem A83 {P:Program} {W:World} {t e:TypeId} {v:Value} {base:Nat} (hu:P.underlying t=some (.slice e))(h:Value.okWide P W .any base t v):∀cs,v≠ .agg cs:=by
 intro cs hc
 subst hc
 simp [Value.okWide,hu,Cell.okWide,Cell.ok]at h
theorem Bcy {n:Int} (h:(Lit.int .i64 n).wf=true):Qy n:=by
 simp [Lit.wf,IntKind.min,IntKind.max,IntKind.signed,IntKind.bits]at h;exact⟨by omega,by omega⟩
theorem c6:Tryz.prog.cellsOf 28=6:=by kernel_rfl
theorem c7:Tryz.prog.cellsOf 53=7:=by kernel_rfl
theorem Bog {t:TypeId} {l:List IV} (h:Ty Tryz.prog t l):(t=28→∃v:V,l=v.row∧Wf v)∧(t=53→∃p:Pr,l=Bf p∧(p.1.length≤9223372036854775807∧Wf p.2))∧
 (t=25→∃vs:List V,l=[.sl .any 6 (vs.map V.row)]∧vs.length≤9223372036854775807∧∀v∈vs,Wf v)∧(t=26→∃ps:List Pr,l=[.sl .any 7 (ps.map Bf)]∧ps.length≤9223372036854775807∧∀p∈ps,p.1.length≤9223372036854775807∧Wf p.2):=by
 have uV:=Tryz.underlying28
 have uP:=Tryz.underlying53
 have uVs:=Tryz.underlying25
 have uPs:=Tryz.underlying26
 induction h with
 |bool t b hu=>refine⟨fun e=> ?_,fun e=> ?_,fun e=> ?_,fun e=> ?_⟩<;>subst e<;>simp_all
 |int t k n hu hw=>refine⟨fun e=> ?_,fun e=> ?_,fun e=> ?_,fun e=> ?_⟩<;>subst e<;>simp_all
 |str t s hu hs=>refine⟨fun e=> ?_,fun e=> ?_,fun e=> ?_,fun e=> ?_⟩<;>subst e<;>simp_all
 |sl t e rows hu hr hlen ih=>
  refine⟨fun e'=> ?_,fun e'=> ?_,fun e'=> ?_,fun e'=> ?_⟩
  ·subst e';rw [uV]at hu;cases hu
  ·subst e';rw [uP]at hu;cases hu
  ·subst e'
   rw [uVs]at hu
   injection hu with hu
   injection hu with hu
   subst hu
   obtain⟨vs,rfl,hvs⟩:=A76 (f:=V.row) (p:=Wf) rows fun r hr'=>(ih r hr').1 rfl
   refine⟨vs,by rw [c6], ?_,hvs⟩
   rw [List.length_map]at hlen
   exact hlen
  ·subst e'
   rw [uPs]at hu
   injection hu with hu
   injection hu with hu
   subst hu
   obtain⟨ps,rfl,hps⟩:=A76 (f:=Bf) (p:=fun p:Pr=>p.1.length≤9223372036854775807∧Wf p.2) rows fun r hr'=>(ih r hr').2.1 rfl
   refine⟨ps,by rw [c7], ?_,hps⟩
   rw [List.length_map]at hlen
   exact hlen
 |struct t fs ls hu hl hf ih=>
  refine⟨fun e'=> ?_,fun e'=> ?_,fun e'=> ?_,fun e'=> ?_⟩
  ·subst e'
   rw [uV]at hu
   injection hu with hu
   injection hu with hu
   subst hu
   obtain⟨k,e0,w0⟩:=Gg Tryz.underlying3 (hf 0 _ rfl)
   obtain⟨n,e1,w1⟩:=Gg Tryz.underlying3 (hf 1 _ rfl)
   obtain⟨g,e2,w2⟩:=Gg Tryz.underlying3 (hf 2 _ rfl)
   obtain⟨s,e3,w3⟩:=Bfw Tryz.underlying9 (hf 3 _ rfl)
   obtain⟨vs,e4,w4,w4'⟩:=(ih 4 _ rfl).2.2.1 rfl
   obtain⟨ps,e5,w5,w5'⟩:=(ih 5 _ rfl).2.2.2 rfl
   match ls,hl with
   | [l0,l1,l2,l3,l4,l5],_=>
     simp only [List.getD_cons_zero,List.getD_cons_succ]at e0 e1 e2 e3 e4 e5
     subst e0 e1 e2 e3 e4 e5
     refine⟨.mk k n g s vs ps, ?_, .mk _ (Bcy w0) (Bcy w1) (Bcy w2) w3 w4 w5 w4' (fun p hp=>(w5' p hp).1) (fun p hp=>(w5' p hp).2)⟩
     rw [Co];rfl
  ·subst e'
   rw [uP]at hu
   injection hu with hu
   injection hu with hu
   subst hu
   obtain⟨s,e0,w0⟩:=Bfw Tryz.underlying9 (hf 0 _ rfl)
   obtain⟨v,e1,w1⟩:=(ih 1 _ rfl).1 rfl
   match ls,hl with
   | [l0,l1],_=>
     simp only [List.getD_cons_zero,List.getD_cons_succ]at e0 e1
     subst e0 e1
     exact⟨(s,v),by simp [Bf],w0,w1⟩
  ·subst e';rw [uVs]at hu;cases hu
  ·subst e';rw [uPs]at hu;cases hu
def objTypes:List TypeId:=[22,44,26,53,28,25,9,3]
theorem A9p:objTypes.all (A0u Tryz.prog objTypes)=true:=by kernel_rfl
theorem c8:Tryz.prog.cellsOf 44=8:=by kernel_rfl
theorem Bnx {l:List IV} (h:Ty Tryz.prog 44 l):∃o:Ob,l=Gr o∧(Wf o.v∧Qy o.n):=by
 obtain⟨ls,rfl,hl,hf⟩:=A4n Tryz.underlying44 h
 obtain⟨n,e0,w0⟩:=Gg Tryz.underlying3 (hf 0 _ rfl)
 obtain⟨g,e1,_⟩:=Gg Tryz.underlying3 (hf 1 _ rfl)
 obtain⟨v,e2,w2⟩:=(Bog (hf 2 _ rfl)).1 rfl
 match ls,hl with
 | [l0,l1,l2],_=>
   simp only [List.getD_cons_zero,List.getD_cons_succ]at e0 e1 e2
   subst e0 e1 e2
   exact⟨⟨n,g,v⟩,by simp [Gr],w2,Bcy w0⟩
theorem Bpf {H:Type} {enc:TypeId × Value→H} {W:World} {base:Nat} {v:Value} {d:DataW H} {ps:List MemPlace} (hv:Value.okWide Tryz.prog W .any base 22 v)(h:DataW.Trod enc Tryz.prog W 0 (fun _=>true) true 22 v d ps):
 ∃l:List Ob,RepI (fun b o=>W.cell? ⟨b,o,none⟩) v (.sl .any 8 (obs l))∧∀o∈l,Wf o.v∧Qy o.n:=by
 obtain⟨x,h1,h2⟩:=Bmy objTypes A9p (t:=22) (by decide) (A83 Tryz.underlying22 hv) h
 obtain⟨rows,e,hr,_⟩:=Biq Tryz.underlying22 h2
 obtain⟨l,rfl,hl⟩:=A76 (f:=Gr) (p:=fun o:Ob=>Wf o.v∧Qy o.n) rows fun r hr'=>Bnx (hr r hr')
 rw [c8]at e
 injection e with e
 subst e
 exact⟨l,h1,hl⟩
end Go.Proofs.YtaggabcajidnnaaGreatDoor
