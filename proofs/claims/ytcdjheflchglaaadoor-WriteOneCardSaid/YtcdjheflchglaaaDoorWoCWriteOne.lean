/- The law WriteOne answers true at every input, and the input reads as it did: the tied card of bindery/binderylaw17.WriteOne. Conditions: those of the given row, none of mine. -/
import Derived.Test.YtcdjheflchglaaaDoorWoQ
namespace Go.Proofs.YtcdjheflchglaaaDoor
open Go Go.ChangeShapes Go.WideShapes Go.ChangeAt Go.RowKit Go.Proofs.Sim
open Go.ChangeMaps (open_string shut_string)
set_option maxRecDepth 100000
theorem wf_i64 {n:Int} (h:(Lit.int .i64 n).wf=true): -9223372036854775808≤n∧n≤9223372036854775807:=by
 simp [Lit.wf,IntKind.min,IntKind.max,IntKind.signed,IntKind.bits]at h;omega
namespace writeOne
theorem contract(H:Type)(enc:TypeId × Value→H)(W:World)(base:Nat)(args:Array Value)(ds gs:List (DataW H))(before:List MemPlace)
 (hval:∀(j:Nat) t v,Tryd.f6.params[j]? =some t→args[j]? =some v→Value.okWide Tryd.prog W .any base t v)
 (hW:DataW.Whole enc Tryd.prog Tryd.f6.params.toList Rows.writeOneSpec.vars false W args.toList ds gs before)(hL:laidMetH Tryd.prog Rows.writeOneRow.laid W):
 Calls Tryd.prog 6 args W fun e W'=>∃v,e= .returned v∧Rows.writeOneSpec.post enc Tryd.prog Tryd.f6 false true false false W args v W':=by
 have hW':=hW
 obtain⟨p,q,hA0,hV,rfl,hfz,hnd⟩:=hW
 have hA:DataW.TrodAll enc Tryd.prog W 0 (fun _=>true) true Tryd.f6.params.toList args.toList ds p:=hA0
 rw [Tryd.params6]at hA hval
 obtain⟨v0,vs0,d0,ds0,p0,q0,hargs,rfl,rfl,h0,r0⟩:=trodAll_cons hA
 obtain⟨v1,vs1,d1,ds1,p1,q1,rfl,rfl,rfl,h1,r1⟩:=trodAll_cons r0
 obtain⟨rfl,rfl,rfl⟩:=trodAll_nil r1
 obtain rfl:args= #[v0,v1]:=by cases args;simp_all
 obtain⟨rfl,rfl⟩:=trodVars_none hV
 obtain⟨l0,e0,q0_⟩:=A2y (hval 0 39 v0 rfl rfl) h0
 obtain⟨l1,e1,q1_⟩:=A2y (hval 1 39 v1 rfl rfl) h1
 refine A1z (tb:=4) Tryd.func6 (by kernel_rfl) (by kernel_rfl) laidOut (by kernel_rfl) (by kernel_rfl) Tryd.underlying4 rfl rfl rfl rfl hW' (tabs hL) [.agg (Va.V.row l0), .agg (Va.V.row l1)] ⟨rfl,fun i hi=> ?_⟩ (Sim.Se.S_WriteOne l0 l1 q0_ q1_)
 match i,hi with
 |0,_=>exact .imm _ _ e0
 |1,_=>exact .imm _ _ e1
theorem reads(os:Os) {H:Type} (enc:TypeId × Value→H):∃places,DataW.whole enc Tryd.prog ((laidWorld os).forCall (fun _ _=>0) ⟨#[], #[.agg #[.int .i64 0, .int .i64 0, .int .i64 0, .string ⟨#[]⟩, .slice none 0 0, .slice none 0 0], .agg #[.int .i64 0, .int .i64 0, .int .i64 0, .string ⟨#[]⟩, .slice none 0 0, .slice none 0 0]],[]⟩).memory Tryd.f6.params.toList Rows.writeOneSpec.vars false #[.agg #[Value.int .i64 0, .int .i64 0, .int .i64 0,Value.string ⟨#[]⟩, .slice none 0 0, .slice none 0 0], .agg #[.int .i64 0, .int .i64 0, .int .i64 0, .string ⟨#[]⟩, .slice none 0 0, .slice none 0 0]].toList 8=some ([.agg [.lit (.int .i64 0), .lit (.int .i64 0), .lit (.int .i64 0), .lit (.string []), .nil, .nil], .agg [.lit (.int .i64 0), .lit (.int .i64 0), .lit (.int .i64 0), .lit (.string []), .nil, .nil]],[],places):=
 ⟨[],by kernel_rfl⟩
set_option maxRecDepth 100000 in
theorem lifted(os:Os)(started:os.Started)(H:Type)(enc:TypeId × Value→H)(F:Stop.Interp):
 ReturnsInHanded {} Tryd.checked os 6 .any ((OpenSpec.ofChange Rows.writeOneSpec).preRow enc Tryd.prog Tryd.f6 Rows.writeOneRow.domain false Rows.writeOneRow.laid) (((OpenSpec.ofChange Rows.writeOneSpec).at F).post enc Tryd.prog Tryd.f6 false true false false):=by
 obtain⟨places,hx⟩:=reads os enc
 refine returnsInHanded_of_row (C:=Tryd.checked) (s:=OpenSpec.ofChange Rows.writeOneSpec) own started (by kernel_rfl) Tryd.func6
  (witness_row_at (enc:=enc) (C:=Tryd.checked) false (laidWorld os) #[.agg #[.int .i64 0, .int .i64 0, .int .i64 0, .string ⟨#[]⟩, .slice none 0 0, .slice none 0 0], .agg #[.int .i64 0, .int .i64 0, .int .i64 0, .string ⟨#[]⟩, .slice none 0 0, .slice none 0 0]] rfl (by kernel_rfl) (by kernel_rfl) (by kernel_rfl)
   (OpenSpec.preRow_of_cond 8 hx (by kernel_rfl) (fun k hk=>by cases hk) (by kernel_rfl) (laid_met os _))) ?_
 intro W base args ds gs before hval hW _ _ _ hL _ _
 exact contract H enc W base args ds gs before hval hW hL
theorem said:Rows.WriteOneSaid:=
 OpenClaim.holds_of_cond 6 Tryd.f6 rfl rfl rfl rfl rfl rfl rfl ⟨rfl,rfl,rfl,rfl,rfl⟩ rfl rfl rfl rfl rfl (by kernel_rfl) Tryd.func6 (by kernel_rfl)
  (of_decide_eq_true (by kernel_rfl)) (by unfold Func.isWrapper;first |(rw [if_pos (by decide+kernel)];kernel_rfl) |(rw [if_neg (by decide+kernel)];exact⟨rfl,rfl⟩))
  (fun os started H enc _ F=>by rw [OpenClaim.pre_eq_preRow];exact lifted os started H enc F)
theorem plain(f:FuncId)(fn:Func)(hf:Tryd.pinned.checked.prog.funcNamed "bindery/binderylaw17.WriteOne" =some f)(hfn:Tryd.pinned.checked.prog.funcs[f]? =some fn):
 false=Tryd.pinned.checked.prog.looks []∧∀(j:Nat) t,fn.params[j]? =some t→Tryd.pinned.checked.prog.wantsStandIn t=false:=by
 obtain rfl:f=6:=Option.some.inj ((show Tryd.prog.funcNamed "bindery/binderylaw17.WriteOne" =some 6 by kernel_rfl).symm.trans hf) |>.symm
 obtain rfl:fn=Tryd.f6:=(Option.some.inj (Tryd.func6.symm.trans hfn)).symm
 refine⟨by kernel_rfl,fun j t ht=> ?_⟩
 rw [Tryd.params6]at ht
 have ht:=Array.mem_of_getElem? ht
 have hall:(#[39,39]:Array TypeId).toList.all (fun t=> !Tryd.prog.wantsStandIn t)=true:=by kernel_rfl
 have:=List.all_eq_true.1 hall t (by simpa using ht)
 show Tryd.prog.wantsStandIn t=false
 simpa using this
end writeOne
theorem writeOne_card:Rows.WriteOneCardSaid:=
 Claim7.holds_tied_plain_at .later [] _ _ _ _ writeOne.said (fun _ h=>by cases h) (by kernel_rfl) (fun _ h=>by cases h) writeOne_row_tie rfl ⟨rfl,rfl⟩ (by kernel_rfl) rfl writeOne.plain (by kernel_rfl)
#print axioms writeOne_card
end Go.Proofs.YtcdjheflchglaaaDoor
