/- The law ParseWhole answers true at every input, and the input reads as it did: bindery/binderylaw18.ParseWhole. Conditions: those of the given row, none of mine. -/
import Derived.Test.YtcdjheflchglaaaPaQ
namespace Go.Proofs.Ytcdjheflchglaaa
open Go Go.ChangeShapes Go.WideShapes Go.ChangeAt Go.RowKit Go.Proofs.Sim
open Go.ChangeMaps (open_string shut_string)
set_option maxRecDepth 100000
theorem wf_i64 {n:Int} (h:(Lit.int .i64 n).wf=true): -9223372036854775808≤n∧n≤9223372036854775807:=by
 simp [Lit.wf,IntKind.min,IntKind.max,IntKind.signed,IntKind.bits]at h;omega
namespace parseWhole
theorem contract(H:Type)(enc:TypeId × Value→H)(W:World)(base:Nat)(args:Array Value)(ds gs:List (DataW H))(before:List MemPlace)
 (hval:∀(j:Nat) t v,Try.f7.params[j]? =some t→args[j]? =some v→Value.okWide Try.prog W .any base t v)
 (hW:DataW.Whole enc Try.prog Try.f7.params.toList Rows.parseWholeSpec.vars false W args.toList ds gs before)(hL:laidMetH Try.prog Rows.parseWholeRow.laid W):
 Calls Try.prog 7 args W fun e W'=>∃v,e= .returned v∧Rows.parseWholeSpec.post enc Try.prog Try.f7 false true false false W args v W':=by
 have hW':=hW
 obtain⟨p,q,hA0,hV,rfl,hfz,hnd⟩:=hW
 have hA:DataW.TrodAll enc Try.prog W 0 (fun _=>true) true Try.f7.params.toList args.toList ds p:=hA0
 rw [Try.params7]at hA hval
 obtain⟨v0,vs0,d0,ds0,p0,q0,hargs,rfl,rfl,h0,r0⟩:=trodAll_cons hA
 obtain⟨rfl,rfl,rfl⟩:=trodAll_nil r0
 obtain rfl:args= #[v0]:=by cases args;simp_all
 obtain⟨rfl,rfl⟩:=trodVars_none hV
 obtain⟨s0,rfl,rfl,rfl,w0⟩:=open_string Try.underlying9 (hval 0 9 v0 rfl rfl) h0
 refine A1z (tb:=4) Try.func7 (by kernel_rfl) (by kernel_rfl) laidOut (by kernel_rfl) (by kernel_rfl) Try.underlying4 rfl rfl rfl rfl hW' tabs [.str s0.data.toList] ⟨rfl,fun i hi=> ?_⟩ (Sim.Se.S_ParseWhole _)
 match i,hi with
 |0,_=>exact .imm _ _ (.str _ _ rfl)
theorem reads(os:Os) {H:Type} (enc:TypeId × Value→H):∃places,DataW.whole enc Try.prog ((laidWorld os).forCall (fun _ _=>0) ⟨#[], #[.string ⟨#[]⟩],[]⟩).memory Try.f7.params.toList Rows.parseWholeSpec.vars false #[Value.string ⟨#[]⟩].toList 8=some ([.lit (.string [])],[],places):=
 ⟨[],by kernel_rfl⟩
set_option maxRecDepth 100000 in
theorem lifted(os:Os)(started:os.Started)(H:Type)(enc:TypeId × Value→H)(F:Stop.Interp):
 ReturnsInHanded {} Try.checked os 7 .any ((OpenSpec.ofChange Rows.parseWholeSpec).preRow enc Try.prog Try.f7 Rows.parseWholeRow.domain false Rows.parseWholeRow.laid) (((OpenSpec.ofChange Rows.parseWholeSpec).at F).post enc Try.prog Try.f7 false true false false):=by
 obtain⟨places,hx⟩:=reads os enc
 refine returnsInHanded_of_row (C:=Try.checked) (s:=OpenSpec.ofChange Rows.parseWholeSpec) own started (by kernel_rfl) Try.func7
  (witness_row_at (enc:=enc) (C:=Try.checked) false (laidWorld os) #[.string ⟨#[]⟩] rfl (by kernel_rfl) (by kernel_rfl) (by kernel_rfl)
   (OpenSpec.preRow_of_cond 8 hx (by kernel_rfl) (fun k hk=>by cases hk) (by kernel_rfl) (laid_met os _))) ?_
 intro W base args ds gs before hval hW _ _ _ hL _ _
 exact contract H enc W base args ds gs before hval hW hL
theorem said:Rows.ParseWholeSaid:=
 OpenClaim.holds_of_cond 7 Try.f7 rfl rfl rfl rfl rfl rfl rfl ⟨rfl,rfl,rfl,rfl,rfl⟩ rfl rfl rfl rfl rfl (by kernel_rfl) Try.func7 (by kernel_rfl)
  (of_decide_eq_true (by kernel_rfl)) (by unfold Func.isWrapper;first |(rw [if_pos (by decide+kernel)];kernel_rfl) |(rw [if_neg (by decide+kernel)];exact⟨rfl,rfl⟩))
  (fun os started H enc _ F=>by rw [OpenClaim.pre_eq_preRow];exact lifted os started H enc F)
end parseWhole
theorem parseWhole_holds:Rows.ParseWholeSaid:=parseWhole.said
#print axioms parseWhole_holds
end Go.Proofs.Ytcdjheflchglaaa
