/- For any program (of bulk at most 1048576 together with the listed variable) and number the law FlowNeeds answers true; and the card. -/
import Derived.Test.YtkhjclmfbmfahaaGreatDoorGT
import Derived.Deep.CondSized
namespace Go.Proofs.YtkhjclmfbmfahaaGreatDoor
set_option maxHeartbeats 64000000
open Go Go.Ab Go.Proofs
open Go.ChangeShapes Go.WideShapes Go.ChangeAt Go.RowKit
set_option linter.unusedVariables false
noncomputable def jH (os:Os):World :=
 let w0:=World.holding Tryz.prog os ⟨#[],#[],[]⟩
 { w0 with heap:=w0.heap.modify 0 fun
   | .cells _ t frozen=>.cells #[.string ⟨#[]⟩,.int .i64 0,.int .i64 0,.string ⟨#[]⟩,.int .i64 0,.int .i64 0,.string ⟨#[]⟩,.int .i64 0,.int .i64 0,.string ⟨#[110,111,116]⟩,.int .i64 1,.int .i64 1,.string ⟨#[110,101,103]⟩,.int .i64 1,.int .i64 1,.string ⟨#[97,100,100]⟩,.int .i64 2,.int .i64 1,.string ⟨#[115,117,98]⟩,.int .i64 2,.int .i64 1,.string ⟨#[109,117,108]⟩,.int .i64 2,.int .i64 1,.string ⟨#[97,110,100]⟩,.int .i64 2,.int .i64 1,.string ⟨#[111,114]⟩,.int .i64 2,.int .i64 1,.string ⟨#[120,111,114]⟩,.int .i64 2,.int .i64 1,.string ⟨#[115,104,108]⟩,.int .i64 2,.int .i64 1,.string ⟨#[115,104,114]⟩,.int .i64 2,.int .i64 1,.string ⟨#[115,97,114]⟩,.int .i64 2,.int .i64 1,.string ⟨#[117,100,105,118]⟩,.int .i64 2,.int .i64 1,.string ⟨#[117,114,101,109]⟩,.int .i64 2,.int .i64 1,.string ⟨#[101,113]⟩,.int .i64 2,.int .i64 2,.string ⟨#[117,108,116]⟩,.int .i64 2,.int .i64 2,.string ⟨#[115,108,116]⟩,.int .i64 2,.int .i64 2,.string ⟨#[105,116,101]⟩,.int .i64 3,.int .i64 3,.string ⟨#[99,111,110,99,97,116]⟩,.int .i64 2,.int .i64 4,.string ⟨#[101,120,116,114,97,99,116]⟩,.int .i64 1,.int .i64 5,.string ⟨#[122,101,120,116]⟩,.int .i64 1,.int .i64 6,.string ⟨#[115,101,120,116]⟩,.int .i64 1,.int .i64 6,.string ⟨#[108,111,97,100]⟩,.int .i64 1,.int .i64 7] t frozen
   | o=>o }
noncomputable def r7:Array Value:=#[.agg #[.slice none 0 0],.int .i64 0]
theorem vf (os:Os):laidMet Tryz.prog Rows.flowNeedsUptoRow.laid ((jH os).forCall (fun _ _=>0) ⟨#[],r7,[]⟩).memory :=
 laidMet_of_run' 8 (by kernel_rfl) (by kernel_rfl)
theorem CL (os:Os) {H:Type} (enc:TypeId × Value→H):∃ places,DataW.whole enc Tryz.prog ((jH os).forCall (fun _ _=>0) ⟨#[],r7,[]⟩).memory Tryz.f3.params.toList Rows.flowNeedsSpec.vars false r7.toList 8=some ([.agg [.nil],.lit (.int .i64 0)],[],places) :=
 ⟨[],by kernel_rfl⟩
set_option maxRecDepth 100000 in
theorem jI (os:Os) (started:os.Started) (H:Type) (enc:TypeId × Value→H) (F:Stop.Interp) :
  ReturnsInHanded {} Tryz.checked os 3 .any ((Rows.OpenSpec.upto Rows.flowNeedsSpec).preRow enc Tryz.prog Tryz.f3 Rows.flowNeedsUptoRow.domain false Rows.flowNeedsUptoRow.laid) (((Rows.OpenSpec.upto Rows.flowNeedsSpec).at F).post enc Tryz.prog Tryz.f3 false true false false):=by
 obtain ⟨places,hx⟩:=CL os enc
 refine returnsInHanded_of_row (C:=Tryz.checked) (s:=Rows.OpenSpec.upto Rows.flowNeedsSpec) ownK started (by kernel_rfl) Tryz.func3
  (witness_row_atRef (enc:=enc) (C:=Tryz.checked) false (jH os) r7 rfl (by kernel_rfl) (by kernel_rfl) (by kernel_rfl)
   (OpenSpec.preRow_of_cond 8 hx (by kernel_rfl) (fun k hk=>by cases hk;kernel_rfl) (by kernel_rfl) (vf os))) ?_
 intro W base args ds gs before hval0 hW _ hcond _ hL _ _
 have hval:∀ (j:Nat) t v,Tryz.f3.params[j]?=some t→args[j]?=some v→Value.okWide Tryz.prog W .any base t v:=hval0
 have hbk:Rows.uptoSmall H (ds++gs)=true:=hcond _ rfl
 have hgl:=yL rfl hL
 have hW':=hW
 obtain ⟨p,q,hA0,hV,rfl,hfz,hnd⟩:=hW
 have hA:DataW.TrodAll enc Tryz.prog W 0 (fun _=>true) true Tryz.f3.params.toList args.toList ds p:=hA0
 have hB:∀ W',Below W.heap.size W W'→DataW.TrodAll enc Tryz.prog W' 0 (fun b=>decide (b<W.heap.size)) true Tryz.f3.params.toList args.toList ds p:=fun W' bel=>mh yM bel _ _ _ _ (by kernel_rfl) hA
 rw [Tryz.params3] at hA hval hB
 obtain ⟨v0,vs0,d0,ds0,p0,q0,hargs,rfl,rfl,h0,r0⟩:=trodAll_cons hA
 obtain ⟨v1,vs1,d1,ds1,p1,q1,rfl,rfl,rfl,h1,r1⟩:=trodAll_cons r0
 obtain ⟨rfl,rfl,rfl⟩:=trodAll_nil r1
 obtain rfl:args=#[v0,v1]:=by cases args;simp_all
 obtain ⟨rfl,rfl⟩:=trodVars_none hV
 have hb:=of_decide_eq_true hbk
 simp only [List.append_nil,Rows.uptoBulkAll] at hb
 obtain ⟨c0,rfl,_⟩:=okWide_struct Tryz.underlying24 (hval 0 24 v0 rfl rfl)
 have n1:∀ c,v1≠.agg c:=by obtain ⟨_,e⟩:=okWide_int Tryz.underlying3 (hval 1 3 v1 rfl rfl);intro c;rw [e];simp
 obtain ⟨f0,x0,a0,wv0,b0⟩:=v4 (S:=[24,22,54,9,51,57,3,52,64,59,102,5,60,119,76,62,44]) (by kernel_rfl) (by decide) h0
 obtain ⟨f1,x1,a1,wv1,b1⟩:=v3 (S:=[3]) (by kernel_rfl) (by decide) n1 h1
 obtain ⟨y0,rfl,hk0⟩:=yv a0
 obtain ⟨y1,rfl⟩:=uL a1
 have s0:=DV y0
 refine (td (xs:=[.agg (piE y0),.int .i64 y1]) (((w3 y0 y1 (by omega) hk0) [] 0).mono fun y h' n' h=>h.1) (mj wv0 (mj wv1 v5)) hgl).mono fun e W' ⟨he,bel⟩=>?_
 subst he
 exact ⟨_,rfl,_,_,_,[],_,[],hW',trodAll_mk1 (shut_bool Tryz.underlying4 _),hB W' bel,rfl,bel.frame _,fun h=>by cases h⟩
theorem iJ:Rows.FlowNeedsUptoSaid :=
 OpenClaim.holds_of_cond 3 Tryz.f3 rfl rfl rfl rfl rfl rfl rfl ⟨rfl,rfl,rfl,rfl,rfl⟩ rfl rfl rfl rfl rfl (by kernel_rfl) Tryz.func3 (by kernel_rfl)
  (of_decide_eq_true (by kernel_rfl)) (by unfold Func.isWrapper;first|(rw [if_pos (by decide +kernel)];kernel_rfl)|(rw [if_neg (by decide +kernel)];exact ⟨rfl,rfl⟩))
  (fun os started H enc _ F=>by rw [OpenClaim.pre_eq_preRow];exact jI os started H enc F)
theorem Bg (f:FuncId) (fn:Func) (hf:Tryz.pinned.checked.prog.funcNamed "retarget/retargetlaw22.FlowNeeds" = some f) (hfn:Tryz.pinned.checked.prog.funcs[f]?=some fn) :
  false=Tryz.pinned.checked.prog.looks []∧∀ (j:Nat) t,fn.params[j]?=some t→Tryz.pinned.checked.prog.wantsStandIn t=false:=by
 obtain rfl:f=3:=Option.some.inj ((show Tryz.prog.funcNamed "retarget/retargetlaw22.FlowNeeds" = some 3 by kernel_rfl).symm.trans hf) |>.symm
 obtain rfl:fn=Tryz.f3:=(Option.some.inj (Tryz.func3.symm.trans hfn)).symm
 refine ⟨by kernel_rfl,fun j t ht=>?_⟩
 rw [Tryz.params3] at ht
 have hm:=Array.mem_of_getElem? ht
 simp only [List.mem_toArray,List.mem_cons,List.not_mem_nil,or_false] at hm
 rcases hm with rfl|rfl
 ·exact (show Tryz.prog.wantsStandIn 24=false by kernel_rfl)
 ·exact (show Tryz.prog.wantsStandIn 3=false by kernel_rfl)
theorem flowNeedsUptoCard_holds:Rows.FlowNeedsUptoCardSaid :=
 Claim7.holds_tied_plain_at .later [] _ _ _ _ iJ (fun _ h=>by cases h) (by kernel_rfl) (fun _ h=>by cases h) flowNeedsUpto_row_tie rfl ⟨rfl,rfl⟩ (by kernel_rfl) rfl Bg (by kernel_rfl)
#print axioms flowNeedsUptoCard_holds
end Go.Proofs.YtkhjclmfbmfahaaGreatDoor
