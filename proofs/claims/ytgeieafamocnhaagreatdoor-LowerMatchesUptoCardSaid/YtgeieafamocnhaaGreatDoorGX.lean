/- For any program (of bulk at most 1048576 together with the listed variable) the law LowerMatches answers true; and the card. -/
import Derived.Test.YtgeieafamocnhaaGreatDoorGW
import Derived.Deep.CondSized
namespace Go.Proofs.YtgeieafamocnhaaGreatDoor
set_option maxHeartbeats 64000000
open Go Go.Ab Go.Proofs
open Go.ChangeShapes Go.WideShapes Go.ChangeAt Go.RowKit
set_option linter.unusedVariables false
noncomputable def kL (os:Os):World :=
 let N:=(World.settled Tryz.prog os).heap.size
 let w0:=World.holding Tryz.prog os ⟨#[.cells #[.string ⟨#[97,114,114,97,121]⟩,.string ⟨#[102,117,110,99]⟩,.string ⟨#[118,97,114]⟩,.string ⟨#[105,102]⟩,.string ⟨#[101,108,115,101]⟩,.string ⟨#[119,104,105,108,101]⟩,.string ⟨#[98,114,101,97,107]⟩,.string ⟨#[116,101,108,108]⟩,.string ⟨#[114,101,116,117,114,110]⟩,.string ⟨#[115,105,103,110,101,100]⟩,.string ⟨#[98,105,116]⟩,.string ⟨#[98,121,116,101]⟩,.string ⟨#[104,97,108,102]⟩,.string ⟨#[119,111,114,100]⟩] 9],#[],[]⟩
 { w0 with heap:=w0.heap.modify 0 fun
   | .cells _ t frozen=>.cells #[.slice (some ⟨N,0,none⟩) 14 14] t frozen
   | o=>o }
noncomputable def tO:Array Value:=#[.agg #[.slice none 0 0,.slice none 0 0]]
theorem wM (os:Os):laidMet Tryz.prog Rows.lowerMatchesUptoRow.laid ((kL os).forCall (fun _ _=>0) ⟨#[],tO,[]⟩).memory :=
 laidMet_of_run' 8 (by kernel_rfl) (by kernel_rfl)
theorem Dy (os:Os) {H:Type} (enc:TypeId × Value→H):∃ places,DataW.whole enc Tryz.prog ((kL os).forCall (fun _ _=>0) ⟨#[],tO,[]⟩).memory Tryz.f4.params.toList Rows.lowerMatchesSpec.vars false tO.toList 8=some ([.agg [.nil,.nil]],[],places) :=
 ⟨[],by kernel_rfl⟩
set_option maxRecDepth 100000 in
theorem jr (os:Os) (started:os.Started) (H:Type) (enc:TypeId × Value→H) (F:Stop.Interp) :
  ReturnsInHanded {} Tryz.checked os 4 .any ((Rows.OpenSpec.upto Rows.lowerMatchesSpec).preRow enc Tryz.prog Tryz.f4 Rows.lowerMatchesUptoRow.domain false Rows.lowerMatchesUptoRow.laid) (((Rows.OpenSpec.upto Rows.lowerMatchesSpec).at F).post enc Tryz.prog Tryz.f4 false true false false):=by
 obtain ⟨places,hx⟩:=Dy os enc
 refine returnsInHanded_of_row (C:=Tryz.checked) (s:=Rows.OpenSpec.upto Rows.lowerMatchesSpec) ownK started (by kernel_rfl) Tryz.func4
  (witness_row_atRef (enc:=enc) (C:=Tryz.checked) false (kL os) tO rfl (by kernel_rfl) (by kernel_rfl) (by kernel_rfl)
   (OpenSpec.preRow_of_cond 8 hx (by kernel_rfl) (fun k hk=>by cases hk;kernel_rfl) (by kernel_rfl) (wM os))) ?_
 intro W base args ds gs before hval0 hW _ hcond _ hL _ _
 have hval:∀ (j:Nat) t v,Tryz.f4.params[j]?=some t→args[j]?=some v→Value.okWide Tryz.prog W .any base t v:=hval0
 have hbk:Rows.uptoSmall H (ds++gs)=true:=hcond _ rfl
 have hgl:=zx hL
 have hW':=hW
 obtain ⟨p,q,hA0,hV,rfl,hfz,hnd⟩:=hW
 have hA:DataW.TrodAll enc Tryz.prog W 0 (fun _=>true) true Tryz.f4.params.toList args.toList ds p:=hA0
 have hB:∀ W',Below W.heap.size W W'→DataW.TrodAll enc Tryz.prog W' 0 (fun b=>decide (b<W.heap.size)) true Tryz.f4.params.toList args.toList ds p:=fun W' bel=>nN zy bel _ _ _ _ (by kernel_rfl) hA
 rw [Tryz.params4] at hA hval hB
 obtain ⟨v0,vs0,d0,ds0,p0,q0,hargs,rfl,rfl,h0,r0⟩:=trodAll_cons hA
 obtain ⟨rfl,rfl,rfl⟩:=trodAll_nil r0
 obtain rfl:args=#[v0]:=by cases args;simp_all
 obtain ⟨rfl,rfl⟩:=trodVars_none hV
 have hb:=of_decide_eq_true hbk
 simp only [List.append_nil,Rows.uptoBulkAll] at hb
 obtain ⟨c0,rfl,_⟩:=okWide_struct Tryz.underlying25 (hval 0 25 v0 rfl rfl)
 obtain ⟨f0,x0,a0,wv0,b0⟩:=xD (S:=[25,22,23,58,62,9,3,59,64,60,106,27,29,5,26]) (by kernel_rfl) (by decide) h0
 obtain ⟨y0,rfl⟩:=zl a0
 have s0:=EL y0
 refine (uT (xs:=[.agg (prE y0)]) (((w4 y0 (by omega)) [] 0).mono fun y h' n' h=>h.1) (vq wv0 xE) hgl).mono fun e W' ⟨he,bel⟩=>?_
 subst he
 exact ⟨_,rfl,_,_,_,[],_,[],hW',trodAll_mk1 (shut_bool Tryz.underlying4 _),hB W' bel,rfl,bel.frame _,fun h=>by cases h⟩
theorem iF:Rows.LowerMatchesUptoSaid :=
 OpenClaim.holds_of_cond 4 Tryz.f4 rfl rfl rfl rfl rfl rfl rfl ⟨rfl,rfl,rfl,rfl,rfl⟩ rfl rfl rfl rfl rfl (by kernel_rfl) Tryz.func4 (by kernel_rfl)
  (of_decide_eq_true (by kernel_rfl)) (by unfold Func.isWrapper;first|(rw [if_pos (by decide +kernel)];kernel_rfl)|(rw [if_neg (by decide +kernel)];exact ⟨rfl,rfl⟩))
  (fun os started H enc _ F=>by rw [OpenClaim.pre_eq_preRow];exact jr os started H enc F)
theorem B5 (f:FuncId) (fn:Func) (hf:Tryz.pinned.checked.prog.funcNamed "retarget/retargetlaw21.LowerMatches" = some f) (hfn:Tryz.pinned.checked.prog.funcs[f]?=some fn) :
  false=Tryz.pinned.checked.prog.looks []∧∀ (j:Nat) t,fn.params[j]?=some t→Tryz.pinned.checked.prog.wantsStandIn t=false:=by
 obtain rfl:f=4:=Option.some.inj ((show Tryz.prog.funcNamed "retarget/retargetlaw21.LowerMatches" = some 4 by kernel_rfl).symm.trans hf) |>.symm
 obtain rfl:fn=Tryz.f4:=(Option.some.inj (Tryz.func4.symm.trans hfn)).symm
 refine ⟨by kernel_rfl,fun j t ht=>?_⟩
 rw [Tryz.params4] at ht
 have hm:=Array.mem_of_getElem? ht
 simp only [List.mem_toArray,List.mem_cons,List.not_mem_nil,or_false] at hm
 subst hm
 exact (show Tryz.prog.wantsStandIn 25=false by kernel_rfl)
theorem lowerMatchesUptoCard_holds:Rows.LowerMatchesUptoCardSaid :=
 Claim7.holds_tied_plain_at .later [] _ _ _ _ iF (fun _ h=>by cases h) (by kernel_rfl) (fun _ h=>by cases h) lowerMatchesUpto_row_tie rfl ⟨rfl,rfl⟩ (by kernel_rfl) rfl B5 (by kernel_rfl)
#print axioms lowerMatchesUptoCard_holds
end Go.Proofs.YtgeieafamocnhaaGreatDoor
