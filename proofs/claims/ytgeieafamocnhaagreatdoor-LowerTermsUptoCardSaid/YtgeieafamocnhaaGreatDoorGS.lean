/- For any program, number and expression (of bulk at most 1048576 together with the listed variable) the law LowerTerms answers true; and the card. -/
import Derived.Test.YtgeieafamocnhaaGreatDoorGR
import Derived.Deep.CondSized
namespace Go.Proofs.YtgeieafamocnhaaGreatDoor
open Go Go.Ab Go.Proofs
open Go.ChangeShapes Go.WideShapes Go.ChangeAt Go.RowKit
set_option linter.unusedVariables false
noncomputable def laidWorld (os : Os) : World :=
  let N := (World.settled Tryz.prog os).heap.size
  let w0 := World.holding Tryz.prog os ⟨#[.cells #[.string ⟨#[97, 114, 114, 97, 121]⟩, .string ⟨#[102, 117, 110, 99]⟩, .string ⟨#[118, 97, 114]⟩, .string ⟨#[105, 102]⟩, .string ⟨#[101, 108, 115, 101]⟩, .string ⟨#[119, 104, 105, 108, 101]⟩, .string ⟨#[98, 114, 101, 97, 107]⟩, .string ⟨#[116, 101, 108, 108]⟩, .string ⟨#[114, 101, 116, 117, 114, 110]⟩, .string ⟨#[115, 105, 103, 110, 101, 100]⟩, .string ⟨#[98, 105, 116]⟩, .string ⟨#[98, 121, 116, 101]⟩, .string ⟨#[104, 97, 108, 102]⟩, .string ⟨#[119, 111, 114, 100]⟩] 9], #[], []⟩
  { w0 with heap := w0.heap.modify 0 fun
      | .cells _ t frozen => .cells #[.slice (some ⟨N, 0, none⟩) 14 14] t frozen
      | o => o }
noncomputable def args0 : Array Value := #[.agg #[.slice none 0 0, .slice none 0 0], .int .i64 0, .agg #[.int .u8 0, .int .i64 0, .int .u64 0, .string ⟨#[]⟩, .int .u8 0, .slice none 0 0]]
theorem laid_met (os : Os) : laidMet Tryz.prog Rows.lowerTermsUptoRow.laid ((laidWorld os).forCall (fun _ _ => 0) ⟨#[], args0, []⟩).memory :=
  laidMet_of_run' 8 (by kernel_rfl) (by kernel_rfl)
theorem reads (os : Os) {H : Type} (enc : TypeId × Value → H) : ∃ places, DataW.whole enc Tryz.prog ((laidWorld os).forCall (fun _ _ => 0) ⟨#[], args0, []⟩).memory Tryz.f3.params.toList Rows.lowerTermsSpec.vars false args0.toList 8 = some ([.agg [.nil, .nil], .lit (.int .i64 0), .agg [.lit (.int .u8 0), .lit (.int .i64 0), .lit (.int .u64 0), .lit (.string []), .lit (.int .u8 0), .nil]], [], places) :=
  ⟨[], by kernel_rfl⟩
set_option maxRecDepth 100000 in
theorem lowerTerms_lifted (os : Os) (started : os.Started) (H : Type) (enc : TypeId × Value → H) (F : Stop.Interp) :
    ReturnsInHanded {} Tryz.checked os 3 .any ((Rows.OpenSpec.upto Rows.lowerTermsSpec).preRow enc Tryz.prog Tryz.f3 Rows.lowerTermsUptoRow.domain false Rows.lowerTermsUptoRow.laid) (((Rows.OpenSpec.upto Rows.lowerTermsSpec).at F).post enc Tryz.prog Tryz.f3 false true false false) := by
  obtain ⟨places, hx⟩ := reads os enc
  refine returnsInHanded_of_row (C := Tryz.checked) (s := Rows.OpenSpec.upto Rows.lowerTermsSpec) ownK started (by kernel_rfl) Tryz.func3
    (witness_row_atRef (enc := enc) (C := Tryz.checked) false (laidWorld os) args0 rfl (by kernel_rfl) (by kernel_rfl) (by kernel_rfl)
      (OpenSpec.preRow_of_cond 8 hx (by kernel_rfl) (fun k hk => by cases hk; kernel_rfl) (by kernel_rfl) (laid_met os))) ?_
  intro W base args ds gs before hval0 hW _ hcond _ hL _ _
  have hval : ∀ (j : Nat) t v, Tryz.f3.params[j]? = some t → args[j]? = some v → Value.okWide Tryz.prog W .any base t v := hval0
  have hbk : Rows.uptoSmall H (ds ++ gs) = true := hcond _ rfl
  have hgl := laid_gl hL
  have hW' := hW
  obtain ⟨p, q, hA0, hV, rfl, hfz, hnd⟩ := hW
  have hA : DataW.TrodAll enc Tryz.prog W 0 (fun _ => true) true Tryz.f3.params.toList args.toList ds p := hA0
  have hB : ∀ W', Below W.heap.size W W' → DataW.TrodAll enc Tryz.prog W' 0 (fun b => decide (b < W.heap.size)) true Tryz.f3.params.toList args.toList ds p := fun W' bel => below_all laidOut bel _ _ _ _ (by kernel_rfl) hA
  rw [Tryz.params3] at hA hval hB
  obtain ⟨v0, vs0, d0, ds0, p0, q0, hargs, rfl, rfl, h0, r0⟩ := trodAll_cons hA
  obtain ⟨v1, vs1, d1, ds1, p1, q1, rfl, rfl, rfl, h1, r1⟩ := trodAll_cons r0
  obtain ⟨v2, vs2, d2, ds2, p2, q2, rfl, rfl, rfl, h2, r2⟩ := trodAll_cons r1
  obtain ⟨rfl, rfl, rfl⟩ := trodAll_nil r2
  obtain rfl : args = #[v0, v1, v2] := by cases args; simp_all
  obtain ⟨rfl, rfl⟩ := trodVars_none hV
  have hb := of_decide_eq_true hbk
  simp only [List.append_nil, Rows.uptoBulkAll] at hb
  obtain ⟨c0, rfl, _⟩ := okWide_struct Tryz.underlying25 (hval 0 25 v0 rfl rfl)
  obtain ⟨f0, x0, a0, wv0, b0⟩ := arg_aggU (S := [25, 22, 23, 58, 62, 9, 3, 59, 64, 60, 106, 27, 29, 5, 26]) (by kernel_rfl) (by decide) h0
  have n1 : ∀ c, v1 ≠ .agg c := by obtain ⟨_, e⟩ := okWide_int Tryz.underlying3 (hval 1 3 v1 rfl rfl); intro c; rw [e]; simp
  obtain ⟨f1, x1, a1, wv1, b1⟩ := arg_oneU (S := [25, 22, 23, 58, 62, 9, 3, 59, 64, 60, 106, 27, 29, 5, 26]) (by kernel_rfl) (by decide) n1 h1
  obtain ⟨c2, rfl, _⟩ := okWide_struct Tryz.underlying29 (hval 2 29 v2 rfl rfl)
  obtain ⟨f2, x2, a2, wv2, b2⟩ := arg_aggU (S := [25, 22, 23, 58, 62, 9, 3, 59, 64, 60, 106, 27, 29, 5, 26]) (by kernel_rfl) (by decide) h2
  obtain ⟨y0, rfl⟩ := open_pr a0
  obtain ⟨y1, rfl⟩ := open_int a1
  obtain ⟨y2, rfl⟩ := open_ex a2
  have s0 := av_pr y0
  have s2 := av_ex y2
  refine (law_calls (xs := [.agg (prE y0), .int .i64 y1, .agg (exE y2)]) (((w3 y0 y1 y2 (by omega) (by omega)) [] 0).mono fun y h' n' h => h.1) (argR_cons wv0 (argR_cons wv1 (argR_cons wv2 argR_nil))) hgl).mono fun e W' ⟨he, bel⟩ => ?_
  subst he
  exact ⟨_, rfl, _, _, _, [], _, [], hW', trodAll_mk1 (shut_bool Tryz.underlying4 _), hB W' bel, rfl, bel.frame _, fun h => by cases h⟩
theorem lowerTermsUpto_said : Rows.LowerTermsUptoSaid :=
  OpenClaim.holds_of_cond 3 Tryz.f3 rfl rfl rfl rfl rfl rfl rfl ⟨rfl, rfl, rfl, rfl, rfl⟩ rfl rfl rfl rfl rfl (by kernel_rfl) Tryz.func3 (by kernel_rfl)
    (of_decide_eq_true (by kernel_rfl)) (by unfold Func.isWrapper; first | (rw [if_pos (by decide +kernel)]; kernel_rfl) | (rw [if_neg (by decide +kernel)]; exact ⟨rfl, rfl⟩))
    (fun os started H enc _ F => by rw [OpenClaim.pre_eq_preRow]; exact lowerTerms_lifted os started H enc F)
theorem plain3 (f : FuncId) (fn : Func) (hf : Tryz.pinned.checked.prog.funcNamed "retarget/retargetlaw21.LowerTerms" = some f) (hfn : Tryz.pinned.checked.prog.funcs[f]? = some fn) :
    false = Tryz.pinned.checked.prog.looks [] ∧ ∀ (j : Nat) t, fn.params[j]? = some t → Tryz.pinned.checked.prog.wantsStandIn t = false := by
  obtain rfl : f = 3 := Option.some.inj ((show Tryz.prog.funcNamed "retarget/retargetlaw21.LowerTerms" = some 3 by kernel_rfl).symm.trans hf) |>.symm
  obtain rfl : fn = Tryz.f3 := (Option.some.inj (Tryz.func3.symm.trans hfn)).symm
  refine ⟨by kernel_rfl, fun j t ht => ?_⟩
  rw [Tryz.params3] at ht
  have hm := Array.mem_of_getElem? ht
  simp only [List.mem_toArray, List.mem_cons, List.not_mem_nil, or_false] at hm
  rcases hm with rfl | rfl | rfl
  · exact (show Tryz.prog.wantsStandIn 25 = false by kernel_rfl)
  · exact (show Tryz.prog.wantsStandIn 3 = false by kernel_rfl)
  · exact (show Tryz.prog.wantsStandIn 29 = false by kernel_rfl)
theorem lowerTermsUptoCard_holds : Rows.LowerTermsUptoCardSaid :=
  Claim7.holds_tied_plain_at .later [] _ _ _ _ lowerTermsUpto_said (fun _ h => by cases h) (by kernel_rfl) (fun _ h => by cases h) lowerTermsUpto_row_tie rfl ⟨rfl, rfl⟩ (by kernel_rfl) rfl plain3 (by kernel_rfl)
#print axioms lowerTermsUptoCard_holds
end Go.Proofs.YtgeieafamocnhaaGreatDoor
