/- For any memory (of bulk at most 1048576 together with the listed variable) and numbers the law InterpretMemory answers true; and the card. -/
import Derived.Test.YtdmjloieldhlnaaGreatDoorGK
import Derived.Deep.CondSized
namespace Go.Proofs.YtdmjloieldhlnaaGreatDoor
open Go Go.Ab Go.Proofs
open Go.ChangeShapes Go.WideShapes Go.ChangeAt Go.RowKit
set_option linter.unusedVariables false
noncomputable def laidWorld (os : Os) : World :=
  let w0 := World.holding Tryz.prog os ⟨#[], #[], []⟩
  { w0 with heap := w0.heap.modify 1 fun
      | .cells _ t frozen => .cells #[.string ⟨#[]⟩, .int .i64 0, .int .i64 0, .string ⟨#[]⟩, .int .i64 0, .int .i64 0, .string ⟨#[]⟩, .int .i64 0, .int .i64 0, .string ⟨#[110, 111, 116]⟩, .int .i64 1, .int .i64 1, .string ⟨#[110, 101, 103]⟩, .int .i64 1, .int .i64 1, .string ⟨#[97, 100, 100]⟩, .int .i64 2, .int .i64 1, .string ⟨#[115, 117, 98]⟩, .int .i64 2, .int .i64 1, .string ⟨#[109, 117, 108]⟩, .int .i64 2, .int .i64 1, .string ⟨#[97, 110, 100]⟩, .int .i64 2, .int .i64 1, .string ⟨#[111, 114]⟩, .int .i64 2, .int .i64 1, .string ⟨#[120, 111, 114]⟩, .int .i64 2, .int .i64 1, .string ⟨#[115, 104, 108]⟩, .int .i64 2, .int .i64 1, .string ⟨#[115, 104, 114]⟩, .int .i64 2, .int .i64 1, .string ⟨#[115, 97, 114]⟩, .int .i64 2, .int .i64 1, .string ⟨#[117, 100, 105, 118]⟩, .int .i64 2, .int .i64 1, .string ⟨#[117, 114, 101, 109]⟩, .int .i64 2, .int .i64 1, .string ⟨#[101, 113]⟩, .int .i64 2, .int .i64 2, .string ⟨#[117, 108, 116]⟩, .int .i64 2, .int .i64 2, .string ⟨#[115, 108, 116]⟩, .int .i64 2, .int .i64 2, .string ⟨#[105, 116, 101]⟩, .int .i64 3, .int .i64 3, .string ⟨#[99, 111, 110, 99, 97, 116]⟩, .int .i64 2, .int .i64 4, .string ⟨#[101, 120, 116, 114, 97, 99, 116]⟩, .int .i64 1, .int .i64 5, .string ⟨#[122, 101, 120, 116]⟩, .int .i64 1, .int .i64 6, .string ⟨#[115, 101, 120, 116]⟩, .int .i64 1, .int .i64 6, .string ⟨#[108, 111, 97, 100]⟩, .int .i64 1, .int .i64 7] t frozen
      | o => o }
noncomputable def args0 : Array Value := #[.slice none 0 0, .int .u64 0, .int .i64 0, .int .u64 0, .int .u64 0]
theorem laid_met (os : Os) : laidMet Tryz.prog Rows.interpretMemoryUptoRow.laid ((laidWorld os).forCall (fun _ _ => 0) ⟨#[], args0, []⟩).memory :=
  laidMet_of_run' 8 (by kernel_rfl) (by kernel_rfl)
theorem reads (os : Os) {H : Type} (enc : TypeId × Value → H) : ∃ places, DataW.whole enc Tryz.prog ((laidWorld os).forCall (fun _ _ => 0) ⟨#[], args0, []⟩).memory Tryz.f5.params.toList Rows.interpretMemorySpec.vars false args0.toList 8 = some ([.nil, .lit (.int .u64 0), .lit (.int .i64 0), .lit (.int .u64 0), .lit (.int .u64 0)], [], places) :=
  ⟨[], by kernel_rfl⟩
set_option maxRecDepth 100000 in
theorem interpretMemory_lifted (os : Os) (started : os.Started) (H : Type) (enc : TypeId × Value → H) (F : Stop.Interp) :
    ReturnsInHanded {} Tryz.checked os 5 .any ((Rows.OpenSpec.upto Rows.interpretMemorySpec).preRow enc Tryz.prog Tryz.f5 Rows.interpretMemoryUptoRow.domain false Rows.interpretMemoryUptoRow.laid) (((Rows.OpenSpec.upto Rows.interpretMemorySpec).at F).post enc Tryz.prog Tryz.f5 false true false false) := by
  obtain ⟨places, hx⟩ := reads os enc
  refine returnsInHanded_of_row (C := Tryz.checked) (s := Rows.OpenSpec.upto Rows.interpretMemorySpec) ownK started (by kernel_rfl) Tryz.func5
    (witness_row_atRef (enc := enc) (C := Tryz.checked) false (laidWorld os) args0 rfl (by kernel_rfl) (by kernel_rfl) (by kernel_rfl)
      (OpenSpec.preRow_of_cond 8 hx (by kernel_rfl) (fun k hk => by cases hk; kernel_rfl) (by kernel_rfl) (laid_met os))) ?_
  intro W base args ds gs before hval0 hW _ hcond _ hL _ _
  have hval : ∀ (j : Nat) t v, Tryz.f5.params[j]? = some t → args[j]? = some v → Value.okWide Tryz.prog W .any base t v := hval0
  have hbk : Rows.uptoSmall H (ds ++ gs) = true := hcond _ rfl
  have hgl := laid_gl rfl hL
  have hW' := hW
  obtain ⟨p, q, hA0, hV, rfl, hfz, hnd⟩ := hW
  have hA : DataW.TrodAll enc Tryz.prog W 0 (fun _ => true) true Tryz.f5.params.toList args.toList ds p := hA0
  have hB : ∀ W', Below W.heap.size W W' → DataW.TrodAll enc Tryz.prog W' 0 (fun b => decide (b < W.heap.size)) true Tryz.f5.params.toList args.toList ds p := fun W' bel => below_all laidOut bel _ _ _ _ (by kernel_rfl) hA
  rw [Tryz.params5] at hA hval hB
  obtain ⟨v0, vs0, d0, ds0, p0, q0, hargs, rfl, rfl, h0, r0⟩ := trodAll_cons hA
  obtain ⟨v1, vs1, d1, ds1, p1, q1, rfl, rfl, rfl, h1, r1⟩ := trodAll_cons r0
  obtain ⟨v2, vs2, d2, ds2, p2, q2, rfl, rfl, rfl, h2, r2⟩ := trodAll_cons r1
  obtain ⟨v3, vs3, d3, ds3, p3, q3, rfl, rfl, rfl, h3, r3⟩ := trodAll_cons r2
  obtain ⟨v4, vs4, d4, ds4, p4, q4, rfl, rfl, rfl, h4, r4⟩ := trodAll_cons r3
  obtain ⟨rfl, rfl, rfl⟩ := trodAll_nil r4
  obtain rfl : args = #[v0, v1, v2, v3, v4] := by cases args; simp_all
  obtain ⟨rfl, rfl⟩ := trodVars_none hV
  have n0 : ∀ c, v0 ≠ .agg c := by obtain ⟨_, _, _, e⟩ := okWide_slice Tryz.underlying24 (hval 0 24 v0 rfl rfl); intro c; rw [e]; simp
  have n1 : ∀ c, v1 ≠ .agg c := by obtain ⟨_, e⟩ := okWide_int Tryz.underlying23 (hval 1 23 v1 rfl rfl); intro c; rw [e]; simp
  have n2 : ∀ c, v2 ≠ .agg c := by obtain ⟨_, e⟩ := okWide_int Tryz.underlying3 (hval 2 3 v2 rfl rfl); intro c; rw [e]; simp
  have n3 : ∀ c, v3 ≠ .agg c := by obtain ⟨_, e⟩ := okWide_int Tryz.underlying23 (hval 3 23 v3 rfl rfl); intro c; rw [e]; simp
  have n4 : ∀ c, v4 ≠ .agg c := by obtain ⟨_, e⟩ := okWide_int Tryz.underlying23 (hval 4 23 v4 rfl rfl); intro c; rw [e]; simp
  obtain ⟨f0, x0, a0, wv0, bb0⟩ := arg_oneU (S := [24, 35, 23, 5, 3, 4]) (by kernel_rfl) (by decide) n0 h0
  obtain ⟨f1, x1, a1, wv1, bb1⟩ := arg_oneU (S := [24, 35, 23, 5, 3, 4]) (by kernel_rfl) (by decide) n1 h1
  obtain ⟨f2, x2, a2, wv2, bb2⟩ := arg_oneU (S := [24, 35, 23, 5, 3, 4]) (by kernel_rfl) (by decide) n2 h2
  obtain ⟨f3, x3, a3, wv3, bb3⟩ := arg_oneU (S := [24, 35, 23, 5, 3, 4]) (by kernel_rfl) (by decide) n3 h3
  obtain ⟨f4, x4, a4, wv4, bb4⟩ := arg_oneU (S := [24, 35, 23, 5, 3, 4]) (by kernel_rfl) (by decide) n4 h4
  obtain ⟨y0, rfl, g0⟩ := open_cells a0
  obtain ⟨y1, rfl, g1⟩ := open_u64 a1
  obtain ⟨y2, rfl⟩ := open_int a2
  obtain ⟨y3, rfl, g3⟩ := open_u64 a3
  obtain ⟨y4, rfl, g4⟩ := open_u64 a4
  refine (law_calls (xs := [cellsA y0, .int .u64 y1, .int .i64 y2, .int .u64 y3, .int .u64 y4]) (((w205 y0 y1 y3 y4 y2 g0 g1 g3 g4) [] 0).mono fun y h' n' h => h.1) (argR_cons wv0 (argR_cons wv1 (argR_cons wv2 (argR_cons wv3 (argR_cons wv4 argR_nil))))) hgl).mono fun e W' ⟨he, bel⟩ => ?_
  subst he
  exact ⟨_, rfl, _, _, _, [], _, [], hW', trodAll_mk1 (shut_bool Tryz.underlying4 _), hB W' bel, rfl, bel.frame _, fun h => by cases h⟩
theorem interpretMemoryUpto_said : Rows.InterpretMemoryUptoSaid :=
  OpenClaim.holds_of_cond 5 Tryz.f5 rfl rfl rfl rfl rfl rfl rfl ⟨rfl, rfl, rfl, rfl, rfl⟩ rfl rfl rfl rfl rfl (by kernel_rfl) Tryz.func5 (by kernel_rfl)
    (of_decide_eq_true (by kernel_rfl)) (by unfold Func.isWrapper; first | (rw [if_pos (by decide +kernel)]; kernel_rfl) | (rw [if_neg (by decide +kernel)]; exact ⟨rfl, rfl⟩))
    (fun os started H enc _ F => by rw [OpenClaim.pre_eq_preRow]; exact interpretMemory_lifted os started H enc F)
theorem plain5 (f : FuncId) (fn : Func) (hf : Tryz.pinned.checked.prog.funcNamed "retarget/retargetlaw19.InterpretMemory" = some f) (hfn : Tryz.pinned.checked.prog.funcs[f]? = some fn) :
    true = Tryz.pinned.checked.prog.looks [] ∧ ∀ (j : Nat) t, fn.params[j]? = some t → Tryz.pinned.checked.prog.wantsStandIn t = false := by
  obtain rfl : f = 5 := Option.some.inj ((show Tryz.prog.funcNamed "retarget/retargetlaw19.InterpretMemory" = some 5 by kernel_rfl).symm.trans hf) |>.symm
  obtain rfl : fn = Tryz.f5 := (Option.some.inj (Tryz.func5.symm.trans hfn)).symm
  refine ⟨by kernel_rfl, fun j t ht => ?_⟩
  rw [Tryz.params5] at ht
  have hm := Array.mem_of_getElem? ht
  simp only [List.mem_toArray, List.mem_cons, List.not_mem_nil, or_false] at hm
  rcases hm with rfl | rfl | rfl | rfl | rfl
  · exact (show Tryz.prog.wantsStandIn 24 = false by kernel_rfl)
  · exact (show Tryz.prog.wantsStandIn 23 = false by kernel_rfl)
  · exact (show Tryz.prog.wantsStandIn 3 = false by kernel_rfl)
  · exact (show Tryz.prog.wantsStandIn 23 = false by kernel_rfl)
  · exact (show Tryz.prog.wantsStandIn 23 = false by kernel_rfl)
theorem interpretMemoryUptoCard_holds : Rows.InterpretMemoryUptoCardSaid :=
  Claim7.holds_tied_plain_at .later [] _ _ _ _ interpretMemoryUpto_said (fun _ h => by cases h) (by kernel_rfl) (fun _ h => by cases h) interpretMemoryUpto_row_tie rfl ⟨rfl, rfl⟩ (by kernel_rfl) rfl plain5 (by kernel_rfl)
#print axioms interpretMemoryUptoCard_holds
end Go.Proofs.YtdmjloieldhlnaaGreatDoor
