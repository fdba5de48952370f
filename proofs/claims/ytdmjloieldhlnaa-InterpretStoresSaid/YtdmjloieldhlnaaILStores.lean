/- For any memory, numbers and outcomes the law InterpretStores answers true: Store and Same agree with the reference, and Store shares no memory with its argument. -/
import Derived.Test.YtdmjloieldhlnaaIL0
namespace Go.Proofs.Ytdmjloieldhlnaa
open Go Go.Ab Go.Proofs
open Go.ChangeShapes Go.WideShapes Go.ChangeAt Go.RowKit
set_option linter.unusedVariables false

set_option maxRecDepth 100000 in
theorem interpretStores_lifted (os : Os) (started : os.Started) (H : Type) (enc : TypeId × Value → H) :
    ReturnsInHanded {} Try.checked os 3 .any (Rows.interpretStoresSpec.pre6 enc Try.prog Try.f3 Rows.interpretStoresRow.domain false) (Rows.interpretStoresSpec.post enc Try.prog Try.f3 false true false false) := by
  refine returnsInHanded_of_change_sized (C := Try.checked) ownK started (by kernel_rfl) Try.func3
    (ChangeSpec.witness6 (enc := enc) (C := Try.checked) false ⟨#[], #[.slice none 0 0, .int .u64 0, .int .i64 0, .int .u64 0, .agg #[.slice none 0 0, .int .u8 0, .int .u64 0, .slice none 0 0], .agg #[.slice none 0 0, .int .u8 0, .int .u64 0, .slice none 0 0]], []⟩ 8 (by kernel_rfl) (by kernel_rfl) (by kernel_rfl) (by kernel_rfl)) ?_
  intro W base args ds gs before hval0 hW hcnd hsz0 _
  have hsz : (DataW.weightsEach Try.prog (Try.f3.params.toList ++ Rows.interpretStoresSpec.plain.varTypes Try.prog) (ds ++ gs)).all (· ≤ reachBytes) = true := hsz0
  have hval : ∀ (j : Nat) t v, Try.f3.params[j]? = some t → args[j]? = some v → Value.okWide Try.prog W .any base t v := hval0
  have hW' := hW
  obtain ⟨p, q, hA0, hV, rfl, hfz, hnd⟩ := hW
  have hA : DataW.TrodAll enc Try.prog W 0 (fun _ => true) true Try.f3.params.toList args.toList ds p := hA0
  have hB : ∀ W', Below W.heap.size W W' → DataW.TrodAll enc Try.prog W' 0 (fun b => decide (b < W.heap.size)) true Try.f3.params.toList args.toList ds p := fun W' bel => below_all laidOut bel _ _ _ _ (by kernel_rfl) hA
  rw [Try.params3] at hA hval hsz hB
  obtain ⟨v0, vs0, d0, ds0, p0, q0, hargs, rfl, rfl, h0, r0⟩ := trodAll_cons hA
  obtain ⟨v1, vs1, d1, ds1, p1, q1, rfl, rfl, rfl, h1, r1⟩ := trodAll_cons r0
  obtain ⟨v2, vs2, d2, ds2, p2, q2, rfl, rfl, rfl, h2, r2⟩ := trodAll_cons r1
  obtain ⟨v3, vs3, d3, ds3, p3, q3, rfl, rfl, rfl, h3, r3⟩ := trodAll_cons r2
  obtain ⟨v4, vs4, d4, ds4, p4, q4, rfl, rfl, rfl, h4, r4⟩ := trodAll_cons r3
  obtain ⟨v5, vs5, d5, ds5, p5, q5, rfl, rfl, rfl, h5, r5⟩ := trodAll_cons r4
  obtain ⟨rfl, rfl, rfl⟩ := trodAll_nil r5
  obtain rfl : args = #[v0, v1, v2, v3, v4, v5] := by cases args; simp_all
  obtain ⟨rfl, rfl⟩ := trodVars_none hV
  have n0 : ∀ c, v0 ≠ .agg c := by obtain ⟨_, _, _, e⟩ := okWide_slice Try.underlying22 (hval 0 22 v0 rfl rfl); intro c; rw [e]; simp
  obtain ⟨f0, x0, a0, wv0⟩ := arg_one (S := [22, 36, 23, 24, 26, 3, 5, 4]) (by kernel_rfl) (by decide) n0 h0
  have n1 : ∀ c, v1 ≠ .agg c := by obtain ⟨_, e⟩ := okWide_int Try.underlying23 (hval 1 23 v1 rfl rfl); intro c; rw [e]; simp
  obtain ⟨f1, x1, a1, wv1⟩ := arg_one (S := [22, 36, 23, 24, 26, 3, 5, 4]) (by kernel_rfl) (by decide) n1 h1
  have n2 : ∀ c, v2 ≠ .agg c := by obtain ⟨_, e⟩ := okWide_int Try.underlying3 (hval 2 3 v2 rfl rfl); intro c; rw [e]; simp
  obtain ⟨f2, x2, a2, wv2⟩ := arg_one (S := [22, 36, 23, 24, 26, 3, 5, 4]) (by kernel_rfl) (by decide) n2 h2
  have n3 : ∀ c, v3 ≠ .agg c := by obtain ⟨_, e⟩ := okWide_int Try.underlying23 (hval 3 23 v3 rfl rfl); intro c; rw [e]; simp
  obtain ⟨f3, x3, a3, wv3⟩ := arg_one (S := [22, 36, 23, 24, 26, 3, 5, 4]) (by kernel_rfl) (by decide) n3 h3
  obtain ⟨c4, rfl, _⟩ := okWide_struct Try.underlying26 (hval 4 26 v4 rfl rfl)
  obtain ⟨f4, x4, a4, wv4⟩ := arg_agg (S := [22, 36, 23, 24, 26, 3, 5, 4]) (by kernel_rfl) (by decide) h4
  obtain ⟨c5, rfl, _⟩ := okWide_struct Try.underlying26 (hval 5 26 v5 rfl rfl)
  obtain ⟨f5, x5, a5, wv5⟩ := arg_agg (S := [22, 36, 23, 24, 26, 3, 5, 4]) (by kernel_rfl) (by decide) h5
  obtain ⟨y0, rfl, g0⟩ := open_cells a0
  obtain ⟨y1, rfl, g1⟩ := open_u64 a1
  obtain ⟨y2, rfl⟩ := open_int a2
  obtain ⟨y3, rfl, g3⟩ := open_u64 a3
  obtain ⟨A4, e4, r4, M4, hx4⟩ := open_out a4; rw [hx4] at wv4
  obtain ⟨A5, e5, r5, M5, hx5⟩ := open_out a5; rw [hx5] at wv5
  refine (law_calls (xs := [cellsA y0, .int .u64 y1, .int .i64 y2, .int .u64 y3, outA A4 e4 r4 M4, outA A5 e5 r5 M5]) (w3 y0 y1 y3 y2 A4 A5 e4 e5 r4 r5 M4 M5 g0 g1 g3 0) (argR_cons wv0 (argR_cons wv1 (argR_cons wv2 (argR_cons wv3 (argR_cons wv4 (argR_cons wv5 argR_nil))))))).mono fun e W' ⟨he, bel⟩ => ?_
  subst he
  exact ⟨_, rfl, _, _, _, [], _, [], hW', trodAll_mk1 (shut_bool Try.underlying4 _), hB W' bel, rfl, bel.frame _, fun h => by cases h⟩

theorem interpretStores_holds : Rows.InterpretStoresSaid :=
  OpenClaim.holds_of_wide 3 Try.f3 rfl rfl rfl rfl rfl rfl rfl ⟨rfl, rfl, rfl, rfl, rfl⟩ rfl rfl rfl rfl rfl (by kernel_rfl) Try.func3 (by kernel_rfl)
    (of_decide_eq_true (by kernel_rfl)) (by unfold Func.isWrapper; first | (rw [if_pos (by decide +kernel)]; kernel_rfl) | (rw [if_neg (by decide +kernel)]; exact ⟨rfl, rfl⟩))
    (fun os started H enc _ => interpretStores_lifted os started H enc)
#print axioms interpretStores_holds
end Go.Proofs.Ytdmjloieldhlnaa
