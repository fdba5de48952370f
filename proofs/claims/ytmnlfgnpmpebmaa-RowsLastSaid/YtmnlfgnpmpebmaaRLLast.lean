/- The row of an address is the last one that is not after it: the law RowsLast answers true for any table, place and distance. -/
import Derived.Test.YtmnlfgnpmpebmaaRLB
import Derived.Test.YtmnlfgnpmpebmaaRW20
namespace Go.Proofs.Ytmnlfgnpmpebmaa
open Go Go.Ab Go.Proofs
open Go.ChangeShapes Go.WideShapes Go.ChangeAt Go.RowKit
set_option linter.unusedVariables false

set_option maxRecDepth 100000 in
theorem rowsLast_lifted (os : Os) (started : os.Started) (H : Type) (enc : TypeId × Value → H) :
    ReturnsInHanded {} Try.checked os 8 .any (Rows.rowsLastSpec.pre6 enc Try.prog Try.f8 Rows.rowsLastRow.domain false) (Rows.rowsLastSpec.post enc Try.prog Try.f8 false true false false) := by
  refine returnsInHanded_of_change_sized (C := Try.checked) ownK started (by kernel_rfl) Try.func8
    (ChangeSpec.witness6 (enc := enc) (C := Try.checked) false ⟨#[], #[.slice none 0 0, .int .i64 0, .int .u32 0], []⟩ 8 (by kernel_rfl) (by kernel_rfl) (by kernel_rfl) (by kernel_rfl)) ?_
  intro W base args ds gs before hval0 hW hcnd hsz0 _
  have hsz : (DataW.weightsEach Try.prog (Try.f8.params.toList ++ Rows.rowsLastSpec.plain.varTypes Try.prog) (ds ++ gs)).all (· ≤ reachBytes) = true := hsz0
  have hval : ∀ (j : Nat) t v, Try.f8.params[j]? = some t → args[j]? = some v → Value.okWide Try.prog W .any base t v := hval0
  have hW' := hW
  obtain ⟨p, q, hA0, hV, rfl, hfz, hnd⟩ := hW
  have hA : DataW.TrodAll enc Try.prog W 0 (fun _ => true) true Try.f8.params.toList args.toList ds p := hA0
  have hB : ∀ W', Below W.heap.size W W' → DataW.TrodAll enc Try.prog W' 0 (fun b => decide (b < W.heap.size)) true Try.f8.params.toList args.toList ds p := fun W' bel => below_all laidOut bel _ _ _ _ (by kernel_rfl) hA
  rw [Try.params8] at hA hval hsz hB
  obtain ⟨v0, vs0, d0, ds0, p0, q0, hargs, rfl, rfl, h0, r0⟩ := trodAll_cons hA
  obtain ⟨v1, vs1, d1, ds1, p1, q1, rfl, rfl, rfl, h1, r1⟩ := trodAll_cons r0
  obtain ⟨v2, vs2, d2, ds2, p2, q2, rfl, rfl, rfl, h2, r2⟩ := trodAll_cons r1
  obtain ⟨rfl, rfl, rfl⟩ := trodAll_nil r2
  obtain rfl : args = #[v0, v1, v2] := by cases args; simp_all
  obtain ⟨rfl, rfl⟩ := trodVars_none hV
  have n0 : ∀ c, v0 ≠ .agg c := by obtain ⟨_, _, _, e⟩ := okWide_slice Try.underlying22 (hval 0 22 v0 rfl rfl); intro c; rw [e]; simp
  obtain ⟨f0, x0, a0, wv0⟩ := arg_one (S := [22, 40, 23, 3, 54, 4]) (by kernel_rfl) (by decide) n0 h0
  have n1 : ∀ c, v1 ≠ .agg c := by obtain ⟨_, e⟩ := okWide_int Try.underlying3 (hval 1 3 v1 rfl rfl); intro c; rw [e]; simp
  obtain ⟨f1, x1, a1, wv1⟩ := arg_one (S := [22, 40, 23, 3, 54, 4]) (by kernel_rfl) (by decide) n1 h1
  have n2 : ∀ c, v2 ≠ .agg c := by obtain ⟨_, e⟩ := okWide_int Try.underlying54 (hval 2 54 v2 rfl rfl); intro c; rw [e]; simp
  obtain ⟨f2, x2, a2, wv2⟩ := arg_one (S := [22, 40, 23, 3, 54, 4]) (by kernel_rfl) (by decide) n2 h2
  obtain ⟨y0, rfl, m0, g0⟩ := open_rows a0
  obtain ⟨y1, rfl, g1⟩ := open_int a1
  obtain ⟨y2, rfl, g2⟩ := open_u32 a2
  refine (law_calls (xs := [rowsA y0, .int .i64 y1, .int .u32 y2]) (w8 y0 y1 y2 (wf_rows g0) (wf_i g1).1 (wf_i g1).2 (wf_w g2).1 (wf_w g2).2 0) (argR_cons wv0 (argR_cons wv1 (argR_cons wv2 argR_nil)))).mono fun e W' ⟨he, bel⟩ => ?_
  subst he
  exact ⟨_, rfl, _, _, _, [], _, [], hW', trodAll_mk1 (shut_bool Try.underlying4 _), hB W' bel, rfl, bel.frame _, fun h => by cases h⟩

theorem rowsLast_holds : Rows.RowsLastSaid :=
  OpenClaim.holds_of_wide 8 Try.f8 rfl rfl rfl rfl rfl rfl rfl ⟨rfl, rfl, rfl, rfl, rfl⟩ rfl rfl rfl rfl rfl (by kernel_rfl) Try.func8 (by kernel_rfl)
    (of_decide_eq_true (by kernel_rfl)) (by unfold Func.isWrapper; first | (rw [if_pos (by decide +kernel)]; kernel_rfl) | (rw [if_neg (by decide +kernel)]; exact ⟨rfl, rfl⟩))
    (fun os started H enc _ => rowsLast_lifted os started H enc)
#print axioms rowsLast_holds
end Go.Proofs.Ytmnlfgnpmpebmaa
