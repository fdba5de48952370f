/- The line of an address in a joined table, and in a shifted one: the law RowsJoined answers true for any tables, number and address. -/
import Derived.Test.YtmnlfgnpmpebmaaRLB
import Derived.Test.YtmnlfgnpmpebmaaRW21
namespace Go.Proofs.Ytmnlfgnpmpebmaa
open Go Go.Ab Go.Proofs
open Go.ChangeShapes Go.WideShapes Go.ChangeAt Go.RowKit
set_option linter.unusedVariables false

set_option maxRecDepth 100000 in
theorem rowsJoined_lifted (os : Os) (started : os.Started) (H : Type) (enc : TypeId × Value → H) :
    ReturnsInHanded {} Try.checked os 10 .any (Rows.rowsJoinedSpec.pre6 enc Try.prog Try.f10 Rows.rowsJoinedRow.domain false) (Rows.rowsJoinedSpec.post enc Try.prog Try.f10 false true false false) := by
  refine returnsInHanded_of_change_sized (C := Try.checked) ownK started (by kernel_rfl) Try.func10
    (ChangeSpec.witness6 (enc := enc) (C := Try.checked) false ⟨#[], #[.slice none 0 0, .slice none 0 0, .int .u64 0, .int .u64 0], []⟩ 8 (by kernel_rfl) (by kernel_rfl) (by kernel_rfl) (by kernel_rfl)) ?_
  intro W base args ds gs before hval0 hW hcnd hsz0 _
  have hsz : (DataW.weightsEach Try.prog (Try.f10.params.toList ++ Rows.rowsJoinedSpec.plain.varTypes Try.prog) (ds ++ gs)).all (· ≤ reachBytes) = true := hsz0
  have hval : ∀ (j : Nat) t v, Try.f10.params[j]? = some t → args[j]? = some v → Value.okWide Try.prog W .any base t v := hval0
  have hW' := hW
  obtain ⟨p, q, hA0, hV, rfl, hfz, hnd⟩ := hW
  have hA : DataW.TrodAll enc Try.prog W 0 (fun _ => true) true Try.f10.params.toList args.toList ds p := hA0
  have hB : ∀ W', Below W.heap.size W W' → DataW.TrodAll enc Try.prog W' 0 (fun b => decide (b < W.heap.size)) true Try.f10.params.toList args.toList ds p := fun W' bel => below_all laidOut bel _ _ _ _ (by kernel_rfl) hA
  rw [Try.params10] at hA hval hsz hB
  obtain ⟨v0, vs0, d0, ds0, p0, q0, hargs, rfl, rfl, h0, r0⟩ := trodAll_cons hA
  obtain ⟨v1, vs1, d1, ds1, p1, q1, rfl, rfl, rfl, h1, r1⟩ := trodAll_cons r0
  obtain ⟨v2, vs2, d2, ds2, p2, q2, rfl, rfl, rfl, h2, r2⟩ := trodAll_cons r1
  obtain ⟨v3, vs3, d3, ds3, p3, q3, rfl, rfl, rfl, h3, r3⟩ := trodAll_cons r2
  obtain ⟨rfl, rfl, rfl⟩ := trodAll_nil r3
  obtain rfl : args = #[v0, v1, v2, v3] := by cases args; simp_all
  obtain ⟨rfl, rfl⟩ := trodVars_none hV
  have n0 : ∀ c, v0 ≠ .agg c := by obtain ⟨_, _, _, e⟩ := okWide_slice Try.underlying22 (hval 0 22 v0 rfl rfl); intro c; rw [e]; simp
  obtain ⟨f0, x0, a0, wv0⟩ := arg_one (S := [22, 40, 23, 3, 4]) (by kernel_rfl) (by decide) n0 h0
  have n1 : ∀ c, v1 ≠ .agg c := by obtain ⟨_, _, _, e⟩ := okWide_slice Try.underlying22 (hval 1 22 v1 rfl rfl); intro c; rw [e]; simp
  obtain ⟨f1, x1, a1, wv1⟩ := arg_one (S := [22, 40, 23, 3, 4]) (by kernel_rfl) (by decide) n1 h1
  have n2 : ∀ c, v2 ≠ .agg c := by obtain ⟨_, e⟩ := okWide_int Try.underlying23 (hval 2 23 v2 rfl rfl); intro c; rw [e]; simp
  obtain ⟨f2, x2, a2, wv2⟩ := arg_one (S := [22, 40, 23, 3, 4]) (by kernel_rfl) (by decide) n2 h2
  have n3 : ∀ c, v3 ≠ .agg c := by obtain ⟨_, e⟩ := okWide_int Try.underlying23 (hval 3 23 v3 rfl rfl); intro c; rw [e]; simp
  obtain ⟨f3, x3, a3, wv3⟩ := arg_one (S := [22, 40, 23, 3, 4]) (by kernel_rfl) (by decide) n3 h3
  obtain ⟨y0, rfl, m0, g0⟩ := open_rows a0
  obtain ⟨y1, rfl, m1, g1⟩ := open_rows a1
  obtain ⟨y2, rfl, g2⟩ := open_u64 a2
  obtain ⟨y3, rfl, g3⟩ := open_u64 a3
  refine (law_calls (xs := [rowsA y0, rowsA y1, .int .u64 y2, .int .u64 y3]) (w10 y0 y1 y2 y3 (wf_rows g0) (wf_rows g1) (wf_u g2).1 (wf_u g2).2 (wf_u g3).1 (wf_u g3).2 0) (argR_cons wv0 (argR_cons wv1 (argR_cons wv2 (argR_cons wv3 argR_nil))))).mono fun e W' ⟨he, bel⟩ => ?_
  subst he
  exact ⟨_, rfl, _, _, _, [], _, [], hW', trodAll_mk1 (shut_bool Try.underlying4 _), hB W' bel, rfl, bel.frame _, fun h => by cases h⟩

theorem rowsJoined_holds : Rows.RowsJoinedSaid :=
  OpenClaim.holds_of_wide 10 Try.f10 rfl rfl rfl rfl rfl rfl rfl ⟨rfl, rfl, rfl, rfl, rfl⟩ rfl rfl rfl rfl rfl (by kernel_rfl) Try.func10 (by kernel_rfl)
    (of_decide_eq_true (by kernel_rfl)) (by unfold Func.isWrapper; first | (rw [if_pos (by decide +kernel)]; kernel_rfl) | (rw [if_neg (by decide +kernel)]; exact ⟨rfl, rfl⟩))
    (fun os started H enc _ => rowsJoined_lifted os started H enc)
#print axioms rowsJoined_holds
end Go.Proofs.Ytmnlfgnpmpebmaa
