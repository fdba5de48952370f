/- For every table and address the law RowsFinds answers true: Check and Find agree with the reference. -/
import Derived.Test.YtmnlfgnpmpebmaaCore22
import Derived.Test.YtmnlfgnpmpebmaaRW2
import Derived.WalkKit
import Derived.OpenShut
import Derived.ShutString
import Derived.ChangeOld
import Derived.Below
namespace Go.Proofs.Ytmnlfgnpmpebmaa
open Go Go.Ab Go.Proofs
open Go.ChangeShapes Go.WideShapes Go.ChangeAt Go.RowKit
open Go.ChangeMaps (open_string shut_string)
set_option linter.unusedVariables false
theorem ownK : ownKnob Try.prog.godebug = none := by kernel_rfl
theorem laidOut : laidOutB Try.prog = true := by kernel_rfl

theorem open_rows {n : Nat} {x : AV} (h : AT Try.prog n 22 [x]) : ∃ l : List (Int × Int), x = rowsA l ∧ l.length ≤ maxLen ∧ ∀ r ∈ l, (Lit.int .u64 r.1).wf = true ∧ (Lit.int .i64 r.2).wf = true := by
  cases n with
  | zero => exact h.elim
  | succ n =>
    simp only [AT, Try.underlying22] at h
    obtain ⟨es, he, hm, hes⟩ := h
    have hc : Try.prog.cellsOf 40 = 2 := by kernel_rfl
    simp only [List.cons.injEq, and_true] at he
    subst he
    rw [hc]
    have key : ∀ x ∈ es, ∃ r : Int × Int, x = rowE r ∧ (Lit.int .u64 r.1).wf = true ∧ (Lit.int .i64 r.2).wf = true := by
      intro x hx
      obtain ⟨_, ha⟩ := hes x hx
      cases n with
      | zero => exact ha.elim
      | succ n =>
        simp only [AT, Try.underlying40] at ha
        obtain ⟨y, z, rfl, h1, y2, z2, rfl, h2, h3⟩ := ha
        subst h3
        cases n with
        | zero => exact h1.elim
        | succ n =>
          simp only [AT, Try.underlying23, Try.underlying3] at h1 h2
          obtain ⟨a, rfl, ha⟩ := h1
          obtain ⟨b, rfl, hb⟩ := h2
          exact ⟨(a, b), rfl, ha, hb⟩
    clear hes
    have : ∃ l : List (Int × Int), es = l.map rowE ∧ ∀ r ∈ l, (Lit.int .u64 r.1).wf = true ∧ (Lit.int .i64 r.2).wf = true := by
      clear hm
      induction es with
      | nil => exact ⟨[], rfl, fun r h => by simp at h⟩
      | cons e es ih =>
        obtain ⟨l, hl, hw⟩ := ih fun x hx => key x (List.mem_cons_of_mem _ hx)
        obtain ⟨r, hr, hr2⟩ := key e List.mem_cons_self
        exact ⟨r :: l, by rw [hl, hr]; rfl, fun q hq => by rcases List.mem_cons.1 hq with rfl | hq; exact hr2; exact hw q hq⟩
    obtain ⟨l, rfl, hw⟩ := this
    exact ⟨l, rfl, by simpa using hm, hw⟩
theorem open_u64 {n : Nat} {x : AV} (h : AT Try.prog n 23 [x]) : ∃ a, x = .int .u64 a ∧ (Lit.int .u64 a).wf = true := by
  cases n with
  | zero => exact h.elim
  | succ n => simp only [AT, Try.underlying23] at h; simpa using h

set_option maxRecDepth 100000 in
theorem rowsFinds_lifted (os : Os) (started : os.Started) (H : Type) (enc : TypeId × Value → H) :
    ReturnsInHanded {} Try.checked os 3 .any (Rows.rowsFindsSpec.pre6 enc Try.prog Try.f3 Rows.rowsFindsRow.domain false) (Rows.rowsFindsSpec.post enc Try.prog Try.f3 false true false false) := by
  refine returnsInHanded_of_change_sized (C := Try.checked) ownK started (by kernel_rfl) Try.func3
    (ChangeSpec.witness6 (enc := enc) (C := Try.checked) false ⟨#[], #[.slice none 0 0, .int .u64 0], []⟩ 8 (by kernel_rfl) (by kernel_rfl) (by kernel_rfl) (by kernel_rfl)) ?_
  intro W base args ds gs before hval0 hW hcnd hsz0 _
  have hsz : (DataW.weightsEach Try.prog (Try.f3.params.toList ++ Rows.rowsFindsSpec.plain.varTypes Try.prog) (ds ++ gs)).all (· ≤ reachBytes) = true := hsz0
  have hval : ∀ (j : Nat) t v, Try.f3.params[j]? = some t → args[j]? = some v → Value.okWide Try.prog W .any base t v := hval0
  have hW' := hW
  obtain ⟨p, q, hA0, hV, rfl, hfz, hnd⟩ := hW
  have hA : DataW.TrodAll enc Try.prog W 0 (fun _ => true) true Try.f3.params.toList args.toList ds p := hA0
  have hB : ∀ W', Below W.heap.size W W' → DataW.TrodAll enc Try.prog W' 0 (fun b => decide (b < W.heap.size)) true Try.f3.params.toList args.toList ds p := fun W' bel => below_all laidOut bel _ _ _ _ (by kernel_rfl) hA
  rw [Try.params3] at hA hval hsz hB
  obtain ⟨v0, vs0, d0, ds0, p0, q0, hargs, rfl, rfl, h0, r0⟩ := trodAll_cons hA
  obtain ⟨v1, vs1, d1, ds1, p1, q1, rfl, rfl, rfl, h1, r1⟩ := trodAll_cons r0
  obtain ⟨rfl, rfl, rfl⟩ := trodAll_nil r1
  obtain rfl : args = #[v0, v1] := by cases args; simp_all
  obtain ⟨rfl, rfl⟩ := trodVars_none hV
  have n0 : ∀ c, v0 ≠ .agg c := by obtain ⟨_, _, _, e⟩ := okWide_slice Try.underlying22 (hval 0 22 v0 rfl rfl); intro c; rw [e]; simp
  obtain ⟨f0, x0, a0, w0⟩ := arg_one (S := [22, 40, 23, 3]) (by kernel_rfl) (by decide) n0 h0
  have n1 : ∀ c, v1 ≠ .agg c := by obtain ⟨_, e⟩ := okWide_int Try.underlying23 (hval 1 23 v1 rfl rfl); intro c; rw [e]; simp
  obtain ⟨f1, x1, a1, w1⟩ := arg_one (S := [22, 40, 23, 3]) (by kernel_rfl) (by decide) n1 h1
  obtain ⟨l0, rfl, m0, g0⟩ := open_rows a0
  obtain ⟨y1, rfl, g1⟩ := open_u64 a1
  refine (law_calls (xs := [rowsA l0, .int .u64 y1]) (w3 l0 y1 0) (argR_cons w0 (argR_cons w1 argR_nil))).mono fun e W' ⟨he, bel⟩ => ?_
  subst he
  exact ⟨_, rfl, _, _, _, [], _, [], hW', trodAll_mk1 (shut_bool Try.underlying4 _), hB W' bel, rfl, bel.frame _, fun h => by cases h⟩

theorem rowsFinds_holds : Rows.RowsFindsSaid :=
  OpenClaim.holds_of_wide 3 Try.f3 rfl rfl rfl rfl rfl rfl rfl ⟨rfl, rfl, rfl, rfl, rfl⟩ rfl rfl rfl rfl rfl (by kernel_rfl) Try.func3 (by kernel_rfl)
    (of_decide_eq_true (by kernel_rfl)) (by unfold Func.isWrapper; first | (rw [if_pos (by decide +kernel)]; kernel_rfl) | (rw [if_neg (by decide +kernel)]; exact ⟨rfl, rfl⟩))
    (fun os started H enc _ => rowsFinds_lifted os started H enc)
#print axioms rowsFinds_holds
end Go.Proofs.Ytmnlfgnpmpebmaa
