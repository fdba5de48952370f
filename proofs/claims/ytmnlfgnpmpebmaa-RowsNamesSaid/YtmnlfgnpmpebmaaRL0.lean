/- Arguments of the statements on tables. -/
import Derived.Test.YtmnlfgnpmpebmaaCore22
import Derived.Test.YtmnlfgnpmpebmaaRW4
import Derived.WalkKit
import Derived.OpenShut
import Derived.ShutString
import Derived.ChangeOld
import Derived.Below
namespace Go.Proofs.Ytmnlfgnpmpebmaa
open Go Go.Ab Go.Proofs
open Go.ChangeShapes Go.WideShapes Go.ChangeAt Go.RowKit
open Go.ChangeMaps (open_string shut_string)
set_option linter.unusedVariables false
theorem ownK : ownKnob Try.prog.godebug = none := by kernel_rfl
theorem laidOut : laidOutB Try.prog = true := by kernel_rfl

theorem open_rows {n : Nat} {x : AV} (h : AT Try.prog n 22 [x]) : ∃ l : List (Int × Int), x = rowsA l ∧ l.length ≤ maxLen ∧ ∀ r ∈ l, (Lit.int .u64 r.1).wf = true ∧ (Lit.int .i64 r.2).wf = true := by
  cases n with
  | zero => exact h.elim
  | succ n =>
    simp only [AT, Try.underlying22] at h
    obtain ⟨es, he, hm, hes⟩ := h
    have hc : Try.prog.cellsOf 40 = 2 := by kernel_rfl
    simp only [List.cons.injEq, and_true] at he
    subst he
    rw [hc]
    have key : ∀ x ∈ es, ∃ r : Int × Int, x = rowE r ∧ (Lit.int .u64 r.1).wf = true ∧ (Lit.int .i64 r.2).wf = true := by
      intro x hx
      obtain ⟨_, ha⟩ := hes x hx
      cases n with
      | zero => exact ha.elim
      | succ n =>
        simp only [AT, Try.underlying40] at ha
        obtain ⟨y, z, rfl, h1, y2, z2, rfl, h2, h3⟩ := ha
        subst h3
        cases n with
        | zero => exact h1.elim
        | succ n =>
          simp only [AT, Try.underlying23, Try.underlying3] at h1 h2
          obtain ⟨a, rfl, ha⟩ := h1
          obtain ⟨b, rfl, hb⟩ := h2
          exact ⟨(a, b), rfl, ha, hb⟩
    clear hes
    have : ∃ l : List (Int × Int), es = l.map rowE ∧ ∀ r ∈ l, (Lit.int .u64 r.1).wf = true ∧ (Lit.int .i64 r.2).wf = true := by
      clear hm
      induction es with
      | nil => exact ⟨[], rfl, fun r h => by simp at h⟩
      | cons e es ih =>
        obtain ⟨l, hl, hw⟩ := ih fun x hx => key x (List.mem_cons_of_mem _ hx)
        obtain ⟨r, hr, hr2⟩ := key e List.mem_cons_self
        exact ⟨r :: l, by rw [hl, hr]; rfl, fun q hq => by rcases List.mem_cons.1 hq with rfl | hq; exact hr2; exact hw q hq⟩
    obtain ⟨l, rfl, hw⟩ := this
    exact ⟨l, rfl, by simpa using hm, hw⟩
theorem open_u64 {n : Nat} {x : AV} (h : AT Try.prog n 23 [x]) : ∃ a, x = .int .u64 a ∧ (Lit.int .u64 a).wf = true := by
  cases n with
  | zero => exact h.elim
  | succ n => simp only [AT, Try.underlying23] at h; simpa using h

theorem wf_u {a : Int} (h : (Lit.int .u64 a).wf = true) : 0 ≤ a ∧ a < 18446744073709551616 := by
  simp only [Lit.wf, IntKind.min, IntKind.max, IntKind.signed, IntKind.bits, Bool.and_eq_true, decide_eq_true_eq, Bool.false_eq_true, if_false] at h
  omega
theorem wf_rows {l : List (Int × Int)} (h : ∀ r ∈ l, (Lit.int .u64 r.1).wf = true ∧ (Lit.int .i64 r.2).wf = true) : wfR l := fun r hr => wf_u (h r hr).1
end Go.Proofs.Ytmnlfgnpmpebmaa
