/- Arguments of the statements on packed tables. -/
import Derived.Test.YtmnlfgnpmpebmaaRL0
import Derived.Test.YtmnlfgnpmpebmaaRW7
namespace Go.Proofs.Ytmnlfgnpmpebmaa
open Go Go.Ab Go.Proofs
open Go.ChangeShapes Go.WideShapes Go.ChangeAt Go.RowKit
set_option linter.unusedVariables false
theorem open_bytes {n : Nat} {x : AV} (h : AT Try.prog n 42 [x]) : ∃ b : List Nat, x = bytesA b ∧ b.length ≤ maxLen ∧ ∀ z ∈ b, z < 256 := by
  cases n with
  | zero => exact h.elim
  | succ n =>
    simp only [AT, Try.underlying42] at h
    obtain ⟨es, he, hm, hes⟩ := h
    have hc : Try.prog.cellsOf 5 = 1 := by kernel_rfl
    simp only [List.cons.injEq, and_true] at he
    subst he
    rw [hc]
    have key : ∀ x ∈ es, ∃ z : Nat, x = byE z ∧ z < 256 := by
      intro x hx
      obtain ⟨_, ha⟩ := hes x hx
      cases n with
      | zero => exact ha.elim
      | succ n =>
        simp only [AT, Try.underlying5] at ha
        obtain ⟨i, rfl, hi⟩ := ha
        simp only [Lit.wf, IntKind.min, IntKind.max, IntKind.signed, IntKind.bits, Bool.and_eq_true, decide_eq_true_eq, Bool.false_eq_true, if_false] at hi
        refine ⟨i.toNat, ?_, by omega⟩
        simp only [byE]
        rw [Int.toNat_of_nonneg (by omega)]
    clear hes
    have : ∃ b : List Nat, es = b.map byE ∧ ∀ z ∈ b, z < 256 := by
      clear hm
      induction es with
      | nil => exact ⟨[], rfl, fun r h => by simp at h⟩
      | cons e es ih =>
        obtain ⟨l, hl, hw⟩ := ih fun x hx => key x (List.mem_cons_of_mem _ hx)
        obtain ⟨r, hr, hr2⟩ := key e List.mem_cons_self
        exact ⟨r :: l, by rw [hl, hr]; rfl, fun q hq => by rcases List.mem_cons.1 hq with rfl | hq; exact hr2; exact hw q hq⟩
    obtain ⟨b, rfl, hw⟩ := this
    exact ⟨b, rfl, by simpa using hm, hw⟩
theorem open_int {n : Nat} {x : AV} (h : AT Try.prog n 3 [x]) : ∃ a, x = .int .i64 a ∧ (Lit.int .i64 a).wf = true := by
  cases n with
  | zero => exact h.elim
  | succ n => simp only [AT, Try.underlying3] at h; simpa using h
theorem open_u32 {n : Nat} {x : AV} (h : AT Try.prog n 54 [x]) : ∃ a, x = .int .u32 a ∧ (Lit.int .u32 a).wf = true := by
  cases n with
  | zero => exact h.elim
  | succ n => simp only [AT, Try.underlying54] at h; simpa using h
theorem wf_i {a : Int} (h : (Lit.int .i64 a).wf = true) : -9223372036854775808 ≤ a ∧ a < 9223372036854775808 := by
  simp only [Lit.wf, IntKind.min, IntKind.max, IntKind.signed, IntKind.bits, Bool.and_eq_true, decide_eq_true_eq, if_true] at h
  omega
theorem wf_w {a : Int} (h : (Lit.int .u32 a).wf = true) : 0 ≤ a ∧ a < 4294967296 := by
  simp only [Lit.wf, IntKind.min, IntKind.max, IntKind.signed, IntKind.bits, Bool.and_eq_true, decide_eq_true_eq, Bool.false_eq_true, if_false] at h
  omega
end Go.Proofs.Ytmnlfgnpmpebmaa
