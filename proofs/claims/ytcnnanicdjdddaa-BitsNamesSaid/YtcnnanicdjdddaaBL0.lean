/- Arguments of the statements on bit vectors. -/
import Derived.Test.YtcnnanicdjdddaaCore22
import Derived.Test.YtcnnanicdjdddaaBA1
import Derived.WalkKit
import Derived.OpenShut
import Derived.ShutString
import Derived.ChangeOld
import Derived.Below
namespace Go.Proofs.Ytcnnanicdjdddaa
open Go Go.Ab Go.Proofs
open Go.ChangeShapes Go.WideShapes Go.ChangeAt Go.RowKit
set_option linter.unusedVariables false
theorem ownK : ownKnob Try.prog.godebug = none := by kernel_rfl
theorem laidOut : laidOutB Try.prog = true := by kernel_rfl
theorem wf_u64 {a : Int} (h : (Lit.int .u64 a).wf = true) : ∃ n : Nat, a = (n : Int) ∧ n < 18446744073709551616 := by
  simp only [Lit.wf, IntKind.min, IntKind.max, IntKind.signed, IntKind.bits, Bool.and_eq_true, decide_eq_true_eq, Bool.false_eq_true, if_false] at h
  exact ⟨a.toNat, by omega, by omega⟩
theorem wf_u8 {a : Int} (h : (Lit.int .u8 a).wf = true) : ∃ n : Nat, a = (n : Int) ∧ n < 256 := by
  simp only [Lit.wf, IntKind.min, IntKind.max, IntKind.signed, IntKind.bits, Bool.and_eq_true, decide_eq_true_eq, Bool.false_eq_true, if_false] at h
  exact ⟨a.toNat, by omega, by omega⟩
theorem wf_i64 {a : Int} (h : (Lit.int .i64 a).wf = true) : -9223372036854775808 ≤ a ∧ a < 9223372036854775808 := by
  simp only [Lit.wf, IntKind.min, IntKind.max, IntKind.signed, IntKind.bits, Bool.and_eq_true, decide_eq_true_eq, if_true] at h
  omega
theorem open_u64 {n : Nat} {x : AV} (h : AT Try.prog n 22 [x]) : ∃ a : Nat, x = .int .u64 a ∧ a < 18446744073709551616 := by
  cases n with
  | zero => exact h.elim
  | succ n =>
    simp only [AT, Try.underlying22] at h
    obtain ⟨i, he, hw⟩ := h
    obtain ⟨a, rfl, ha⟩ := wf_u64 hw
    exact ⟨a, by simpa using he, ha⟩
theorem open_u8 {n : Nat} {x : AV} (h : AT Try.prog n 5 [x]) : ∃ a : Nat, x = .int .u8 a ∧ a < 256 := by
  cases n with
  | zero => exact h.elim
  | succ n =>
    simp only [AT, Try.underlying5] at h
    obtain ⟨i, he, hw⟩ := h
    obtain ⟨a, rfl, ha⟩ := wf_u8 hw
    exact ⟨a, by simpa using he, ha⟩
theorem open_int3 {n : Nat} {x : AV} (h : AT Try.prog n 3 [x]) : ∃ a : Int, x = .int .i64 a ∧ -9223372036854775808 ≤ a ∧ a < 9223372036854775808 := by
  cases n with
  | zero => exact h.elim
  | succ n =>
    simp only [AT, Try.underlying3] at h
    obtain ⟨i, he, hw⟩ := h
    exact ⟨i, by simpa using he, wf_i64 hw⟩
theorem open_i64 {n : Nat} {x : AV} (h : AT Try.prog n 2 [x]) : ∃ a : Int, x = .int .i64 a ∧ -9223372036854775808 ≤ a ∧ a < 9223372036854775808 := by
  cases n with
  | zero => exact h.elim
  | succ n =>
    simp only [AT, Try.underlying2] at h
    obtain ⟨i, he, hw⟩ := h
    exact ⟨i, by simpa using he, wf_i64 hw⟩
theorem open_bool4 {n : Nat} {x : AV} (h : AT Try.prog n 4 [x]) : ∃ a : Bool, x = .bool a := by
  cases n with
  | zero => exact h.elim
  | succ n =>
    simp only [AT, Try.underlying4] at h
    obtain ⟨i, he⟩ := h
    exact ⟨i, by simpa using he⟩
theorem open_str9 {n : Nat} {x : AV} (h : AT Try.prog n 9 [x]) : ∃ s : List UInt8, x = .str s ∧ s.length ≤ maxLen := by
  cases n with
  | zero => exact h.elim
  | succ n =>
    simp only [AT, Try.underlying9] at h
    obtain ⟨i, he, hw⟩ := h
    exact ⟨i, by simpa using he, hw⟩
end Go.Proofs.Ytcnnanicdjdddaa
