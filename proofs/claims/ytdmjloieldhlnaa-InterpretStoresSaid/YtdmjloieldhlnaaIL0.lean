/- Arguments of the statement on memories. -/
import Derived.Test.YtdmjloieldhlnaaCore22
import Derived.Test.YtdmjloieldhlnaaIW18
import Derived.WalkKit
import Derived.OpenShut
import Derived.ShutString
import Derived.ChangeOld
import Derived.Below
namespace Go.Proofs.Ytdmjloieldhlnaa
open Go Go.Ab Go.Proofs
open Go.ChangeShapes Go.WideShapes Go.ChangeAt Go.RowKit
open Go.ChangeMaps (open_string shut_string)
set_option linter.unusedVariables false
theorem ownK : ownKnob Try.prog.godebug = none := by kernel_rfl
theorem laidOut : laidOutB Try.prog = true := by kernel_rfl


theorem wf_u {a : Int} (h : (Lit.int .u64 a).wf = true) : ∃ n : Nat, a = n ∧ n < 18446744073709551616 := by
  simp only [Lit.wf, IntKind.min, IntKind.max, IntKind.signed, IntKind.bits, Bool.and_eq_true, decide_eq_true_eq, Bool.false_eq_true, if_false] at h
  exact ⟨a.toNat, by omega, by omega⟩
theorem open_u64 {n : Nat} {x : AV} (h : AT Try.prog n 23 [x]) : ∃ a : Nat, x = .int .u64 a ∧ a < 18446744073709551616 := by
  cases n with
  | zero => exact h.elim
  | succ n =>
    simp only [AT, Try.underlying23] at h
    obtain ⟨a, h1, h2⟩ := h
    obtain ⟨m, rfl, hm⟩ := wf_u h2
    exact ⟨m, by simpa using h1, hm⟩
theorem open_int {n : Nat} {x : AV} (h : AT Try.prog n 3 [x]) : ∃ a : Int, x = .int .i64 a := by
  cases n with
  | zero => exact h.elim
  | succ n =>
    simp only [AT, Try.underlying3] at h
    obtain ⟨a, h1, h2⟩ := h
    exact ⟨a, by simpa using h1⟩
theorem open_cells {n : Nat} {x : AV} (h : AT Try.prog n 22 [x]) : ∃ l : List (Int × Int), x = cellsA l ∧ wfC l := by
  cases n with
  | zero => exact h.elim
  | succ n =>
    simp only [AT, Try.underlying22] at h
    obtain ⟨es, he, hm, hes⟩ := h
    have hc : Try.prog.cellsOf 36 = 2 := by kernel_rfl
    simp only [List.cons.injEq, and_true] at he
    subst he
    rw [hc]
    have key : ∀ x ∈ es, ∃ r : Int × Int, x = cellE r ∧ (0 ≤ r.1 ∧ r.1 < 18446744073709551616) ∧ 0 ≤ r.2 ∧ r.2 < 256 := by
      intro x hx
      obtain ⟨_, ha⟩ := hes x hx
      cases n with
      | zero => exact ha.elim
      | succ n =>
        simp only [AT, Try.underlying36] at ha
        obtain ⟨y, z, rfl, h1, y2, z2, rfl, h2, h3⟩ := ha
        subst h3
        cases n with
        | zero => exact h1.elim
        | succ n =>
          simp only [AT, Try.underlying23, Try.underlying5] at h1 h2
          obtain ⟨a, rfl, ha⟩ := h1
          obtain ⟨b, rfl, hb⟩ := h2
          refine ⟨(a, b), rfl, ?_⟩
          simp only [Lit.wf, IntKind.min, IntKind.max, IntKind.signed, IntKind.bits, Bool.and_eq_true, decide_eq_true_eq, Bool.false_eq_true, if_false] at ha hb
          omega
    clear hes
    have : ∃ l : List (Int × Int), es = l.map cellE ∧ wfC l := by
      clear hm
      induction es with
      | nil => exact ⟨[], rfl, fun r h => by simp at h⟩
      | cons e es ih =>
        obtain ⟨l, hl, hw⟩ := ih fun x hx => key x (List.mem_cons_of_mem _ hx)
        obtain ⟨r, hr, hr2⟩ := key e List.mem_cons_self
        exact ⟨r :: l, by rw [hl, hr]; rfl, fun q hq => by rcases List.mem_cons.1 hq with rfl | hq; exact hr2; exact hw q hq⟩
    obtain ⟨l, rfl, hw⟩ := this
    exact ⟨l, rfl, hw⟩
theorem open_acts {n : Nat} {x : AV} (h : AT Try.prog n 24 [x]) : ∃ l : List Int, x = actsA l := by
  cases n with
  | zero => exact h.elim
  | succ n =>
    simp only [AT, Try.underlying24] at h
    obtain ⟨es, he, hm, hes⟩ := h
    have hc : Try.prog.cellsOf 23 = 1 := by kernel_rfl
    simp only [List.cons.injEq, and_true] at he
    subst he
    rw [hc]
    have key : ∀ x ∈ es, ∃ r : Int, x = [.int .u64 r] := by
      intro x hx
      obtain ⟨_, ha⟩ := hes x hx
      cases n with
      | zero => exact ha.elim
      | succ n =>
        simp only [AT, Try.underlying23] at ha
        obtain ⟨a, rfl, ha⟩ := ha
        exact ⟨a, rfl⟩
    clear hes hm
    have : ∃ l : List Int, es = l.map fun x => [.int .u64 x] := by
      induction es with
      | nil => exact ⟨[], rfl⟩
      | cons e es ih =>
        obtain ⟨l, hl⟩ := ih fun x hx => key x (List.mem_cons_of_mem _ hx)
        obtain ⟨r, hr⟩ := key e List.mem_cons_self
        exact ⟨r :: l, by rw [hl, hr]; rfl⟩
    obtain ⟨l, rfl⟩ := this
    exact ⟨l, rfl⟩
theorem open_out {n : Nat} {xs : List AV} (h : AT Try.prog n 26 xs) : ∃ A e r M, AV.agg xs = outA A e r M := by
  cases n with
  | zero => exact h.elim
  | succ n =>
    simp only [AT, Try.underlying26] at h
    obtain ⟨y, z, rfl, h1, y2, z2, rfl, h2, y3, z3, rfl, h3, y4, z4, rfl, h4, h5⟩ := h
    subst h5
    have one : ∀ {t : TypeId} {y : List AV} {u : TypeId}, Try.prog.underlying t = some (.slice u) → AT Try.prog n t y → ∃ x, y = [x] := by
      intro t y u ht h
      cases n with
      | zero => exact h.elim
      | succ n =>
        simp only [AT, ht] at h
        obtain ⟨es, rfl, _⟩ := h
        exact ⟨_, rfl⟩
    obtain ⟨x1, rfl⟩ := one Try.underlying24 h1
    obtain ⟨x4, rfl⟩ := one Try.underlying22 h4
    obtain ⟨A, rfl⟩ := open_acts h1
    obtain ⟨M, rfl, _⟩ := open_cells h4
    cases n with
    | zero => exact h1.elim
    | succ n =>
      simp only [AT, Try.underlying23, Try.underlying5] at h2 h3
      obtain ⟨e, rfl, _⟩ := h2
      obtain ⟨r, rfl, _⟩ := h3
      exact ⟨A, e, r, M, rfl⟩
end Go.Proofs.Ytdmjloieldhlnaa
