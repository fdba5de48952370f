/- An argument of a call, frozen. -/
import Derived.Test.YtdmjloieldhlnaaCore27
namespace Go.Ab
open Go.RowKit
set_option linter.unusedVariables false
set_option linter.unusedSimpArgs false

/-- A call with an argument of the call's own is one with what it is frozen to. -/
theorem AC.arg {P : Program} {f : FuncId} {h h' : Heap} {nx : Nat} {Q : AE → Heap → Nat → Prop} {x x' : AV} (pre post : List AV) (hf : Frz h x h' x') (hc : AC P f (pre ++ x' :: post) h' nx Q) : AC P f (pre ++ x :: post) h nx Q := by
  refine ⟨hc.1, fun w0 K args hg ha => ?_⟩
  have hlen := ha.1
  have hi : pre.length < args.size := by rw [hlen]; simp
  have hv := ha.2 pre.length x args[pre.length] (by simp) (Array.getElem?_eq_getElem hi)
  obtain ⟨K', e1, e2, e3, e4⟩ := hf w0 K nx _ hg hv
  have ha' : ArgR K' nx (pre ++ x' :: post) args := by
    refine ⟨by rw [hlen]; simp, fun i y v hy hv' => ?_⟩
    by_cases h : i = pre.length
    · subst h
      simp at hy; subst hy
      rw [Array.getElem?_eq_getElem hi] at hv'; injection hv' with hv'; subst hv'
      exact e4
    · refine (ha.2 i y v ?_ hv').mono e2
      rw [← hy, List.getElem?_append, List.getElem?_append]
      split
      · rfl
      · obtain ⟨j, hj⟩ : ∃ j, i - pre.length = j + 1 := ⟨i - pre.length - 1, by omega⟩
        rw [hj]; rfl
  have := hc.2 w0 K' args e3 ha'
  rw [e1] at this
  exact this.mono fun e w' ⟨K2, h2, n2, y, a1, a2, a3, a4, a5⟩ => ⟨K2, h2, n2, y, a1, e2.trans a2, a3, a4, a5⟩
end Go.Ab
