/- Own slices whose capacity is told at a call. -/
import Derived.Test.YtdmjloieldhlnaaCore28
namespace Go.Ab
open Go.RowKit
set_option linter.unusedVariables false
set_option linter.unusedSimpArgs false

/-- A call with an own slice is one with that slice at each capacity that it may have. -/
theorem AC.oc {P : Program} {f : FuncId} {h : Heap} {nx : Nat} {Q : AE → Heap → Nat → Prop} {b off sz n : Nat} {e : TypeId} (pre post : List AV) (hn : n ≤ maxLen)
    (hc : ∀ c, n ≤ c → c ≤ maxLen → AC P f (pre ++ .oc b off e sz n c :: post) h nx Q) : AC P f (pre ++ .os b off e sz n :: post) h nx Q := by
  refine ⟨(hc n (Nat.le_refl _) hn).1, fun w0 K args hg ha => ?_⟩
  have hlen := ha.1
  have hi : pre.length < args.size := by rw [hlen]; simp
  have hv := ha.2 pre.length (.os b off e sz n) args[pre.length] (by simp) (Array.getElem?_eq_getElem hi)
  have key : ∀ x, VR K nx x args[pre.length] → ArgR K nx (pre ++ x :: post) args := by
    intro x hx
    refine ⟨by rw [hlen]; simp, fun i y v hy hv => ?_⟩
    by_cases h : i = pre.length
    · subst h
      simp at hy; subst hy
      rw [Array.getElem?_eq_getElem hi] at hv; injection hv with hv; subst hv
      exact hx
    · refine ha.2 i y v ?_ hv
      rw [← hy, List.getElem?_append, List.getElem?_append]
      split
      · rfl
      · obtain ⟨j, hj⟩ : ∃ j, i - pre.length = j + 1 := ⟨i - pre.length - 1, by omega⟩
        rw [hj]; rfl
  generalize args[pre.length] = u at hv key
  cases hv with
  | os _ _ _ _ _ a n' cap hn' hb hnc hcap hA hroom =>
    subst hn'
    exact (hc cap hnc hcap).2 w0 K args hg (key _ (.oc b off e sz n' cap a hb hnc hcap hA hroom))
/-- The capacity is forgotten. -/
theorem Frz.oc {h : Heap} {b off sz n c : Nat} {e : TypeId} : Frz h (.oc b off e sz n c) h (.os b off e sz n) := fun w0 K nx v g hv => by
  cases hv with
  | oc _ _ _ _ _ _ a hb hc hcap hA hroom => exact ⟨K, rfl, Ext.refl _ _, g, .os b off e sz n a n c rfl hb hc hcap hA hroom⟩
end Go.Ab
