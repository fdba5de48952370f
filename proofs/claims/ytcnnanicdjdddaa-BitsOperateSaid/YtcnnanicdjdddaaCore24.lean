/- Stores into slices that a call has made. -/
import Derived.Test.YtcnnanicdjdddaaCore23
namespace Go.Ab
open Go.RowKit
set_option linter.unusedVariables false
set_option linter.unusedSimpArgs false

theorem OwnSl.set {e sz : Nat} {h : Heap} {nx : Nat} {x : AV} {es : List (List AV)} (ho : OwnSl e sz h nx x es) (hs : ∀ z ∈ es, z.length = sz) {i : Nat} {z : List AV} (hz : z.length = sz) (hi : i < es.length) :
    ∃ p h', idxA sz x (i : Int) = some p ∧ p.isFp = false ∧ storeH h p z = some h' ∧ OwnSl e sz h' nx x (es.set i z) ∧ ∀ c o, hget h c = some o → (∀ y, x ≠ .os c 0 e sz y) → hget h' c = some o := by
  rcases ho with ⟨rfl, rfl⟩ | ⟨b, rfl, hb, hlt⟩
  · simp at hi
  · have hfl : es.flatten.length = es.length * sz := flat_len hs
    have hle : i * sz + sz ≤ es.length * sz := by
      have := Nat.mul_le_mul_right sz (show i + 1 ≤ es.length by omega)
      rw [Nat.add_mul, Nat.one_mul] at this; exact this
    refine ⟨.op b (0 + i * sz), hset h b (.cells (splice es.flatten (0 + i * sz) z)), ?_, rfl, ?_, .inr ⟨b, by simp, ?_, hlt⟩, fun c o hc hne => ?_⟩
    · have : (i : Int) < (es.length : Int) := by omega
      simp [idxA, this]
    · simp only [storeH, hb]
      rw [if_pos (by omega)]
    · rw [hget_hset, if_pos rfl, flatten_set es i z hs hz hi, Nat.zero_add]
    · rw [hget_hset, if_neg]
      · exact hc
      · intro e; subst e; exact hne _ rfl
/-- A function whose result can be frozen. -/
theorem Pure.frz {P : Program} {f : FuncId} {xs : List AV} {r : AV} (hc : ∀ nx, AC P f xs [] nx fun y h' n' => ∃ v h2, y = .ret v ∧ Frz h' v h2 r) : Pure P f xs r :=
  Pure.of fun nx => AC.frz ((hc nx).mono fun y h' n' ⟨v, h2, e1, hf⟩ => by subst e1; exact ⟨h2, _, hf, rfl⟩)
theorem set_len {sz : Nat} {es : List (List AV)} (hs : ∀ z ∈ es, z.length = sz) {i : Nat} {z : List AV} (hz : z.length = sz) : ∀ y ∈ es.set i z, y.length = sz := fun y hy => by
  rcases List.mem_or_eq_of_mem_set hy with h | h
  · exact hs y h
  · subst h; exact hz
end Go.Ab
