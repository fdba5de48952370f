/- Stores into slices that a call has made. -/
import Derived.Test.YtdmjloieldhlnaaCore23
namespace Go.Ab
open Go.RowKit
set_option linter.unusedVariables false
set_option linter.unusedSimpArgs false

theorem OwnSl.set {e sz : Nat} {h : Heap} {nx : Nat} {x : AV} {es : List (List AV)} (ho : OwnSl e sz h nx x es) (hs : ∀ z ∈ es, z.length = sz) {i : Nat} {z : List AV} (hz : z.length = sz) (hi : i < es.length) :
    ∃ p h', idxA sz x (i : Int) = some p ∧ p.isFp = false ∧ storeH h p z = some h' ∧ OwnSl e sz h' nx x (es.set i z) ∧ ∀ c o, hget h c = some o → (∀ y, x ≠ .os c 0 e sz y) → hget h' c = some o := by
  rcases ho with ⟨rfl, rfl⟩ | ⟨b, rfl, hb, hlt⟩
  · simp at hi
  · have hfl : es.flatten.length = es.length * sz := flat_len hs
    have hle : i * sz + sz ≤ es.length * sz := by
      have := Nat.mul_le_mul_right sz (show i + 1 ≤ es.length by omega)
      rw [Nat.add_mul, Nat.one_mul] at this; exact this
    refine ⟨.op b (0 + i * sz), hset h b (.cells (splice es.flatten (0 + i * sz) z)), ?_, rfl, ?_, .inr ⟨b, by simp, ?_, hlt⟩, fun c o hc hne => ?_⟩
    · have : (i : Int) < (es.length : Int) := by omega
      simp [idxA, this]
    · simp only [storeH, hb]
      rw [if_pos (by omega)]
    · rw [hget_hset, if_pos rfl, flatten_set es i z hs hz hi, Nat.zero_add]
    · rw [hget_hset, if_neg]
      · exact hc
      · intro e; subst e; exact hne _ rfl
/-- A function whose result can be frozen. -/
theorem Pure.frz {P : Program} {f : FuncId} {xs : List AV} {r : AV} (hc : ∀ nx, AC P f xs [] nx fun y h' n' => ∃ v h2, y = .ret v ∧ Frz h' v h2 r) : Pure P f xs r :=
  Pure.of fun nx => AC.frz ((hc nx).mono fun y h' n' ⟨v, h2, e1, hf⟩ => by subst e1; exact ⟨h2, _, hf, rfl⟩)
theorem set_len {sz : Nat} {es : List (List AV)} (hs : ∀ z ∈ es, z.length = sz) {i : Nat} {z : List AV} (hz : z.length = sz) : ∀ y ∈ es.set i z, y.length = sz := fun y hy => by
  rcases List.mem_or_eq_of_mem_set hy with h | h
  · exact hs y h
  · subst h; exact hz
/-- A loop that is left by one exit: what holds there. -/
def exitJ (i : Nat) (J : ASt → Prop) (Q : AX → ASt → Prop) : AX → ASt → Prop
  | .exit k, s => if k = i then J s else Q (.exit k) s
  | x, s => Q x s
theorem exitJ_e (i k : Nat) (J : ASt → Prop) (Q : AX → ASt → Prop) (s : ASt) : exitJ i J Q (.exit k) s = if k = i then J s else Q (.exit k) s := rfl
theorem exitJ_r (i : Nat) (J : ASt → Prop) (Q : AX → ASt → Prop) (s : ASt) : exitJ i J Q .ret s = Q .ret s := rfl
theorem exitJ_p (i : Nat) (J : ASt → Prop) (Q : AX → ASt → Prop) (x : AV) (s : ASt) : exitJ i J Q (.panic x) s = Q (.panic x) s := rfl
theorem exitJ_n (i : Nat) (J : ASt → Prop) (Q : AX → ASt → Prop) (s : ASt) : exitJ i J Q .normal s = Q .normal s := rfl
theorem go_roundsJ {P : Program} {own : Nat → Nat → Bool} {ro : Option Nat} {N : Nat} {F : List Fr} {Q : AX → ASt → Prop} {b : ACode} {st : ASt} (I : Nat → ASt → Prop) (i : Nat) (J : ASt → Prop) {n : Nat} (hm : P.follows .mixedOrders = true) (h0 : I n st)
    (round : ∀ n s, I n s → go P own ro N [] (AX.then (fun s' => ∃ m, m < n ∧ I m s') (exitJ i J (post P own ro N Q F))) b s) (rest : ∀ s, J s → post P own ro N Q F (.exit i) s) : AW P own ro N (.loop b) (post P own ro N Q F) st :=
  (AW_loop (Q := exitJ i J (post P own ro N Q F)) I h0 fun n s hi => AW_go hm (round n s hi)).mono fun x s hx => by
    cases x with
    | exit k =>
      rw [exitJ_e] at hx
      split at hx
      · rename_i e; subst e; exact rest s hx
      · exact hx
    | normal => exact hx
    | ret => exact hx
    | panic x => exact hx
end Go.Ab
