/- A slice of the call's own is frozen where a loop is left; slices that grow. -/
import Derived.Test.YtdmjloieldhlnaaCore26
namespace Go.Ab
open Go.RowKit
set_option linter.unusedVariables false
set_option linter.unusedSimpArgs false

def AX.isPanic : AX → Bool
  | .panic _ => true
  | _ => false
theorem AW.exitIce {P : Program} {own : Nat → Nat → Bool} {ro : Option Nat} {N : Nat} {Q0 Q : AX → ASt → Prop} {st : ASt} {ac : ACode} (h : AW P own ro N ac Q0 st)
    (hq : ∀ x s, Q0 x s → Q x s ∨ (x.isPanic = false ∧ ∃ t y y' h', eget s.env t = some y ∧ Frz s.heap y h' y' ∧ Q x { s with env := (t, y') :: s.env, heap := h' })) : AW P own ro N ac Q st := by
  intro c hc w0 K a hs
  refine wpIn_mono (h c hc w0 K a hs) ?_
  rintro e a' w' ⟨K', st', x, h1, h2, h3, h4, h5⟩
  rcases hq x st' h5 with h6 | ⟨hx, t, y, y', h', g1, g2, g3⟩
  · exact ⟨K', st', x, h1, h2, h3, h4, h6⟩
  · obtain ⟨v, k1, k2⟩ := h3.env t y g1
    obtain ⟨K2, e1, e2, e3, e4⟩ := g2 w0 K' st'.nx v h3.good k2
    refine ⟨K2, { st' with env := (t, y') :: st'.env, heap := h' }, x, by rw [e1]; exact h1, h2.trans e2, ⟨e3, fun u z hz => ?_, h3.size, by rw [h3.defers]; exact (marks_ext e2 h3.dm).symm, h3.dm⟩, ?_, g3⟩
    · rw [eget_cons] at hz
      split at hz
      · rename_i e; subst e
        injection hz with hz; subst hz
        exact ⟨v, k1, e4⟩
      · obtain ⟨u', k3, k4⟩ := h3.env u z hz
        exact ⟨u', k3, k4.mono e2⟩
    · cases x <;> cases e <;> simp only [AXR] at h4 ⊢ <;> first | exact h4 | (simp [AX.isPanic] at hx; done)
/-- A loop that is left by one exit, where a slice is frozen. -/
theorem go_roundsF {P : Program} {own : Nat → Nat → Bool} {ro : Option Nat} {N : Nat} {F : List Fr} {Q : AX → ASt → Prop} {b : ACode} {st : ASt} (I : Nat → ASt → Prop) (i : Nat) (J : ASt → Prop) {n : Nat} (hm : P.follows .mixedOrders = true) (h0 : I n st)
    (round : ∀ n s, I n s → go P own ro N [] (AX.then (fun s' => ∃ m, m < n ∧ I m s') (exitJ i J (post P own ro N Q F))) b s)
    (rest : ∀ s, J s → ∃ t y y' h', eget s.env t = some y ∧ Frz s.heap y h' y' ∧ post P own ro N Q F (.exit i) { s with env := (t, y') :: s.env, heap := h' }) : AW P own ro N (.loop b) (post P own ro N Q F) st :=
  (AW_loop (Q := exitJ i J (post P own ro N Q F)) I h0 fun n s hi => AW_go hm (round n s hi)).exitIce fun x s hx => by
    cases x with
    | exit k =>
      rw [exitJ_e] at hx
      split at hx
      · rename_i e; subst e; exact .inr ⟨rfl, rest s hx⟩
      · exact .inl hx
    | normal => exact .inl hx
    | ret => exact .inl hx
    | panic x => exact .inl hx

/-- A slice of the call's own after something was appended to it. -/
def Grw (e sz : Nat) (h : Heap) (nx : Nat) (v : AV) (h' : Heap) (n' : Nat) (v' : AV) (es' : List (List AV)) : Prop :=
  OwnSl e sz h' n' v' es' ∧ nx ≤ n' ∧ (∀ c o, c < nx → hget h c = some o → blkOf v ≠ some c → hget h' c = some o) ∧ ∀ c, blkOf v' = some c → nx ≤ c ∨ blkOf v = some c
theorem Grw.refl {e sz : Nat} {h : Heap} {nx : Nat} {v : AV} {es : List (List AV)} (ho : OwnSl e sz h nx v es) {n' : Nat} (hle : nx ≤ n') : Grw e sz h nx v h n' v es :=
  ⟨ho.mono hle, hle, fun c o _ hc _ => hc, fun c hc => .inr hc⟩
theorem Grw.trans {e sz : Nat} {h h1 h2 : Heap} {nx n1 n2 : Nat} {v v1 v2 : AV} {es1 es2 : List (List AV)} (a : Grw e sz h nx v h1 n1 v1 es1) (b : Grw e sz h1 n1 v1 h2 n2 v2 es2) : Grw e sz h nx v h2 n2 v2 es2 := by
  obtain ⟨a1, a2, a3, a4⟩ := a
  obtain ⟨b1, b2, b3, b4⟩ := b
  refine ⟨b1, by omega, fun c o hc hg hv => b3 c o (by omega) (a3 c o hc hg hv) (fun h => ?_), fun c hc => ?_⟩
  · rcases a4 c h with h | h
    · omega
    · exact hv h
  · rcases b4 c hc with h | h
    · exact .inl (by omega)
    · exact a4 c h
theorem OwnSl.grw {e sz bytes : Nat} {h : Heap} {nx : Nat} {x : AV} {es ns : List (List AV)} (ho : OwnSl e sz h nx x es) (hs : ∀ z ∈ es, z.length = sz) (hn : ∀ z ∈ ns, z.length = sz)
    (h1 : (es.length + ns.length) * bytes ≤ 140737488355328) (h2 : es.length + ns.length ≤ maxLen) :
    ∃ x' h' n', appA e sz bytes h nx x (.lst sz ns) = some (x', h', n') ∧ Grw e sz h nx x h' n' x' (es ++ ns) := by
  obtain ⟨x', h', n', ea, ow, hle, fr, id⟩ := ho.app (bytes := bytes) hs hn h1 h2
  refine ⟨x', h', n', ea, ow, hle, fun c o hc hg hb => fr c o hc hg (fun y hy => hb (by rw [hy]; rfl)), fun c hc => ?_⟩
  obtain ⟨e1, _, _⟩ := ow.blk hc
  rcases id c _ e1 with h | ⟨y, h⟩
  · exact .inl h
  · exact .inr (by rw [h]; rfl)
end Go.Ab
