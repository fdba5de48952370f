/- Running the steps of a region as far as they can be. -/
import Derived.Test.YtdmjloieldhlnaaCore16
namespace Go.Ab
open Go.RowKit
set_option linter.unusedVariables false
set_option linter.unusedSimpArgs false

def runD : List DStep → Pend → ASt → List DStep × Pend × ASt
  | [], pd, st => ([], pd, st)
  | d :: r, pd, st => match guardOk st.env d.s.guard with
    | none => (d :: r, pd, st)
    | some false => runD r pd { st with env := dropE d.s.dst st.env }
    | some true => match d.s.act with
      | .op ao => if ao.quiet = true then (match opEv ao st.env st.heap st.nx with
          | some (.val x, _, _) => runD r pd { st with env := setE d.s.dst x st.env }
          | _ => (d :: r, pd, st))
        else match ao with
          | .load sz ag o => (match oev st.env o with
            | some p => (match reload st.heap sz ag p with
              | some x => runD r (if p.isFp = true then pd else (d.i, sz, ag, p, x) :: pd) { st with env := setE d.s.dst x st.env }
              | none => (d :: r, pd, st))
            | none => (d :: r, pd, st))
          | _ => (d :: r, pd, st)
      | .call _ _ => (d :: r, pd, st)

section
variable {P : Program} {Q : AX → ASt → Prop}
theorem AD_run : ∀ (l : List DStep) (pd : Pend) (st : ASt), AD P Q (runD l pd st).1 (runD l pd st).2.1 (runD l pd st).2.2 → AD P Q l pd st
  | [], pd, st, h => h
  | d :: r, pd, st, h => by
    unfold runD at h
    cases hg : guardOk st.env d.s.guard with
    | none => simp only [hg] at h; exact h
    | some bb =>
      cases bb with
      | false =>
        simp only [hg] at h
        have := AD_run r _ _ h
        unfold AD
        simp only [hg]
        exact this
      | true =>
        simp only [hg] at h
        cases hact : d.s.act with
        | call f xs => simp only [hact] at h; exact h
        | op ao =>
          simp only [hact] at h
          by_cases hq : ao.quiet = true
          · rw [if_pos hq] at h
            split at h
            · rename_i x h1 n1 hev
              have := AD_run r _ _ h
              unfold AD
              simp only [hg, hact, hq, if_true, hev]
              exact this
            · exact h
          · rw [if_neg hq] at h
            cases ao <;> simp only at h <;> first | exact h | skip
            rename_i sz ag o
            split at h
            · rename_i p hp
              split at h
              · rename_i x hx
                have := AD_run r _ _ h
                unfold AD
                simp only [hg, hact, hq, if_false, hp, hx]
                simp only [Bool.false_eq_true, if_false]
                exact this
              · exact h
            · exact h

theorem AD_nil {pd : Pend} {st : ASt} (h : Q .normal st) : AD P Q [] pd st := h
theorem AD_val {i : Nat} {dst : Option Tmp} {g : Option (Tmp × Bool)} {ao : AOp} {late : List Nat} {r : List DStep} {pd : Pend} {st : ASt} {x : AV} {h' : Heap} {n' : Nat} (hg : guardOk st.env g = some true) (hw : (AAct.op ao).isW = true)
    (hev : opEv ao st.env st.heap st.nx = some (.val x, h', n')) (hp : pendOk h' (pendKeep late pd)) (h : AD P Q r (pendKeep late pd) { st with env := setE dst x st.env, heap := h', nx := n' }) : AD P Q (⟨i, ⟨dst, g, .op ao⟩, late⟩ :: r) pd st := by
  unfold AD
  simp only [hg]
  simp only [AAct.isW, Bool.and_eq_true, Bool.not_eq_true'] at hw
  simp only [hw.1, Bool.false_eq_true, if_false]
  cases ao <;> first | (simp only [hev]; exact ⟨hp, h⟩) | (simp [AOp.isLoad] at hw; done)
theorem AD_skp {i : Nat} {dst : Option Tmp} {g : Option (Tmp × Bool)} {ao : AOp} {late : List Nat} {r : List DStep} {pd : Pend} {st : ASt} {h' : Heap} {n' : Nat} (hg : guardOk st.env g = some true) (hw : (AAct.op ao).isW = true)
    (hev : opEv ao st.env st.heap st.nx = some (.skip, h', n')) (hp : pendOk h' (pendKeep late pd)) (h : AD P Q r (pendKeep late pd) { st with env := dropE dst st.env, heap := h', nx := n' }) : AD P Q (⟨i, ⟨dst, g, .op ao⟩, late⟩ :: r) pd st := by
  unfold AD
  simp only [hg]
  simp only [AAct.isW, Bool.and_eq_true, Bool.not_eq_true'] at hw
  simp only [hw.1, Bool.false_eq_true, if_false]
  cases ao <;> first | (simp only [hev]; exact ⟨hp, h⟩) | (simp [AOp.isLoad] at hw; done)
theorem AD_call {i : Nat} {dst : Option Tmp} {g : Option (Tmp × Bool)} {fo : Operand} {args : List Operand} {late : List Nat} {r : List DStep} {pd : Pend} {st : ASt} {f : FuncId} {caps xs : List AV} (hg : guardOk st.env g = some true)
    (hf : oev st.env fo = some (.fn (.func f) caps)) (hx : oevs st.env args = some xs)
    (h : AC P f (xs ++ caps) st.heap st.nx fun y h' n' => pendOk h' (pendKeep late pd) ∧ match y with
      | .ret x => AD P Q r (pendKeep late pd) { st with env := setE dst x st.env, heap := h', nx := n' }
      | .panic x => Q (.panic x) { env := [], heap := h', nx := n', dm := st.dm }) : AD P Q (⟨i, ⟨dst, g, .call fo args⟩, late⟩ :: r) pd st := by
  unfold AD
  simp only [hg, hf, hx]
  exact h
end

section
variable {P : Program} {own : Nat → Nat → Bool} {ro : Option Nat} {N : Nat} {Q : AX → ASt → Prop} {st : ASt}
/-- A region that can be run to its end. -/
theorem AW_reg {ss : List AStep} {st' : ASt} (hr : runS ss st = ([], st')) (h : Q .normal st') : AW P own ro N (.region ss) Q st :=
  AW_region fun id => AWs_run' hr (AWs_nil h)
theorem AW_run {ss rest : List AStep} {st' : ASt} (hr : runS ss st = (rest, st')) (h : ∀ id, AWs P (own id) ro N rest Q st') : AW P own ro N (.region ss) Q st :=
  AW_region fun id => AWs_run' hr (h id)
theorem AW_dreg {L : List DStep} {pd : Pend} {st' : ASt} (hm : P.follows .mixedOrders = true) (hr : runD L [] st = ([], pd, st')) (h : Q .normal st') : AW P own ro N (.dregion L) Q st :=
  AW_dregion hm (AD_run L [] st (by rw [hr]; exact h))
theorem AW_drun {L rest : List DStep} {pd : Pend} {st' : ASt} (hm : P.follows .mixedOrders = true) (hr : runD L [] st = (rest, pd, st')) (h : AD P Q rest pd st') : AW P own ro N (.dregion L) Q st :=
  AW_dregion hm (AD_run L [] st (by rw [hr]; exact h))
end
end Go.Ab
