/- What is to be shown of a piece of abstract code, as one formula. -/
import Derived.Test.YtdmjloieldhlnaaCore19
namespace Go.Ab
open Go.RowKit
set_option linter.unusedVariables false
set_option linter.unusedSimpArgs false

section
variable (P : Program) (own : Nat → Nat → Bool) (ro : Option Nat) (N : Nat)

def wpR (Q : AX → ASt → Prop) : List AStep → ASt → Prop
  | [], st => Q .normal st
  | s :: r, st => match guardOk st.env s.guard with
    | none => False
    | some c => (c = true → match s.act with
        | .op ao => (match opEv ao st.env st.heap st.nx with
          | some (.val x, h, n) => wpR Q r { st with env := setE s.dst x st.env, heap := h, nx := n }
          | some (.skip, h, n) => wpR Q r { st with env := dropE s.dst st.env, heap := h, nx := n }
          | none => False)
        | .call f args => (match oev st.env f, oevs st.env args with
          | some (.fn (.func fid) caps), some xs => AC P fid (xs ++ caps) st.heap st.nx fun y h' n' => match y with
            | .ret x => wpR Q r { st with env := setE s.dst x st.env, heap := h', nx := n' }
            | .panic x => Q (.panic x) { st with heap := h', nx := n' }
          | some (.yl b), some xs => AY P b xs st.heap st.nx fun y h' n' => match y with
            | .ret x => wpR Q r { st with env := setE s.dst x st.env, heap := h', nx := n' }
            | .panic x => Q (.panic x) { st with heap := h', nx := n' }
          | _, _ => False)) ∧
      (c = false → wpR Q r { st with env := dropE s.dst st.env })

def wpD (Q : AX → ASt → Prop) : List DStep → Pend → ASt → Prop
  | [], _, st => Q .normal st
  | d :: r, pd, st => match guardOk st.env d.s.guard with
    | none => False
    | some c => (c = true → match d.s.act with
        | .op ao => if ao.quiet = true then (match opEv ao st.env st.heap st.nx with
            | some (.val x, _, _) => wpD Q r pd { st with env := setE d.s.dst x st.env }
            | _ => False)
          else match ao with
            | .load sz ag o => (match oev st.env o with
              | some p => (match reload st.heap sz ag p with
                | some x => wpD Q r (if p.isFp = true then pd else (d.i, sz, ag, p, x) :: pd) { st with env := setE d.s.dst x st.env }
                | none => False)
              | none => False)
            | ao => (match opEv ao st.env st.heap st.nx with
              | some (.val x, h', n') => pendOk h' (pendKeep d.late pd) ∧ wpD Q r (pendKeep d.late pd) { st with env := setE d.s.dst x st.env, heap := h', nx := n' }
              | some (.skip, h', n') => pendOk h' (pendKeep d.late pd) ∧ wpD Q r (pendKeep d.late pd) { st with env := dropE d.s.dst st.env, heap := h', nx := n' }
              | none => False)
        | .call f args => (match oev st.env f, oevs st.env args with
          | some (.fn (.func fid) caps), some xs => AC P fid (xs ++ caps) st.heap st.nx fun y h' n' => pendOk h' (pendKeep d.late pd) ∧ match y with
            | .ret x => wpD Q r (pendKeep d.late pd) { st with env := setE d.s.dst x st.env, heap := h', nx := n' }
            | .panic x => Q (.panic x) { env := [], heap := h', nx := n', dm := st.dm }
          | _, _ => False)) ∧
      (c = false → wpD Q r pd { st with env := dropE d.s.dst st.env })

def wpA : ACode → (AX → ASt → Prop) → ASt → Prop
  | .skip, Q, st => Q .normal st
  | .label, Q, st => Q .normal st
  | .exit i, Q, st => Q (.exit i) st
  | .ret, Q, st => Q .ret st
  | .region ss, Q, st => wpR P Q ss st
  | .dregion L, Q, st => wpD P Q L [] st
  | .seq a b, Q, st => wpA a (AX.then (fun s => wpA b Q s) Q) st
  | .cond o a b, Q, st => (match oev st.env o with
    | some (.bool c) => (c = true → wpA a Q st) ∧ (c = false → wpA b Q st)
    | _ => False)
  | .block i b, Q, st => wpA b (AX.inBlock i Q) st
  | .loop b, Q, st => AW P own ro N (.loop b) Q st
  | .rangeF g ps a b, Q, st => AW P own ro N (.rangeF g ps a b) Q st
end

section
variable {P : Program} {own : Nat → Nat → Bool} {ro : Option Nat} {N : Nat}
theorem AWs_of {own : Nat → Bool} {Q : AX → ASt → Prop} : ∀ (ss : List AStep) (st : ASt), wpR P Q ss st → AWs P own ro N ss Q st
  | [], st, h => AWs_nil h
  | s :: r, st, h => by
    unfold wpR at h
    split at h
    · exact h.elim
    · rename_i c hg
      cases c with
      | false => exact AWs_skip hg (AWs_of r _ (h.2 rfl))
      | true =>
        have h := h.1 rfl
        obtain ⟨d, g, act⟩ := s
        cases act with
        | op ao =>
          simp only at h hg
          split at h
          · rename_i hev; exact AWs_val hg hev (AWs_of r _ h)
          · rename_i hev; exact AWs_skp hg hev (AWs_of r _ h)
          · exact h.elim
        | call f args =>
          simp only at h hg
          split at h
          · rename_i hf hx
            refine AWs_call hg hf hx (h.mono fun y h' n' hy => ?_)
            cases y with
            | ret x => exact AWs_of r _ hy
            | panic x => exact hy
          · rename_i hf hx
            refine AWs_yield hg hf hx (h.mono fun y h' n' hy => ?_)
            cases y with
            | ret x => exact AWs_of r _ hy
            | panic x => exact hy
          · exact h.elim

theorem AD_of {Q : AX → ASt → Prop} : ∀ (l : List DStep) (pd : Pend) (st : ASt), wpD P Q l pd st → AD P Q l pd st
  | [], pd, st, h => h
  | d :: r, pd, st, h => by
    unfold wpD at h
    unfold AD
    cases hg : guardOk st.env d.s.guard with
    | none => simp only [hg] at h
    | some c =>
      simp only [hg] at h
      cases c with
      | false => exact AD_of r _ _ (h.2 rfl)
      | true =>
        have h := h.1 rfl
        simp only
        cases hact : d.s.act with
        | call f args =>
          simp only [hact] at h
          simp only
          split at h
          · rename_i hf hx
            simp only [hf, hx]
            refine h.mono fun y h' n' hy => ⟨hy.1, ?_⟩
            cases y with
            | ret x => exact AD_of r _ _ hy.2
            | panic x => exact hy.2
          · exact h.elim
        | op ao =>
          simp only [hact] at h
          simp only
          by_cases hq : ao.quiet = true
          · simp only [hq, if_true] at h ⊢
            split at h
            · rename_i hev
              simp only [hev]
              exact AD_of r _ _ h
            · exact h.elim
          · simp only [hq] at h ⊢
            simp only [Bool.false_eq_true, if_false] at h ⊢
            cases ao <;> simp only at h ⊢
            case load sz ag o =>
              split at h
              · rename_i p hp
                simp only [hp]
                split at h
                · rename_i x hx
                  simp only [hx]
                  exact AD_of r _ _ h
                · exact h.elim
              · exact h.elim
            all_goals
              first
              | (exact absurd rfl hq)
              | (split at h
                 · rename_i hev; simp only [hev]; exact ⟨h.1, AD_of r _ _ h.2⟩
                 · rename_i hev; simp only [hev]; exact ⟨h.1, AD_of r _ _ h.2⟩
                 · exact h.elim)

/-- **The formula serves.** -/
theorem AW_of' (hm : P.follows .mixedOrders = true) : ∀ (ac : ACode) (Q : AX → ASt → Prop) (st : ASt), wpA P own ro N ac Q st → AW P own ro N ac Q st := by
  intro ac
  induction ac with
  | skip => intro Q st h; exact AW_skip h
  | label => intro Q st h; exact AW_label h
  | exit i => intro Q st h; exact AW_exit h
  | ret => intro Q st h; exact AW_ret h
  | region ss => intro Q st h; exact AW_region fun id => AWs_of ss st h
  | dregion L => intro Q st h; exact AW_dregion hm (AD_of L [] st h)
  | seq a b iha ihb =>
    intro Q st h
    refine AW_seq fun K hK => iha _ _ ?_
    unfold wpA at h
    have : ∀ (x : AX) (s : ASt), AX.then (fun s => wpA P own ro N b Q s) Q x s → AX.then K Q x s := by
      intro x s hx
      cases x with
      | normal => exact hK s (ihb _ _ hx)
      | _ => exact hx
    exact wpA_mono this h
  | cond o a b iha ihb =>
    intro Q st h
    unfold wpA at h
    split at h
    · rename_i c hc
      exact AW_cond_split hc (fun e => iha _ _ (h.1 e)) (fun e => ihb _ _ (h.2 e))
    · exact h.elim
  | block i b ih => intro Q st h; exact AW_block (ih _ _ h)
  | loop b ih => intro Q st h; exact h
  | rangeF g ps a b iha ihb => intro Q st h; exact h
where
  wpA_mono {ac : ACode} {Q Q' : AX → ASt → Prop} {st : ASt} (hq : ∀ x s, Q x s → Q' x s) (h : wpA P own ro N ac Q st) : wpA P own ro N ac Q' st := by
    induction ac generalizing Q Q' st with
    | skip => exact hq _ _ h
    | label => exact hq _ _ h
    | exit i => exact hq _ _ h
    | ret => exact hq _ _ h
    | region ss => exact wpR_mono hq ss st h
    | dregion L => exact wpD_mono hq L [] st h
    | seq a b iha ihb =>
      unfold wpA at h ⊢
      refine iha (fun x s hx => ?_) h
      cases x with
      | normal => exact ihb hq hx
      | _ => exact hq _ _ hx
    | cond o a b iha ihb =>
      unfold wpA at h ⊢
      split
      · rename_i c hc
        (try simp only [hc] at h)
        exact ⟨fun e => iha hq (h.1 e), fun e => ihb hq (h.2 e)⟩
      · rename_i hn
        split at h
        · rename_i c hc; exact absurd hc (hn c)
        · exact h
    | block i b ih =>
      unfold wpA at h ⊢
      refine ih (fun x s hx => ?_) h
      cases x with
      | exit j => simp only [AX.inBlock] at hx ⊢; split <;> rename_i e <;> simp only [e, if_true, if_false] at hx <;> exact hq _ _ hx
      | _ => exact hq _ _ hx
    | loop b ih => exact AW.mono h hq
    | rangeF g ps a b iha ihb => exact AW.mono h hq
  wpR_mono {Q Q' : AX → ASt → Prop} (hq : ∀ x s, Q x s → Q' x s) : ∀ (ss : List AStep) (st : ASt), wpR P Q ss st → wpR P Q' ss st
    | [], st, h => hq _ _ h
    | s :: r, st, h => by
      unfold wpR at h ⊢
      split at h
      · exact h.elim
      · rename_i c hg
        refine ⟨fun e => ?_, fun e => wpR_mono hq r _ (h.2 e)⟩
        have h := h.1 e
        cases hact : s.act with
        | op ao =>
          simp only [hact] at h ⊢
          split at h
          · rename_i hev; (try simp only [hev]); exact wpR_mono hq r _ h
          · rename_i hev; (try simp only [hev]); exact wpR_mono hq r _ h
          · exact h.elim
        | call f args =>
          simp only [hact] at h ⊢
          split at h
          · rename_i hf hx
            (try simp only [hf, hx])
            refine h.mono fun y h' n' hy => ?_
            cases y with
            | ret x => exact wpR_mono hq r _ hy
            | panic x => exact hq _ _ hy
          · rename_i hf hx
            (try simp only [hf, hx])
            refine h.mono fun y h' n' hy => ?_
            cases y with
            | ret x => exact wpR_mono hq r _ hy
            | panic x => exact hq _ _ hy
          · exact h.elim
  wpD_mono {Q Q' : AX → ASt → Prop} (hq : ∀ x s, Q x s → Q' x s) : ∀ (l : List DStep) (pd : Pend) (st : ASt), wpD P Q l pd st → wpD P Q' l pd st
    | [], pd, st, h => hq _ _ h
    | d :: r, pd, st, h => by
      unfold wpD at h ⊢
      split at h
      · exact h.elim
      · rename_i c hg
        refine ⟨fun e => ?_, fun e => wpD_mono hq r _ _ (h.2 e)⟩
        have h := h.1 e
        cases hact : d.s.act with
        | call f args =>
          simp only [hact] at h ⊢
          split at h
          · rename_i hf hx
            (try simp only [hf, hx])
            refine h.mono fun y h' n' hy => ⟨hy.1, ?_⟩
            cases y with
            | ret x => exact wpD_mono hq r _ _ hy.2
            | panic x => exact hq _ _ hy.2
          · exact h.elim
        | op ao =>
          simp only [hact] at h ⊢
          by_cases hqt : ao.quiet = true
          · simp only [hqt, if_true] at h ⊢
            split at h
            · rename_i hev; (try simp only [hev]); exact wpD_mono hq r _ _ h
            · exact h.elim
          · simp only [hqt] at h ⊢
            simp only [Bool.false_eq_true, if_false] at h ⊢
            cases ao <;> simp only at h ⊢
            case load sz ag o =>
              split at h
              · rename_i p hp
                split at h
                · rename_i x hx
                  (try simp only [hp, hx])
                  exact wpD_mono hq r _ _ h
                · exact h.elim
              · exact h.elim
            all_goals
              first
              | (exact absurd rfl hqt)
              | (split at h
                 · rename_i hev; (try simp only [hev]); exact ⟨h.1, wpD_mono hq r _ _ h.2⟩
                 · rename_i hev; (try simp only [hev]); exact ⟨h.1, wpD_mono hq r _ _ h.2⟩
                 · exact h.elim)
end
theorem AW_of {P : Program} {own : Nat → Nat → Bool} {ro : Option Nat} {N : Nat} {ac : ACode} {Q : AX → ASt → Prop} {st : ASt} (hm : P.follows .mixedOrders = true) (h : wpA P own ro N ac Q st) : AW P own ro N ac Q st := AW_of' hm ac Q st h
/-- How a call that only computes is used. -/
theorem Pure.use {P : Program} {f : FuncId} {xs : List AV} {r : AV} {h : Heap} {nx : Nat} {Q : AE → Heap → Nat → Prop} (hp : Pure P f xs r) (hq : ∀ n', nx ≤ n' → Q (.ret r) h n') : AC P f xs h nx Q :=
  (hp h nx).mono fun y h' n' ⟨e1, e2, hle⟩ => by subst e1; subst e2; exact hq n' hle
end Go.Ab
