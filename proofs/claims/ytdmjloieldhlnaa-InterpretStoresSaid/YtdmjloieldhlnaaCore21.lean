/- The formula, in pieces that stop where something is undecided: for 'simp only'. -/
import Derived.Test.YtdmjloieldhlnaaCore20
namespace Go.Ab
open Go.RowKit
set_option linter.unusedVariables false
set_option linter.unusedSimpArgs false

inductive Fr where
  | seq (b : ACode)
  | blk (i : Nat)

section
variable (P : Program) (own : Nat → Nat → Bool) (ro : Option Nat) (N : Nat)
/-- What stands behind. -/
def post (Q : AX → ASt → Prop) : List Fr → AX → ASt → Prop
  | [] => Q
  | .seq b :: F => AX.then (fun s => wpA P own ro N b (post Q F) s) (post Q F)
  | .blk i :: F => AX.inBlock i (post Q F)
variable (F : List Fr) (Q : AX → ASt → Prop)
def go (c : ACode) (st : ASt) : Prop := wpA P own ro N c (post P own ro N Q F) st
def fin (x : AX) (st : ASt) : Prop := post P own ro N Q F x st
def cK (a b : ACode) (st : ASt) : Option AV → Prop
  | some (.bool c) => (c = true → go P own ro N F Q a st) ∧ (c = false → go P own ro N F Q b st)
  | _ => False
def rg (ss : List AStep) (st : ASt) : Prop := wpR P (post P own ro N Q F) ss st
def rK (s : AStep) (r : List AStep) (st : ASt) (y : AE) (h : Heap) (n : Nat) : Prop := match y with
  | .ret x => rg P own ro N F Q r { st with env := setE s.dst x st.env, heap := h, nx := n }
  | .panic x => fin P own ro N F Q (.panic x) { st with heap := h, nx := n }
def oK (s : AStep) (r : List AStep) (st : ASt) : Option (Out × Heap × Nat) → Prop
  | some (.val x, h, n) => rg P own ro N F Q r { st with env := setE s.dst x st.env, heap := h, nx := n }
  | some (.skip, h, n) => rg P own ro N F Q r { st with env := dropE s.dst st.env, heap := h, nx := n }
  | none => False
def fK (s : AStep) (r : List AStep) (st : ASt) : Option AV → Option (List AV) → Prop
  | some (.fn (.func fid) caps), some xs => AC P fid (xs ++ caps) st.heap st.nx (rK P own ro N F Q s r st)
  | some (.yl b), some xs => AY P b xs st.heap st.nx (rK P own ro N F Q s r st)
  | _, _ => False
def aK (s : AStep) (r : List AStep) (st : ASt) : AAct → Prop
  | .op ao => oK P own ro N F Q s r st (opEv ao st.env st.heap st.nx)
  | .call f args => fK P own ro N F Q s r st (oev st.env f) (oevs st.env args)
def gK (s : AStep) (r : List AStep) (st : ASt) : Option Bool → Prop
  | none => False
  | some c => (c = true → aK P own ro N F Q s r st s.act) ∧ (c = false → rg P own ro N F Q r { st with env := dropE s.dst st.env })

theorem go_skip (st : ASt) : go P own ro N F Q .skip st = fin P own ro N F Q .normal st := rfl
theorem go_label (st : ASt) : go P own ro N F Q .label st = fin P own ro N F Q .normal st := rfl
theorem go_exit (i : Nat) (st : ASt) : go P own ro N F Q (.exit i) st = fin P own ro N F Q (.exit i) st := rfl
theorem go_ret (st : ASt) : go P own ro N F Q .ret st = fin P own ro N F Q .ret st := rfl
theorem go_seq (a b : ACode) (st : ASt) : go P own ro N F Q (.seq a b) st = go P own ro N (.seq b :: F) Q a st := rfl
theorem go_block (i : Nat) (b : ACode) (st : ASt) : go P own ro N F Q (.block i b) st = go P own ro N (.blk i :: F) Q b st := rfl
theorem go_cond (o : Operand) (a b : ACode) (st : ASt) : go P own ro N F Q (.cond o a b) st = cK P own ro N F Q a b st (oev st.env o) := by
  unfold go cK
  simp only [wpA]
  cases oev st.env o with
  | none => rfl
  | some v => cases v <;> rfl
theorem go_region (ss : List AStep) (st : ASt) : go P own ro N F Q (.region ss) st = rg P own ro N F Q ss st := rfl
theorem go_rangeF (g : Operand) (ps : Array Tmp) (a b : ACode) (st : ASt) : go P own ro N F Q (.rangeF g ps a b) st = AW P own ro N (.rangeF g ps a b) (post P own ro N Q F) st := rfl
theorem go_loop (b : ACode) (st : ASt) : go P own ro N F Q (.loop b) st = AW P own ro N (.loop b) (post P own ro N Q F) st := rfl
theorem fin_nil (x : AX) (st : ASt) : fin P own ro N [] Q x st = Q x st := rfl
theorem fin_seq_n (b : ACode) (st : ASt) : fin P own ro N (.seq b :: F) Q .normal st = go P own ro N F Q b st := rfl
theorem fin_seq_e (b : ACode) (i : Nat) (st : ASt) : fin P own ro N (.seq b :: F) Q (.exit i) st = fin P own ro N F Q (.exit i) st := rfl
theorem fin_seq_r (b : ACode) (st : ASt) : fin P own ro N (.seq b :: F) Q .ret st = fin P own ro N F Q .ret st := rfl
theorem fin_seq_p (b : ACode) (x : AV) (st : ASt) : fin P own ro N (.seq b :: F) Q (.panic x) st = fin P own ro N F Q (.panic x) st := rfl
theorem fin_blk_n (i : Nat) (st : ASt) : fin P own ro N (.blk i :: F) Q .normal st = fin P own ro N F Q .normal st := rfl
theorem fin_blk_e (i j : Nat) (st : ASt) : fin P own ro N (.blk i :: F) Q (.exit j) st = if j = i then fin P own ro N F Q .normal st else fin P own ro N F Q (.exit j) st := rfl
theorem fin_blk_r (i : Nat) (st : ASt) : fin P own ro N (.blk i :: F) Q .ret st = fin P own ro N F Q .ret st := rfl
theorem fin_blk_p (i : Nat) (x : AV) (st : ASt) : fin P own ro N (.blk i :: F) Q (.panic x) st = fin P own ro N F Q (.panic x) st := rfl
theorem post_fin (x : AX) (st : ASt) : post P own ro N Q F x st = fin P own ro N F Q x st := rfl
theorem rg_nil (st : ASt) : rg P own ro N F Q [] st = fin P own ro N F Q .normal st := rfl
theorem rg_cons (s : AStep) (r : List AStep) (st : ASt) : rg P own ro N F Q (s :: r) st = gK P own ro N F Q s r st (guardOk st.env s.guard) := by
  unfold rg gK
  rw [wpR]
  cases guardOk st.env s.guard with
  | none => rfl
  | some c =>
    rfl
variable (s : AStep) (r : List AStep) (st : ASt)
theorem gK_t : gK P own ro N F Q s r st (some true) = aK P own ro N F Q s r st s.act := by simp [gK]
theorem gK_f : gK P own ro N F Q s r st (some false) = rg P own ro N F Q r { st with env := dropE s.dst st.env } := by simp [gK]
theorem aK_op (ao : AOp) : aK P own ro N F Q s r st (.op ao) = oK P own ro N F Q s r st (opEv ao st.env st.heap st.nx) := rfl
theorem aK_call (f : Operand) (args : List Operand) : aK P own ro N F Q s r st (.call f args) = fK P own ro N F Q s r st (oev st.env f) (oevs st.env args) := rfl
theorem oK_val (x : AV) (h : Heap) (n : Nat) : oK P own ro N F Q s r st (some (.val x, h, n)) = rg P own ro N F Q r { st with env := setE s.dst x st.env, heap := h, nx := n } := rfl
theorem oK_skip (h : Heap) (n : Nat) : oK P own ro N F Q s r st (some (.skip, h, n)) = rg P own ro N F Q r { st with env := dropE s.dst st.env, heap := h, nx := n } := rfl
theorem fK_go (fid : FuncId) (caps xs : List AV) : fK P own ro N F Q s r st (some (.fn (.func fid) caps)) (some xs) = AC P fid (xs ++ caps) st.heap st.nx (rK P own ro N F Q s r st) := rfl
theorem fK_yl (b : Nat) (xs : List AV) : fK P own ro N F Q s r st (some (.yl b)) (some xs) = AY P b xs st.heap st.nx (rK P own ro N F Q s r st) := rfl
theorem rK_ret (x : AV) (h : Heap) (n : Nat) : rK P own ro N F Q s r st (.ret x) h n = rg P own ro N F Q r { st with env := setE s.dst x st.env, heap := h, nx := n } := rfl
theorem rK_panic (x : AV) (h : Heap) (n : Nat) : rK P own ro N F Q s r st (.panic x) h n = fin P own ro N F Q (.panic x) { st with heap := h, nx := n } := rfl
theorem cK_t (a b : ACode) : cK P own ro N F Q a b st (some (.bool true)) = go P own ro N F Q a st := by simp [cK]
theorem cK_f (a b : ACode) : cK P own ro N F Q a b st (some (.bool false)) = go P own ro N F Q b st := by simp [cK]

/-! ### Regions that draw their order -/
def dg (l : List DStep) (pd : Pend) (st : ASt) : Prop := wpD P (post P own ro N Q F) l pd st
def dOK (d : DStep) (r : List DStep) (pd : Pend) (st : ASt) : Option (Out × Heap × Nat) → Prop
  | some (.val x, h, n) => pendOk h (pendKeep d.late pd) ∧ dg P own ro N F Q r (pendKeep d.late pd) { st with env := setE d.s.dst x st.env, heap := h, nx := n }
  | some (.skip, h, n) => pendOk h (pendKeep d.late pd) ∧ dg P own ro N F Q r (pendKeep d.late pd) { st with env := dropE d.s.dst st.env, heap := h, nx := n }
  | none => False
def dQK (d : DStep) (r : List DStep) (pd : Pend) (st : ASt) : Option (Out × Heap × Nat) → Prop
  | some (.val x, _, _) => dg P own ro N F Q r pd { st with env := setE d.s.dst x st.env }
  | _ => False
def dLK2 (d : DStep) (r : List DStep) (pd : Pend) (st : ASt) (sz : Nat) (ag : Bool) (p : AV) : Option AV → Prop
  | some x => dg P own ro N F Q r (if p.isFp = true then pd else (d.i, sz, ag, p, x) :: pd) { st with env := setE d.s.dst x st.env }
  | none => False
def dLK (d : DStep) (r : List DStep) (pd : Pend) (st : ASt) (sz : Nat) (ag : Bool) : Option AV → Prop
  | some p => dLK2 P own ro N F Q d r pd st sz ag p (reload st.heap sz ag p)
  | none => False
def dRK (d : DStep) (r : List DStep) (pd : Pend) (st : ASt) (y : AE) (h : Heap) (n : Nat) : Prop := pendOk h (pendKeep d.late pd) ∧ match y with
  | .ret x => dg P own ro N F Q r (pendKeep d.late pd) { st with env := setE d.s.dst x st.env, heap := h, nx := n }
  | .panic x => fin P own ro N F Q (.panic x) { env := [], heap := h, nx := n, dm := st.dm }
def dFK (d : DStep) (r : List DStep) (pd : Pend) (st : ASt) : Option AV → Option (List AV) → Prop
  | some (.fn (.func fid) caps), some xs => AC P fid (xs ++ caps) st.heap st.nx (dRK P own ro N F Q d r pd st)
  | _, _ => False
def dAK (d : DStep) (r : List DStep) (pd : Pend) (st : ASt) : AAct → Prop
  | .op (.load sz ag o) => dLK P own ro N F Q d r pd st sz ag (oev st.env o)
  | .op ao => if ao.quiet = true then dQK P own ro N F Q d r pd st (opEv ao st.env st.heap st.nx) else dOK P own ro N F Q d r pd st (opEv ao st.env st.heap st.nx)
  | .call f args => dFK P own ro N F Q d r pd st (oev st.env f) (oevs st.env args)
def dGK (d : DStep) (r : List DStep) (pd : Pend) (st : ASt) : Option Bool → Prop
  | none => False
  | some c => (c = true → dAK P own ro N F Q d r pd st d.s.act) ∧ (c = false → dg P own ro N F Q r pd { st with env := dropE d.s.dst st.env })
theorem go_dregion (L : List DStep) (st : ASt) : go P own ro N F Q (.dregion L) st = dg P own ro N F Q L [] st := rfl
theorem dg_nil (pd : Pend) (st : ASt) : dg P own ro N F Q [] pd st = fin P own ro N F Q .normal st := rfl
theorem dg_cons (d : DStep) (r : List DStep) (pd : Pend) (st : ASt) : dg P own ro N F Q (d :: r) pd st = dGK P own ro N F Q d r pd st (guardOk st.env d.s.guard) := by
  unfold dg dGK
  rw [wpD]
  cases guardOk st.env d.s.guard with
  | none => rfl
  | some c =>
    simp only
    congr 1
    apply propext
    refine imp_congr_right fun _ => ?_
    cases hact : d.s.act with
    | op ao =>
      unfold dAK
      by_cases hq : ao.quiet = true
      · simp only [hq, if_true]
        cases ao <;> first | (simp [AOp.quiet] at hq; done) | skip
        all_goals
          simp only [dQK]
          generalize opEv _ st.env st.heap st.nx = o
          rcases o with _ | ⟨o, h, n⟩
          · exact Iff.rfl
          · cases o <;> exact Iff.rfl
      · simp only [hq]
        simp only [Bool.false_eq_true, if_false]
        cases ao
        case load sz ag o =>
          simp only [dLK, dLK2]
          cases oev st.env o with
          | none => exact Iff.rfl
          | some p =>
            simp only
            cases reload st.heap sz ag p with
            | none => exact Iff.rfl
            | some x => exact Iff.rfl
        all_goals first | (exact absurd rfl hq) | skip
        all_goals
          simp only [dOK]
          generalize opEv _ st.env st.heap st.nx = o
          rcases o with _ | ⟨o, h, n⟩
          · exact Iff.rfl
          · cases o <;> exact Iff.rfl
    | call f args =>
      simp only [dAK, dFK]
      cases oev st.env f with
      | none => exact Iff.rfl
      | some v =>
        cases v <;> exact Iff.rfl
variable (d : DStep) (r : List DStep) (pd : Pend)
theorem dGK_t : dGK P own ro N F Q d r pd st (some true) = dAK P own ro N F Q d r pd st d.s.act := by simp [dGK]
theorem dGK_f : dGK P own ro N F Q d r pd st (some false) = dg P own ro N F Q r pd { st with env := dropE d.s.dst st.env } := by simp [dGK]
def dS (ao : AOp) : Bool → Bool → Prop
  | true, _ => dQK P own ro N F Q d r pd st (opEv ao st.env st.heap st.nx)
  | false, true => (match ao with
    | .load sz ag o => dLK P own ro N F Q d r pd st sz ag (oev st.env o)
    | _ => False)
  | false, false => dOK P own ro N F Q d r pd st (opEv ao st.env st.heap st.nx)
theorem dAK_op (ao : AOp) : dAK P own ro N F Q d r pd st (.op ao) = dS P own ro N F Q st d r pd ao ao.quiet ao.isLoad := by
  cases ao <;> rfl
theorem dS_q (ao : AOp) (b : Bool) : dS P own ro N F Q st d r pd ao true b = dQK P own ro N F Q d r pd st (opEv ao st.env st.heap st.nx) := rfl
theorem dS_l (sz : Nat) (ag : Bool) (o : Operand) : dS P own ro N F Q st d r pd (.load sz ag o) false true = dLK P own ro N F Q d r pd st sz ag (oev st.env o) := rfl
theorem dS_w (ao : AOp) : dS P own ro N F Q st d r pd ao false false = dOK P own ro N F Q d r pd st (opEv ao st.env st.heap st.nx) := rfl
theorem dAK_call (f : Operand) (args : List Operand) : dAK P own ro N F Q d r pd st (.call f args) = dFK P own ro N F Q d r pd st (oev st.env f) (oevs st.env args) := rfl
theorem dLK_go (sz : Nat) (ag : Bool) (p : AV) : dLK P own ro N F Q d r pd st sz ag (some p) = dLK2 P own ro N F Q d r pd st sz ag p (reload st.heap sz ag p) := rfl
theorem dLK2_fp (sz : Nat) (ag : Bool) (cs : List AV) (x : AV) : dLK2 P own ro N F Q d r pd st sz ag (.fp cs) (some x) = dg P own ro N F Q r pd { st with env := setE d.s.dst x st.env } := rfl
theorem dLK2_op (sz : Nat) (ag : Bool) (b o : Nat) (x : AV) : dLK2 P own ro N F Q d r pd st sz ag (.op b o) (some x) = dg P own ro N F Q r ((d.i, sz, ag, .op b o, x) :: pd) { st with env := setE d.s.dst x st.env } := rfl
theorem dQK_val (x : AV) (h : Heap) (n : Nat) : dQK P own ro N F Q d r pd st (some (.val x, h, n)) = dg P own ro N F Q r pd { st with env := setE d.s.dst x st.env } := rfl
theorem dOK_val (x : AV) (h : Heap) (n : Nat) : dOK P own ro N F Q d r pd st (some (.val x, h, n)) = (pendOk h (pendKeep d.late pd) ∧ dg P own ro N F Q r (pendKeep d.late pd) { st with env := setE d.s.dst x st.env, heap := h, nx := n }) := rfl
theorem dOK_skip (h : Heap) (n : Nat) : dOK P own ro N F Q d r pd st (some (.skip, h, n)) = (pendOk h (pendKeep d.late pd) ∧ dg P own ro N F Q r (pendKeep d.late pd) { st with env := dropE d.s.dst st.env, heap := h, nx := n }) := rfl
theorem dFK_go (fid : FuncId) (caps xs : List AV) : dFK P own ro N F Q d r pd st (some (.fn (.func fid) caps)) (some xs) = AC P fid (xs ++ caps) st.heap st.nx (dRK P own ro N F Q d r pd st) := rfl
theorem dRK_ret (x : AV) (h : Heap) (n : Nat) : dRK P own ro N F Q d r pd st (.ret x) h n = (pendOk h (pendKeep d.late pd) ∧ dg P own ro N F Q r (pendKeep d.late pd) { st with env := setE d.s.dst x st.env, heap := h, nx := n }) := rfl
end

section
variable {P : Program} {own : Nat → Nat → Bool} {ro : Option Nat} {N : Nat} {F : List Fr} {Q : AX → ASt → Prop}
/-- The start. -/
theorem AW_go {ac : ACode} {st : ASt} (hm : P.follows .mixedOrders = true) (h : go P own ro N [] Q ac st) : AW P own ro N ac Q st := AW_of hm h
theorem cK_split {a b : ACode} {st : ASt} {c : Bool} (h1 : c = true → go P own ro N F Q a st) (h2 : c = false → go P own ro N F Q b st) : cK P own ro N F Q a b st (some (.bool c)) := ⟨h1, h2⟩
theorem cK_dec {a b : ACode} {st : ASt} {p : Prop} [Decidable p] (h1 : p → go P own ro N F Q a st) (h2 : ¬ p → go P own ro N F Q b st) : cK P own ro N F Q a b st (some (.bool (decide p))) :=
  ⟨fun h => h1 (by simpa using h), fun h => h2 (by simpa using h)⟩
theorem gK_split {s : AStep} {r : List AStep} {st : ASt} {c : Bool} (h1 : c = true → aK P own ro N F Q s r st s.act) (h2 : c = false → rg P own ro N F Q r { st with env := dropE s.dst st.env }) : gK P own ro N F Q s r st (some c) := ⟨h1, h2⟩
/-- A loop's rounds. -/
theorem go_rounds {b : ACode} {st : ASt} (I : Nat → ASt → Prop) {n : Nat} (hm : P.follows .mixedOrders = true) (h0 : I n st)
    (round : ∀ n s, I n s → go P own ro N [] (AX.then (fun s' => ∃ m, m < n ∧ I m s') (post P own ro N Q F)) b s) : AW P own ro N (.loop b) (post P own ro N Q F) st :=
  AW_loop I h0 fun n s hi => AW_go hm (round n s hi)
theorem AC.go {P : Program} {own : Nat → Nat → Bool} {f : FuncId} {N : Nat} {ac : ACode} {rs : List RV} {xs : List AV} {h : Heap} {nx : Nat} {Q : AE → Heap → Nat → Prop} (hm : P.follows .mixedOrders = true) (hi : Is P own f N ac rs) (hl : xs.length ≤ N)
    (hw : go P own none N [] (Fin rs Q) ac { env := penv 0 xs, heap := h, nx := nx }) : AC P f xs h nx Q := AC.is hi hl (AW_go hm hw)
end
theorem then_n (K : ASt → Prop) (Q : AX → ASt → Prop) (st : ASt) : AX.then K Q .normal st = K st := rfl
theorem then_e (K : ASt → Prop) (Q : AX → ASt → Prop) (i : Nat) (st : ASt) : AX.then K Q (.exit i) st = Q (.exit i) st := rfl
theorem then_r (K : ASt → Prop) (Q : AX → ASt → Prop) (st : ASt) : AX.then K Q .ret st = Q .ret st := rfl
theorem then_p (K : ASt → Prop) (Q : AX → ASt → Prop) (x : AV) (st : ASt) : AX.then K Q (.panic x) st = Q (.panic x) st := rfl
/-- The end of a function without deferred calls. -/
theorem Fin_ret (rs : List RV) (Q : AE → Heap → Nat → Prop) (env : Env) (h : Heap) (n : Nat) : Fin rs Q .ret ⟨env, h, n, []⟩ = (∃ ys, rvsEv env h rs = some ys ∧ Q (.ret (resV ys)) h n) := by simp [Fin, dmOk, dels]
theorem Fin_normal (rs : List RV) (Q : AE → Heap → Nat → Prop) (env : Env) (h : Heap) (n : Nat) : Fin rs Q .normal ⟨env, h, n, []⟩ = (∃ ys, rvsEv env h rs = some ys ∧ Q (.ret (resV ys)) h n) := by simp [Fin, dmOk, dels]
theorem Fin_panic (rs : List RV) (Q : AE → Heap → Nat → Prop) (x : AV) (env : Env) (h : Heap) (n : Nat) : Fin rs Q (.panic x) ⟨env, h, n, []⟩ = Q (.panic x) h n := by simp [Fin, dmOk, dels]
theorem ex_some {α : Type} (x : α) (p : α → Prop) : (∃ y, some x = some y ∧ p y) = p x := by simp

end Go.Ab
