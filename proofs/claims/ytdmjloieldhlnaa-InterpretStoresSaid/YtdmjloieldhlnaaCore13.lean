/- Regions that draw their order: what the operations read, and the order that is looked at. -/
import Derived.Test.YtdmjloieldhlnaaCore12
import Derived.OrdersIn
namespace Go.Ab
open Go.RowKit
set_option linter.unusedVariables false
set_option linter.unusedSimpArgs false

/-! ### What an operation reads -/
theorem oev_congr {e e' : Env} {o : Operand} (h : ∀ t, o = .tmp t → eget e t = eget e' t) : oev e o = oev e' o := by
  cases o with
  | tmp t => exact h t rfl
  | _ => rfl
theorem oevs_congr {e e' : Env} : ∀ {xs : List Operand}, (∀ o ∈ xs, oev e o = oev e' o) → oevs e xs = oevs e' xs
  | [], _ => rfl
  | o :: r, h => by simp only [oevs, h o List.mem_cons_self, oevs_congr (xs := r) fun x hx => h x (List.mem_cons_of_mem _ hx)]
theorem partsE_congr {e e' : Env} : ∀ {ps : List (Nat × Operand)}, (∀ o ∈ ps.map (·.2), oev e o = oev e' o) → partsE e ps = partsE e' ps
  | [], _ => rfl
  | (i, o) :: r, h => by simp only [partsE, h o (by simp), partsE_congr (ps := r) fun x hx => h x (by simp only [List.map_cons, List.mem_cons]; exact .inr hx)]
theorem partsE3_congr {e e' : Env} : ∀ {ps : List (Nat × Nat × Operand)}, (∀ o ∈ ps.map (·.2.2), oev e o = oev e' o) → partsE3 e ps = partsE3 e' ps
  | [], _ => rfl
  | (i, s, o) :: r, h => by simp only [partsE3, h o (by simp), partsE3_congr (ps := r) fun x hx => h x (by simp only [List.map_cons, List.mem_cons]; exact .inr hx)]
theorem bnd_congr {e e' : Env} {x : Option Operand} {d : Nat} (h : ∀ o ∈ x.toList, oev e o = oev e' o) : bnd e x d = bnd e' x d := by
  cases x with
  | none => rfl
  | some o => simp only [bnd, h o (by simp)]
theorem opEv_congr {ao : AOp} {e e' : Env} {h : Heap} {n : Nat} (H : ∀ o ∈ ao.opnds, oev e o = oev e' o) : opEv ao e h n = opEv ao e' h n := by
  cases ao <;> simp only [AOp.opnds] at H <;> simp only [opEv]
  case build z ps => rw [partsE3_congr H]
  case buildF z l ps => rw [partsE_congr H]
  case buildO t z l ps => rw [partsE_congr H]
  case mkfn f cs => rw [oevs_congr H]
  case slc s x lo hi m =>
    rw [H x (by simp)]
    have h1 : ∀ d, bnd e lo d = bnd e' lo d := fun d => bnd_congr fun o ho => H o (by simp only [List.mem_cons, List.mem_append]; exact .inr (.inl ho))
    have h2 : ∀ d, bnd e hi d = bnd e' hi d := fun d => bnd_congr fun o ho => H o (by simp only [List.mem_cons, List.mem_append]; exact .inr (.inr (.inl ho)))
    have h3 : ∀ d, bnd e m d = bnd e' m d := fun d => bnd_congr fun o ho => H o (by simp only [List.mem_cons, List.mem_append]; exact .inr (.inr (.inr ho)))
    cases m <;> simp only [h1, h2, h3]
  case slcs x lo hi =>
    rw [H x (by simp)]
    have h1 : ∀ d, bnd e lo d = bnd e' lo d := fun d => bnd_congr fun o ho => H o (by simp only [List.mem_cons, List.mem_append]; exact .inr (.inl ho))
    have h2 : ∀ d, bnd e hi d = bnd e' hi d := fun d => bnd_congr fun o ho => H o (by simp only [List.mem_cons, List.mem_append]; exact .inr (.inr ho))
    simp only [h1, h2]
  case pick c a b => rw [H c (by simp), H a (by simp), H b (by simp)]
  all_goals
    first
      | rfl
      | (rename_i x; rw [H x (by simp)]; done)
      | (rename_i x _; rw [H x (by simp)]; done)
      | (rename_i x y; rw [H x (by simp), H y (by simp)]; done)

theorem quiet_heap {ao : AOp} (hq : ao.quiet = true) {e : Env} {h : Heap} {n : Nat} : opEv ao e h n = (opEv ao e [] 0).map fun r => (r.1, h, n) := by
  cases ao <;> first
    | (simp [AOp.quiet] at hq; done)
    | (simp only [opEv]; repeat' split) <;> simp_all
theorem quiet_val {ao : AOp} (hq : ao.quiet = true) {e : Env} {h : Heap} {n : Nat} {r : Out × Heap × Nat} (hr : opEv ao e h n = some r) : ∃ x, r = (.val x, h, n) := by
  cases ao <;> first
    | (simp [AOp.quiet] at hq; done)
    | (simp only [opEv] at hr; repeat' split at hr) <;> first | (cases hr; done) | (cases hr; exact ⟨_, rfl⟩)
theorem quiet_any {ao : AOp} (hq : ao.quiet = true) {e : Env} {h h' : Heap} {n n' : Nat} {x : AV} {h1 : Heap} {n1 : Nat} (hr : opEv ao e h n = some (.val x, h1, n1)) : opEv ao e h' n' = some (.val x, h', n') := by
  rw [quiet_heap hq] at hr ⊢
  cases hq : opEv ao e [] 0 with
  | none => rw [hq] at hr; cases hr
  | some r => rw [hq] at hr; simp only [Option.map_some, Option.some.injEq, Prod.mk.injEq] at hr ⊢; simp only [hr.1, and_self]

def reload (h : Heap) (sz : Nat) (ag : Bool) (p : AV) : Option AV := match ptrCells h p with
  | some cs => takeV sz ag cs
  | none => none
theorem load_reload {sz : Nat} {ag : Bool} {x : Operand} {e : Env} {h : Heap} {n : Nat} {p y : AV} (hp : oev e x = some p) (hr : reload h sz ag p = some y) : opEv (.load sz ag x) e h n = some (.val y, h, n) := by
  unfold reload at hr
  simp only [opEv, hp]
  split at hr
  · rename_i cs hc; simp only [hc, hr]
  · cases hr

/-! ### The masks -/
theorem maskOf_spec {ms : List Nat} : ∀ {l : List Edge} {m : Nat}, maskOf ms l = some m →
    (∀ e ∈ l, Region.binds .any e = true → ∃ k, ms[e.on]? = some k) ∧ ∀ j, m.testBit j = true → ∃ e ∈ l, Region.binds .any e = true ∧ (j = e.on ∨ ∃ k, ms[e.on]? = some k ∧ k.testBit j = true)
  | [], m, h => by
    simp only [maskOf, Option.some.injEq] at h; subst h
    exact ⟨fun e he => by simp at he, fun j hj => by simp at hj⟩
  | e :: r, m, h => by
    simp only [maskOf] at h
    split at h
    · cases h
    · rename_i m0 hm0
      obtain ⟨h1, h2⟩ := maskOf_spec hm0
      split at h
      · rename_i hb
        split at h
        · rename_i k hk
          simp only [Option.some.injEq] at h; subst h
          refine ⟨fun e' he' hb' => ?_, fun j hj => ?_⟩
          · rcases List.mem_cons.1 he' with rfl | he'
            · exact ⟨k, hk⟩
            · exact h1 e' he' hb'
          · simp only [Nat.testBit_or, Bool.or_eq_true] at hj
            rcases hj with (hj | hj) | hj
            · obtain ⟨e', he', h3⟩ := h2 j hj
              exact ⟨e', List.mem_cons_of_mem _ he', h3⟩
            · exact ⟨e, List.mem_cons_self, hb, .inr ⟨k, hk, hj⟩⟩
            · refine ⟨e, List.mem_cons_self, hb, .inl ?_⟩
              rw [Nat.one_shiftLeft, Nat.testBit_two_pow] at hj
              simp only [decide_eq_true_eq] at hj; exact hj.symm
        · cases h
      · rename_i hb
        simp only [Option.some.injEq] at h; subst h
        refine ⟨fun e' he' hb' => ?_, fun j hj => ?_⟩
        · rcases List.mem_cons.1 he' with rfl | he'
          · exact absurd hb' hb
          · exact h1 e' he' hb'
        · obtain ⟨e', he', h3⟩ := h2 j hj
          exact ⟨e', List.mem_cons_of_mem _ he', h3⟩

theorem masks_spec : ∀ {os : List Oper} {ms out : List Nat}, masks os ms = some out →
    (∃ t, out = ms ++ t) ∧ ∀ i o, os[i]? = some o → ∃ m, out[ms.length + i]? = some m ∧ maskOf (out.take (ms.length + i)) o.after.toList = some m
  | [], ms, out, h => by
    simp only [masks, Option.some.injEq] at h; subst h
    exact ⟨⟨[], by simp⟩, fun i o hi => by simp at hi⟩
  | o :: r, ms, out, h => by
    simp only [masks] at h
    split at h
    · rename_i m hm
      obtain ⟨⟨t, ht⟩, h2⟩ := masks_spec h
      refine ⟨⟨m :: t, by rw [ht]; simp⟩, fun i o' hi => ?_⟩
      cases i with
      | zero =>
        simp only [List.getElem?_cons_zero, Option.some.injEq] at hi; subst hi
        refine ⟨m, ?_, ?_⟩
        · rw [ht]; simp
        · rw [ht]; simpa using hm
      | succ i =>
        obtain ⟨m', h3, h4⟩ := h2 i o' (by simpa using hi)
        have e1 : (ms ++ [m]).length + i = ms.length + (i + 1) := by simp; omega
        rw [e1] at h3 h4
        exact ⟨m', h3, h4⟩
    · cases h

/-- What the masks say of the operations. -/
theorem before_spec {ops : Array Oper} {ms : List Nat} (h : masks ops.toList [] = some ms) {i : Nat} {o : Oper} (ho : ops[i]? = some o) :
    (∀ e ∈ o.after, Region.binds .any e = true → e.on < i) ∧ ∀ j, before ms i j = true → ∃ e ∈ o.after, Region.binds .any e = true ∧ (j = e.on ∨ before ms e.on j = true) := by
  obtain ⟨m, h1, h2⟩ := (masks_spec h).2 i o (by simpa using ho)
  simp only [List.length_nil, Nat.zero_add] at h1 h2
  obtain ⟨h3, h4⟩ := maskOf_spec h2
  refine ⟨fun e he hb => ?_, fun j hj => ?_⟩
  · obtain ⟨k, hk⟩ := h3 e (by simpa using he) hb
    have := (List.getElem?_eq_some_iff.1 hk).1
    simp at this; omega
  · have hm : ms.getD i 0 = m := by simp [List.getD_eq_getElem?_getD, h1]
    unfold before at hj
    rw [hm] at hj
    obtain ⟨e, he, hb, h5⟩ := h4 j hj
    refine ⟨e, by simpa using he, hb, ?_⟩
    rcases h5 with h5 | ⟨k, hk, hkj⟩
    · exact .inl h5
    · refine .inr ?_
      have : ms[e.on]? = some k := by
        rw [List.getElem?_take] at hk
        split at hk
        · exact hk
        · cases hk
      unfold before
      simp [List.getD_eq_getElem?_getD, this, hkj]

/-- What has been done is closed: whatever must come before it has been done. -/
def Closed (ops : Array Oper) (S : Nat → Bool) : Prop := ∀ i o, ops[i]? = some o → S i = true → ∀ e ∈ o.after, Region.binds .any e = true → S e.on = true
theorem Closed.before {ops : Array Oper} {ms : List Nat} {S : Nat → Bool} (hm : masks ops.toList [] = some ms) (hc : Closed ops S) : ∀ (i : Nat) (o : Oper), ops[i]? = some o → (∀ e ∈ o.after, Region.binds .any e = true → S e.on = true) → ∀ j, before ms i j = true → S j = true := by
  intro i
  induction i using Nat.strongRecOn with
  | _ i ih =>
    intro o ho he j hj
    obtain ⟨h1, h2⟩ := before_spec hm ho
    obtain ⟨e, hmem, hb, h3⟩ := h2 j hj
    rcases h3 with rfl | h3
    · exact he e hmem hb
    · have hlt := h1 e hmem hb
      have hil := (Array.getElem?_eq_some_iff.1 ho).1
      have ho' : ops[e.on]? = some ops[e.on] := Array.getElem?_eq_getElem (by omega)
      exact ih e.on hlt _ ho' (fun e' he' hb' => hc e.on _ ho' (he e hmem hb) e' he' hb') j h3

/-! ### What compileD shows -/
structure LaidD (P : Program) (own : Nat → Bool) (N : Nat) (ops : Array Oper) (ms : List Nat) (L : List DStep) : Prop where
  masked : masks ops.toList [] = some ms
  step : ∀ d ∈ L, ∃ o, ops[d.i]? = some o ∧ compileGuard ops o = some d.s.guard ∧ compileAct P (own d.i) o = some d.s.act ∧ o.dst = d.s.dst ∧ ∀ t, d.s.dst = some t → t < N
  all : ∀ i, i < ops.size → ∃ d ∈ L, d.i = i
  pairs : L.Pairwise fun d e => d.i ≠ e.i ∧ (d.dep e = true → before ms e.i d.i = true)

theorem pairsB_spec {ms : List Nat} : ∀ {L : List DStep}, pairsB ms L = true → L.Pairwise fun d e => d.i ≠ e.i ∧ (d.dep e = true → before ms e.i d.i = true)
  | [], _ => .nil
  | d :: r, h => by
    simp only [pairsB, Bool.and_eq_true, List.all_eq_true] at h
    refine .cons (fun e he => ?_) (pairsB_spec h.2)
    have := h.1 e he
    simp only [pairB, Bool.and_eq_true, bne_iff_ne, ne_eq, Bool.or_eq_true, Bool.not_eq_true'] at this
    refine ⟨this.1, fun hd => ?_⟩
    rcases this.2 with h3 | h3
    · rw [hd] at h3; cases h3
    · exact h3

theorem steps_at {P : Program} {own : Nat → Bool} {N : Nat} {ops : Array Oper} : ∀ {os : List Oper} {i : Nat} {ss : List AStep}, compileSteps P own N ops i os = some ss → ∀ (k : Nat) (o : Oper), os[k]? = some o →
    ∃ s, ss[k]? = some s ∧ compileGuard ops o = some s.guard ∧ compileAct P (own (i + k)) o = some s.act ∧ o.dst = s.dst ∧ ∀ t, s.dst = some t → t < N := by
  intro os
  induction os with
  | nil => intro i ss h k o hk; simp at hk
  | cons o' r ih =>
    intro i ss h k o hk
    cases ss with
    | nil => simp only [compileSteps] at h; split at h <;> cases h
    | cons s ss =>
      obtain ⟨o1, r1, he, h1, h2, h3, h4, h5⟩ := inv_step h
      simp only [List.cons.injEq] at he
      obtain ⟨rfl, rfl⟩ := he
      cases k with
      | zero =>
        simp only [List.getElem?_cons_zero, Option.some.injEq] at hk; subst hk
        exact ⟨s, rfl, h2, by simpa using h3, h4, h5⟩
      | succ k =>
        obtain ⟨s', h6, h7⟩ := ih h1 k o (by simpa using hk)
        refine ⟨s', by simpa using h6, ?_⟩
        have e : i + 1 + k = i + (k + 1) := by omega
        rw [e] at h7
        exact h7

theorem compileD_spec {P : Program} {own : Nat → Bool} {N : Nat} {ops : Array Oper} {L : List DStep} (h : compileD P own N ops = some L) : ∃ ms, LaidD P own N ops ms L := by
  unfold compileD at h
  split at h
  · rename_i ss ms hss hms
    simp only at h
    split at h
    · rename_i hc
      simp only [Option.some.injEq] at h
      simp only [Bool.and_eq_true, List.all_eq_true, decide_eq_true_eq] at hc
      obtain ⟨⟨h1, h2⟩, h3⟩ := hc
      rw [h] at h3
      refine ⟨ms, hms, fun d hd => ?_, fun i hi => ?_, pairsB_spec h3⟩
      · rw [← h] at hd
        obtain ⟨i, hi, rfl⟩ := List.mem_map.1 hd
        have hlt := h1 i hi
        have ho : ops[i]? = some ops[i] := Array.getElem?_eq_getElem hlt
        obtain ⟨s, h4, h5⟩ := steps_at hss i ops[i] (by simp)
        refine ⟨ops[i], ho, ?_⟩
        have e : ss.getD i default = s := by simp [List.getD_eq_getElem?_getD, h4]
        simp only [e]
        simpa using h5
      · have := h2 i (List.mem_range.2 hi)
        rw [← h]
        exact ⟨_, List.mem_map.2 ⟨i, by simpa using this, rfl⟩, rfl⟩
    · cases h
  · cases h

end Go.Ab
