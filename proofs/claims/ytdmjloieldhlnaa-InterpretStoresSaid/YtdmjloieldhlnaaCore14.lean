/- Regions that draw their order: whatever order is drawn, it is as if the canonical one were. -/
import Derived.Test.YtdmjloieldhlnaaCore13
namespace Go.Ab
open Go.RowKit
set_option linter.unusedVariables false
set_option linter.unusedSimpArgs false

/-- A load that has been looked at: its number, size, kind, place and value. -/
abbrev Pend := List (Nat × Nat × Bool × AV × AV)
def pendOk (h : Heap) : Pend → Prop
  | [] => True
  | (_, sz, ag, p, x) :: r => reload h sz ag p = some x ∧ pendOk h r
def pendKeep (late : List Nat) : Pend → Pend
  | [] => []
  | q :: r => if late.contains q.1 then q :: pendKeep late r else pendKeep late r
theorem pendOk_mem {h : Heap} : ∀ {pd : Pend}, pendOk h pd → ∀ i sz ag p x, (i, sz, ag, p, x) ∈ pd → reload h sz ag p = some x
  | [], _, i, sz, ag, p, x, hm => by simp at hm
  | (i', sz', ag', p', x') :: r, hp, i, sz, ag, p, x, hm => by
    rcases List.mem_cons.1 hm with he | hm
    · simp only [Prod.mk.injEq] at he; obtain ⟨rfl, rfl, rfl, rfl, rfl⟩ := he; exact hp.1
    · exact pendOk_mem hp.2 i sz ag p x hm
theorem pendKeep_mem {late : List Nat} : ∀ {pd : Pend} {q}, q ∈ pd → late.contains q.1 = true → q ∈ pendKeep late pd
  | [], q, hm, _ => by simp at hm
  | q' :: r, q, hm, hc => by
    simp only [pendKeep]
    rcases List.mem_cons.1 hm with rfl | hm
    · rw [if_pos hc]; exact List.mem_cons_self
    · split
      · exact List.mem_cons_of_mem _ (pendKeep_mem hm hc)
      · exact pendKeep_mem hm hc

def AV.isFp : AV → Bool
  | .fp _ => true
  | _ => false

/-- What is to be shown of a region that draws its order: the canonical order, and that what may come late reads the same. -/
def AD (P : Program) (Q : AX → ASt → Prop) : List DStep → Pend → ASt → Prop
  | [], _, st => Q .normal st
  | d :: r, pd, st => match guardOk st.env d.s.guard with
    | none => False
    | some false => AD P Q r pd { st with env := dropE d.s.dst st.env }
    | some true => match d.s.act with
      | .op ao => if ao.quiet = true then (match opEv ao st.env st.heap st.nx with
          | some (.val x, _, _) => AD P Q r pd { st with env := setE d.s.dst x st.env }
          | _ => False)
        else match ao with
          | .load sz ag o => (match oev st.env o with
            | some p => (match reload st.heap sz ag p with
              | some x => AD P Q r (if p.isFp = true then pd else (d.i, sz, ag, p, x) :: pd) { st with env := setE d.s.dst x st.env }
              | none => False)
            | none => False)
          | ao => (match opEv ao st.env st.heap st.nx with
            | some (.val x, h', n') => pendOk h' (pendKeep d.late pd) ∧ AD P Q r (pendKeep d.late pd) { st with env := setE d.s.dst x st.env, heap := h', nx := n' }
            | some (.skip, h', n') => pendOk h' (pendKeep d.late pd) ∧ AD P Q r (pendKeep d.late pd) { st with env := dropE d.s.dst st.env, heap := h', nx := n' }
            | none => False)
      | .call f args => match oev st.env f, oevs st.env args with
        | some (.fn (.func fid) caps), some xs => AC P fid (xs ++ caps) st.heap st.nx fun y h' n' => pendOk h' (pendKeep d.late pd) ∧ match y with
          | .ret x => AD P Q r (pendKeep d.late pd) { st with env := setE d.s.dst x st.env, heap := h', nx := n' }
          | .panic x => Q (.panic x) { env := [], heap := h', nx := n', dm := st.dm }
        | _, _ => False

/-- A step that has been looked at: what it leaves, and the temporaries that it found. -/
structure Ent where
  d : DStep
  x : Option AV
  env : Env
/-- The temporaries, when some of the steps have been done. -/
def lk (S : Nat → Bool) (b : Nat → Option AV) : List Ent → Nat → Option AV
  | [], t => b t
  | en :: T, t => if S en.d.i = true ∧ en.d.s.dst = some t then en.x else lk S b T t
theorem lk_congr {S S' : Nat → Bool} {b : Nat → Option AV} {t : Nat} : ∀ {T : List Ent}, (∀ en ∈ T, en.d.s.dst = some t → S en.d.i = S' en.d.i) → lk S b T t = lk S' b T t
  | [], _ => rfl
  | en :: T, h => by
    simp only [lk]
    rw [lk_congr (T := T) fun e he => h e (List.mem_cons_of_mem _ he)]
    by_cases hd : en.d.s.dst = some t
    · rw [h en List.mem_cons_self hd]
    · simp only [hd, and_false, if_false]
theorem lk_skip {S : Nat → Bool} {b : Nat → Option AV} {t : Nat} {T0 : List Ent} : ∀ {T1 : List Ent}, (∀ en ∈ T1, en.d.s.dst = some t → S en.d.i = false) → lk S b (T1 ++ T0) t = lk S b T0 t
  | [], _ => rfl
  | en :: T, h => by
    simp only [List.cons_append, lk]
    rw [lk_skip (T1 := T) fun e he => h e (List.mem_cons_of_mem _ he), if_neg]
    rintro ⟨h1, h2⟩
    rw [h en List.mem_cons_self h2] at h1; cases h1

/-- What is known of a step that has been looked at and not done. -/
def Obl (en : Ent) (h : Heap) (nx : Nat) (pd : Pend) : Prop :=
  ∃ bb, guardOk en.env en.d.s.guard = some bb ∧ ((bb = false ∧ en.x = some (.tup [])) ∨ (bb = true ∧ ∃ ao y, en.d.s.act = .op ao ∧ en.x = some y ∧ opEv ao en.env h nx = some (.val y, h, nx) ∧
    (ao.quiet = true ∨ ∃ sz ag o p, ao = .load sz ag o ∧ oev en.env o = some p ∧ reload h sz ag p = some y ∧ (p.isFp = true ∨ (en.d.i, sz, ag, p, y) ∈ pd))))

structure DInv (L : List DStep) (b : Nat → Option AV) (S : Nat → Bool) (T : List Ent) (suf : List DStep) (pd : Pend) (st : ASt) : Prop where
  split : (T.map (·.d)).reverse ++ suf = L
  sub : ∀ d ∈ suf, S d.i = false
  env : ∀ t, eget st.env t = lk (fun _ => true) b T t
  obl : ∀ T1 en T0, T = T1 ++ en :: T0 → S en.d.i = false → (∀ t, eget en.env t = lk (fun _ => true) b T0 t) ∧ Obl en st.heap st.nx pd

theorem Obl.more {en : Ent} {h : Heap} {nx : Nat} {pd pd' : Pend} (hp : ∀ q ∈ pd, q ∈ pd') (ho : Obl en h nx pd) : Obl en h nx pd' := by
  obtain ⟨bb, h1, h2⟩ := ho
  refine ⟨bb, h1, ?_⟩
  rcases h2 with h2 | ⟨h2, ao, y, h3, h4, h5, h6⟩
  · exact .inl h2
  · refine .inr ⟨h2, ao, y, h3, h4, h5, ?_⟩
    rcases h6 with h6 | ⟨sz, ag, o, p, h6, h7, h8, h9⟩
    · exact .inl h6
    · refine .inr ⟨sz, ag, o, p, h6, h7, h8, ?_⟩
      rcases h9 with h9 | h9
      · exact .inl h9
      · exact .inr (hp _ h9)

/-- One more step is looked at, and not done. -/
theorem DInv.push {L : List DStep} {b : Nat → Option AV} {S : Nat → Bool} {T : List Ent} {d : DStep} {r : List DStep} {pd pd' : Pend} {st st' : ASt} (hi : DInv L b S T (d :: r) pd st) {x : Option AV}
    {y : AV} (hxy : x = some y) (he : st'.env = setE d.s.dst y st.env) (hh : st'.heap = st.heap) (hn : st'.nx = st.nx) (hp : ∀ q ∈ pd, q ∈ pd') (ho : Obl ⟨d, x, st.env⟩ st.heap st.nx pd') :
    DInv L b S (⟨d, x, st.env⟩ :: T) r pd' st' := by
  refine ⟨by rw [← hi.split]; simp, fun e he => hi.sub e (List.mem_cons_of_mem _ he), fun t => ?_, fun T1 en T0 hT hS => ?_⟩
  · simp only [lk, true_and]
    rw [← hi.env t, he]
    cases hd : d.s.dst with
    | none => simp [setE]
    | some u => simp [setE, eget_cons, hxy]
  · rw [hh, hn]
    cases T1 with
    | nil =>
      simp only [List.nil_append, List.cons.injEq] at hT
      obtain ⟨rfl, rfl⟩ := hT
      exact ⟨hi.env, ho⟩
    | cons e T1 =>
      simp only [List.cons_append, List.cons.injEq] at hT
      obtain ⟨rfl, rfl⟩ := hT
      obtain ⟨h1, h2⟩ := hi.obl T1 en T0 rfl hS
      exact ⟨h1, h2.more hp⟩

/-- The steps that change nothing are looked at, up to the next one that does. -/
theorem advance {P : Program} {Q : AX → ASt → Prop} {L : List DStep} {b : Nat → Option AV} {S : Nat → Bool} : ∀ (suf : List DStep) (T : List Ent) (pd : Pend) (st : ASt), DInv L b S T suf pd st → AD P Q suf pd st →
    ∃ T1 suf' pd' st', DInv L b S (T1 ++ T) suf' pd' st' ∧ AD P Q suf' pd' st' ∧ (suf' = [] ∨ ∃ d r, suf' = d :: r ∧ guardOk st'.env d.s.guard = some true ∧ d.s.act.isW = true) ∧
      st'.heap = st.heap ∧ st'.nx = st.nx ∧ st'.dm = st.dm ∧ ∀ en ∈ T1, S en.d.i = false
  | [], T, pd, st, hi, ha => ⟨[], [], pd, st, hi, ha, .inl rfl, rfl, rfl, rfl, fun en h => by simp at h⟩
  | d :: r, T, pd, st, hi, ha => by
    have hSd := hi.sub d List.mem_cons_self
    have key : ∀ (x : Option AV) (pd' : Pend) (st' : ASt), DInv L b S (⟨d, x, st.env⟩ :: T) r pd' st' → AD P Q r pd' st' → st'.heap = st.heap → st'.nx = st.nx → st'.dm = st.dm →
      ∃ T1 suf' pd' st', DInv L b S (T1 ++ T) suf' pd' st' ∧ AD P Q suf' pd' st' ∧ (suf' = [] ∨ ∃ d r, suf' = d :: r ∧ guardOk st'.env d.s.guard = some true ∧ d.s.act.isW = true) ∧
      st'.heap = st.heap ∧ st'.nx = st.nx ∧ st'.dm = st.dm ∧ ∀ en ∈ T1, S en.d.i = false := by
      intro x pd' st' h1 h2 e1 e2 e3
      obtain ⟨T1, suf', pd2, st2, h3, h4, h5, h6, h7, h8, h9⟩ := advance r _ pd' st' h1 h2
      refine ⟨T1 ++ [⟨d, x, st.env⟩], suf', pd2, st2, by simpa using h3, h4, h5, h6.trans e1, h7.trans e2, h8.trans e3, fun en he => ?_⟩
      rcases List.mem_append.1 he with he | he
      · exact h9 en he
      · simp only [List.mem_singleton] at he; subst he; exact hSd
    unfold AD at ha
    split at ha
    · exact ha.elim
    · rename_i hg
      exact key (some (.tup [])) pd { st with env := dropE d.s.dst st.env } (hi.push (x := some (.tup [])) rfl rfl rfl rfl (fun q h => h) ⟨false, hg, .inl ⟨rfl, rfl⟩⟩) ha rfl rfl rfl
    · rename_i hg
      cases hact : d.s.act with
      | call f xs =>
        refine ⟨[], d :: r, pd, st, hi, ?_, .inr ⟨d, r, rfl, hg, by rw [hact]; rfl⟩, rfl, rfl, rfl, fun en h => by simp at h⟩
        unfold AD
        simp only [hg]
        exact ha
      | op ao =>
        by_cases hq : ao.quiet = true
        · simp only [hact, hq, if_true] at ha
          split at ha
          · rename_i x h1 n1 hev
            obtain ⟨x', hx'⟩ := quiet_val hq hev
            simp only [Prod.mk.injEq, Out.val.injEq] at hx'
            obtain ⟨rfl, rfl, rfl⟩ := hx'
            exact key (some x) pd { st with env := setE d.s.dst x st.env } (hi.push (x := some x) rfl rfl rfl rfl (fun q h => h) ⟨true, hg, .inr ⟨rfl, ao, x, hact, rfl, hev, .inl hq⟩⟩) ha rfl rfl rfl
          · exact ha.elim
        · cases hld : ao.isLoad with
          | true =>
            cases ao <;> simp only [AOp.isLoad] at hld <;> first | (cases hld; done) | skip
            rename_i sz ag o
            simp only [hact, hq] at ha
            simp only [Bool.false_eq_true, if_false] at ha
            split at ha
            · rename_i p hp
              split at ha
              · rename_i x hx
                refine key (some x) _ { st with env := setE d.s.dst x st.env } (hi.push (x := some x) rfl rfl rfl rfl (fun q h => ?_) ⟨true, hg, .inr ⟨rfl, _, x, hact, rfl, load_reload hp hx, .inr ⟨sz, ag, o, p, rfl, hp, hx, ?_⟩⟩⟩) ha rfl rfl rfl
                · split
                  · exact h
                  · exact List.mem_cons_of_mem _ h
                · by_cases hf : p.isFp = true
                  · exact .inl hf
                  · refine .inr ?_; rw [if_neg hf]; exact List.mem_cons_self
              · exact ha.elim
            · exact ha.elim
          | false =>
            refine ⟨[], d :: r, pd, st, hi, ?_, .inr ⟨d, r, rfl, hg, by rw [hact]; simp only [AAct.isW, hld]; simp [hq]⟩, rfl, rfl, rfl, fun en h => by simp at h⟩
            unfold AD
            simp only [hg]
            exact ha

end Go.Ab
