/- Regions that draw their order: the proof that each order does what the canonical one does. -/
import Derived.Test.YtdmjloieldhlnaaCore14
namespace Go.Ab
open Go.RowKit
set_option linter.unusedVariables false
set_option linter.unusedSimpArgs false

def erestr (p : Nat → Bool) : Env → Env
  | [] => []
  | (i, x) :: r => if p i then (i, x) :: erestr p r else erestr p r
theorem eget_erestr (p : Nat → Bool) (e : Env) (t : Nat) : eget (erestr p e) t = if p t = true then eget e t else none := by
  induction e with
  | nil => simp [erestr, eget]
  | cons q r ih =>
    obtain ⟨i, x⟩ := q
    simp only [erestr]
    by_cases hp : p i = true
    · rw [if_pos hp]; simp only [eget_cons, ih]
      by_cases e : i = t
      · subst e; simp [hp]
      · simp [e]
    · rw [if_neg hp, ih]; simp only [eget_cons]
      by_cases e : i = t
      · subst e; simp [hp]
      · simp [e]

theorem looks_opnd {s : AStep} {o : Operand} (ho : o ∈ s.act.opnds) {t : Nat} (ht : o = .tmp t) : s.looks t = true := by
  subst ht
  simp only [AStep.looks, Bool.or_eq_true, List.any_eq_true]
  exact .inl ⟨_, ho, by simp⟩
theorem looks_guard {s : AStep} {t : Nat} {c : Bool} (h : s.guard = some (t, c)) : s.looks t = true := by
  simp only [AStep.looks, h, Bool.or_eq_true]
  exact .inr (by simp)
theorem guardOk_congr {e e' : Env} {s : AStep} (h : ∀ t, s.looks t = true → eget e t = eget e' t) : guardOk e s.guard = guardOk e' s.guard := by
  unfold guardOk
  cases hg : s.guard with
  | none => rfl
  | some q =>
    obtain ⟨t, c⟩ := q
    simp only [h t (looks_guard hg)]
theorem opnds_congr {e e' : Env} {s : AStep} (h : ∀ t, s.looks t = true → eget e t = eget e' t) : ∀ o ∈ s.act.opnds, oev e o = oev e' o :=
  fun o ho => oev_congr fun t ht => h t (looks_opnd ho ht)

structure StRD (w0 : World) (N : Nat) (K : Wd) (S : Nat → Bool) (b : Nat → Option AV) (T : List Ent) (h : Heap) (nx : Nat) (dm : List Nat) (a : Act) : Prop where
  good : Good w0 K h nx
  env : ∀ t x, lk S b T t = some x → ∃ v, a.tmps[t]? = some v ∧ VR K nx x v
  size : a.tmps.size = N
  defers : a.defers = marks K dm
  dm : ∀ b ∈ dm, b < nx

section
variable {P : Program} {own : Nat → Bool} {N : Nat} {ops : Array Oper} {ms : List Nat} {L : List DStep} {b : Nat → Option AV} {S : Nat → Bool} {Q : AX → ASt → Prop} {ro : Option Nat}

theorem DInv.pairs {T : List Ent} {suf : List DStep} {pd : Pend} {st : ASt} (hL : LaidD P own N ops ms L) (hi : DInv L b S T suf pd st) :
    ((T.map (·.d)).reverse ++ suf).Pairwise fun d e => d.i ≠ e.i ∧ (d.dep e = true → before ms e.i d.i = true) := by rw [hi.split]; exact hL.pairs
theorem DInv.mem {T : List Ent} {suf : List DStep} {pd : Pend} {st : ASt} (hi : DInv L b S T suf pd st) {en : Ent} (h : en ∈ T) : en.d ∈ L := by
  rw [← hi.split]; exact List.mem_append_left _ (List.mem_reverse.2 (List.mem_map.2 ⟨en, h, rfl⟩))

/-- Of the steps looked at: those before 'en', and those behind. -/
theorem DInv.around {T1 T0 : List Ent} {en : Ent} {suf : List DStep} {pd : Pend} {st : ASt} (hL : LaidD P own N ops ms L) (hi : DInv L b S (T1 ++ en :: T0) suf pd st) :
    (∀ f ∈ T0, f.d.i ≠ en.d.i ∧ (f.d.dep en.d = true → before ms en.d.i f.d.i = true)) ∧ (∀ f ∈ T1, en.d.i ≠ f.d.i ∧ (en.d.dep f.d = true → before ms f.d.i en.d.i = true)) := by
  have h := (List.pairwise_append.1 (hi.pairs hL)).1
  rw [List.pairwise_reverse, List.pairwise_map, List.pairwise_append] at h
  obtain ⟨h1, h2, h3⟩ := h
  rw [List.pairwise_cons] at h2
  exact ⟨fun f hf => h2.1 f hf, fun f hf => h3 f hf en List.mem_cons_self⟩
theorem DInv.head {T : List Ent} {d : DStep} {r : List DStep} {pd : Pend} {st : ASt} (hL : LaidD P own N ops ms L) (hi : DInv L b S T (d :: r) pd st) :
    (∀ f ∈ T, f.d.i ≠ d.i ∧ (f.d.dep d = true → before ms d.i f.d.i = true)) ∧ (∀ e ∈ r, d.i ≠ e.i ∧ (d.dep e = true → before ms e.i d.i = true)) := by
  have h := List.pairwise_append.1 (hi.pairs hL)
  refine ⟨fun f hf => h.2.2 f.d (List.mem_reverse.2 (List.mem_map.2 ⟨f, hf, rfl⟩)) d List.mem_cons_self, fun e he => ?_⟩
  have h2 := h.2.1
  rw [List.pairwise_cons] at h2
  exact h2.1 e he

theorem dep_write {d e : DStep} {t : Nat} (hd : d.s.dst = some t) (h : e.s.looks t = true ∨ e.s.dst = some t) : d.dep e = true := by
  simp only [DStep.dep, hd, Bool.or_eq_true]
  rcases h with h | h
  · exact .inl (.inl (.inr (.inl h)))
  · exact .inl (.inl (.inr (.inr (by simp [h]))))
theorem dep_read {d e : DStep} {t : Nat} (he : e.s.dst = some t) (h : d.s.looks t = true) : d.dep e = true := by
  simp only [DStep.dep, he, Bool.or_eq_true]
  exact .inl (.inr h)
theorem dep_w {d e : DStep} (h : d.s.act.isW = true) : d.dep e = true := by simp [DStep.dep, h]
theorem dep_late {d e : DStep} (h : d.dep e = false) (hw : e.s.act.isW = true) : e.late.contains d.i = true := by
  simp only [DStep.dep, Bool.or_eq_false_iff, hw, Bool.true_and, Bool.not_eq_false'] at h
  exact h.2

theorem marks_ext {K K' : Wd} {n n' : Nat} (he : Ext K n K' n') {dm : List Nat} (h : ∀ b ∈ dm, b < n) : marks K' dm = marks K dm := by
  unfold marks
  apply List.map_congr_left
  intro b hb
  rw [he.m b (h b hb)]

/-- What the temporaries are, once a step is done whose value is this. -/
theorem lk_done {S' : Nat → Bool} {T1 T0 : List Ent} {en : Ent} (hS' : ∀ j, S' j = (S j || j == en.d.i)) (h1 : ∀ f ∈ T1, en.d.i ≠ f.d.i ∧ ∀ t, f.d.s.dst = some t → en.d.s.dst = some t → S f.d.i = false)
    (h0 : ∀ f ∈ T0, f.d.i ≠ en.d.i) (hn : S en.d.i = false) (t : Nat) : lk S' b (T1 ++ en :: T0) t = if en.d.s.dst = some t then en.x else lk S b (T1 ++ en :: T0) t := by
  have hself : S' en.d.i = true := by simp [hS']
  have h0' : lk S' b T0 t = lk S b T0 t := lk_congr fun f hf _ => by rw [hS']; have := h0 f hf; simp [this]
  induction T1 with
  | nil =>
    simp only [List.nil_append, lk, hself, true_and, hn, Bool.false_eq_true, false_and, if_false, h0']
  | cons f T1 ih =>
    have hf := h1 f List.mem_cons_self
    have hfi : S' f.d.i = S f.d.i := by rw [hS']; have : ¬ f.d.i = en.d.i := fun e => hf.1 e.symm; simp [this]
    simp only [List.cons_append, lk, hfi]
    rw [ih fun g hg => h1 g (List.mem_cons_of_mem _ hg)]
    by_cases hd : en.d.s.dst = some t
    · rw [if_pos hd, if_pos hd, if_neg]
      rintro ⟨h2, h3⟩
      rw [hf.2 t h3 hd] at h2; cases h2
    · rw [if_neg hd, if_neg hd]

theorem StRD.put {w0 : World} {K K' : Wd} {T T' : List Ent} {h h' : Heap} {nx nx' : Nat} {dm : List Nat} {a : Act} {S' : Nat → Bool} (hr : StRD w0 N K S b T h nx dm a) (he : Ext K nx K' nx') (hg : Good w0 K' h' nx') {d : Option Tmp} {x : Option AV} {v : Value}
    (hd : ∀ t, d = some t → t < N) (hv : ∀ y, x = some y → VR K' nx' y v) (hlk : ∀ t, lk S' b T' t = if d = some t then x else lk S b T t) : StRD w0 N K' S' b T' h' nx' dm (a.put d v) := by
  refine ⟨hg, fun t y hy => ?_, by cases d <;> simp [Act.put, hr.size], ?_, fun b hb => Nat.lt_of_lt_of_le (hr.dm b hb) he.le⟩
  · rw [hlk] at hy
    cases d with
    | none =>
      rw [if_neg (by simp)] at hy
      obtain ⟨u, h1, h2⟩ := hr.env t y hy
      exact ⟨u, h1, h2.mono he⟩
    | some u =>
      simp only [Act.put]
      rw [Array.getElem?_setIfInBounds]
      by_cases e : u = t
      · subst e
        rw [if_pos rfl] at hy
        have := hd u rfl
        exact ⟨v, by rw [if_pos rfl, if_pos (by rw [hr.size]; exact this)], hv y hy⟩
      · rw [if_neg (by simpa using e)] at hy
        obtain ⟨v', h1, h2⟩ := hr.env t y hy
        exact ⟨v', by rw [if_neg e]; exact h1, h2.mono he⟩
  · rw [marks_ext he hr.dm, ← hr.defers]; cases d <;> rfl

/-- A step that has been looked at comes up. -/
theorem exec_old {w0 : World} {K : Wd} {T1 T0 : List Ent} {en : Ent} {suf : List DStep} {pd : Pend} {st : ASt} {a : Act} (hL : LaidD P own N ops ms L) (hC : Closed ops S) (hi : DInv L b S (T1 ++ en :: T0) suf pd st)
    (hr : StRD w0 N K S b (T1 ++ en :: T0) st.heap st.nx st.dm a) (hn : S en.d.i = false) (hrdy : ∀ o, ops[en.d.i]? = some o → ∀ e ∈ o.after, Region.binds .any e = true → S e.on = true) {S' : Nat → Bool} (hS' : ∀ j, S' j = (S j || j == en.d.i))
    {Kont : Act → World → Prop} {Qx : Exit → Act → World → Prop} (hk : ∀ K' a', Ext K st.nx K' st.nx → StRD w0 N K' S' b (T1 ++ en :: T0) st.heap st.nx st.dm a' → Kont a' K'.w) :
    wpOpIn { Fence.wide with round := ro } 0 P ops Qx en.d.i Kont a K.w := by
  obtain ⟨o, ho, h2, h3, h4, h5⟩ := hL.step en.d (hi.mem (List.mem_append_right _ List.mem_cons_self))
  obtain ⟨hb0, hb1⟩ := hi.around hL
  obtain ⟨henv, bb, hg, hob⟩ := hi.obl T1 en T0 rfl hn
  have hbef : ∀ j, before ms en.d.i j = true → S j = true := Closed.before hL.masked hC en.d.i o ho (hrdy o ho)
  have hbef1 : ∀ f ∈ T1, before ms f.d.i en.d.i = true → S f.d.i = false := by
    intro f hf hb
    cases hSf : S f.d.i with
    | false => rfl
    | true =>
      obtain ⟨of, hof, _⟩ := hL.step f.d (hi.mem (List.mem_append_left _ hf))
      have := Closed.before hL.masked hC f.d.i of hof (hC f.d.i of hof hSf) en.d.i hb
      rw [hn] at this; cases this
  -- what it reads is as it was
  have hread : ∀ t, en.d.s.looks t = true → lk S b (T1 ++ en :: T0) t = eget en.env t := by
    intro t ht
    rw [henv t]
    rw [lk_skip (T1 := T1) fun f hf hd => hbef1 f hf ((hb1 f hf).2 (dep_read hd ht))]
    simp only [lk, hn, Bool.false_eq_true, false_and, if_false]
    refine lk_congr fun f hf hd => ?_
    exact hbef f.d.i ((hb0 f hf).2 (dep_write hd (.inl ht)))
  obtain ⟨env', henv'⟩ : ∃ env' : Env, env' = erestr (fun t => en.d.s.looks t) en.env := ⟨_, rfl⟩
  have hagree : ∀ t, en.d.s.looks t = true → eget env' t = eget en.env t := fun t ht => by rw [henv', eget_erestr, if_pos ht]
  have hER : EnvR K st.nx env' a.tmps := by
    intro t x hx
    rw [henv', eget_erestr] at hx
    split at hx
    · rename_i ht
      exact hr.env t x (by rw [hread t ht]; exact hx)
    · cases hx
  have hg' : guardOk env' en.d.s.guard = some bb := by rw [guardOk_congr hagree]; exact hg
  have hw := wanted_of hER h2 hg'
  have hlk : ∀ t, lk S' b (T1 ++ en :: T0) t = if en.d.s.dst = some t then en.x else lk S b (T1 ++ en :: T0) t := lk_done hS'
    (fun f hf => ⟨(hb1 f hf).1, fun t h6 h7 => hbef1 f hf ((hb1 f hf).2 (dep_write h7 (.inr h6)))⟩) (fun f hf => (hb0 f hf).1) hn
  unfold wpOpIn
  simp only [ho, hw]
  rcases hob with ⟨rfl, hx⟩ | ⟨rfl, ao, y, hact, hx, hev, _⟩
  · simp only [Bool.false_eq_true, if_false]
    refine ⟨fun f _ => trivial, hk K _ (Ext.refl _ _) ?_⟩
    rw [h4]
    exact hr.put (Ext.refl _ _) hr.good h5 (x := some (.tup [])) (fun y hy => by cases hy; exact VR_undef _ _) (by rw [← hx]; exact hlk)
  · simp only [if_true, Oper.wpIn]
    refine ⟨fun f _ => trivial, ?_⟩
    rw [hact] at h3
    obtain ⟨hsnd, hnd⟩ := op_sound (act_op h3)
    have hev' : opEv ao env' st.heap st.nx = some (.val y, st.heap, st.nx) := by
      rw [← hev]
      exact opEv_congr fun o' ho' => opnds_congr hagree o' (by rw [hact]; exact ho')
    obtain ⟨K', rr, hrun, hext, hgood, hout⟩ := hsnd w0 K st.heap st.nx env' a _ _ _ hr.good hER hev'
    rw [Oper.semAt_eq _ _ _ hnd, hrun]
    cases rr <;> simp only [outR] at hout <;> first | exact hout.elim | skip
    rename_i v
    simp only [Oper.uponIn, h4]
    exact hk K' _ hext (hr.put hext hgood h5 (x := some y) (fun z hz => by cases hz; exact hout) (by rw [← hx]; exact hlk))

end
end Go.Ab
