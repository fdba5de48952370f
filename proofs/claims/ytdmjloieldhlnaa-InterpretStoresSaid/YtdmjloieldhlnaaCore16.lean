/- Regions that draw their order: the steps that change something, and the rule. -/
import Derived.Test.YtdmjloieldhlnaaCore15
namespace Go.Ab
open Go.RowKit
set_option linter.unusedVariables false
set_option linter.unusedSimpArgs false

section
variable {P : Program} {own : Nat → Bool} {N : Nat} {ops : Array Oper} {ms : List Nat} {L : List DStep} {b : Nat → Option AV} {S : Nat → Bool} {Q : AX → ASt → Prop} {ro : Option Nat}

theorem Obl.turn {en : Ent} {h h' : Heap} {nx nx' : Nat} {pd : Pend} {late : List Nat} (ho : Obl en h nx pd) (hl : late.contains en.d.i = true) (hp : pendOk h' (pendKeep late pd)) : Obl en h' nx' (pendKeep late pd) := by
  obtain ⟨bb, h1, h2⟩ := ho
  refine ⟨bb, h1, ?_⟩
  rcases h2 with h2 | ⟨h2, ao, y, h3, h4, h5, h6⟩
  · exact .inl h2
  · refine .inr ⟨h2, ao, y, h3, h4, ?_⟩
    rcases h6 with h6 | ⟨sz, ag, o, p, rfl, h7, h8, h9⟩
    · exact ⟨quiet_any h6 h5, .inl h6⟩
    · have hr : reload h' sz ag p = some y := by
        rcases h9 with h9 | h9
        · cases p <;> simp only [AV.isFp] at h9 <;> first | (cases h9; done) | exact h8
        · exact pendOk_mem hp _ _ _ _ _ (pendKeep_mem h9 hl)
      refine ⟨load_reload h7 hr, .inr ⟨sz, ag, o, p, rfl, h7, hr, ?_⟩⟩
      rcases h9 with h9 | h9
      · exact .inl h9
      · exact .inr (pendKeep_mem h9 hl)

/-- The next step that changes something comes up. -/
theorem exec_new {w0 : World} {K : Wd} {T : List Ent} {d : DStep} {r : List DStep} {pd : Pend} {st : ASt} {a : Act} (hL : LaidD P own N ops ms L) (hC : Closed ops S) (hi : DInv L b S T (d :: r) pd st) (ha : AD P Q (d :: r) pd st)
    (hg : guardOk st.env d.s.guard = some true) (hw : d.s.act.isW = true)
    (hr : StRD w0 N K S b T st.heap st.nx st.dm a) (hrdy : ∀ o, ops[d.i]? = some o → ∀ e ∈ o.after, Region.binds .any e = true → S e.on = true) {S' : Nat → Bool} (hS' : ∀ j, S' j = (S j || j == d.i))
    {Kont : Act → World → Prop} {K0 : Wd} {n0 : Nat} (h0 : Ext K0 n0 K st.nx)
    (hk : ∀ K' a' en pd' st', Ext K st.nx K' st'.nx → en.d = d → DInv L b S' (en :: T) r pd' st' → AD P Q r pd' st' → StRD w0 N K' S' b (en :: T) st'.heap st'.nx st'.dm a' → Kont a' K'.w) :
    wpOpIn { Fence.wide with round := ro } 0 P ops (Post w0 N K0 n0 Q) d.i Kont a K.w := by
  have hdL : d ∈ L := by rw [← hi.split]; exact List.mem_append_right _ List.mem_cons_self
  obtain ⟨o, ho, h2, h3, h4, h5⟩ := hL.step d hdL
  obtain ⟨hb0, hb1⟩ := hi.head hL
  have hbef : ∀ j, before ms d.i j = true → S j = true := Closed.before hL.masked hC d.i o ho (hrdy o ho)
  have hSd := hi.sub d List.mem_cons_self
  have hread : ∀ t, d.s.looks t = true → lk S b T t = eget st.env t := by
    intro t ht
    rw [hi.env t]
    exact lk_congr fun f hf hd => hbef f.d.i ((hb0 f hf).2 (dep_write hd (.inl ht)))
  obtain ⟨env', henv'⟩ : ∃ env' : Env, env' = erestr (fun t => d.s.looks t) st.env := ⟨_, rfl⟩
  have hagree : ∀ t, d.s.looks t = true → eget env' t = eget st.env t := fun t ht => by rw [henv', eget_erestr, if_pos ht]
  have hER : EnvR K st.nx env' a.tmps := by
    intro t x hx
    rw [henv', eget_erestr] at hx
    split at hx
    · rename_i ht
      exact hr.env t x (by rw [hread t ht]; exact hx)
    · cases hx
  have hg' : guardOk env' d.s.guard = some true := by rw [guardOk_congr hagree]; exact hg
  have hwt := wanted_of hER h2 hg'
  have hlk : ∀ (x : Option AV) (e : Env) (t : Nat), lk S' b (⟨d, x, e⟩ :: T) t = if d.s.dst = some t then x else lk S b T t := by
    intro x e t
    have h6 : S' d.i = true := by simp [hS']
    simp only [lk, h6, true_and]
    split
    · rfl
    · exact lk_congr fun f hf _ => by rw [hS']; have := (hb0 f hf).1; simp [this]
  have hinv : ∀ (x : Option AV) (y : AV) (hxy : x = some y) (st' : ASt), st'.env = setE d.s.dst y st.env → pendOk st'.heap (pendKeep d.late pd) →
      DInv L b S' (⟨d, x, st.env⟩ :: T) r (pendKeep d.late pd) st' := by
    intro x y hxy st' he hpo
    refine ⟨by rw [← hi.split]; simp, fun e he => ?_, fun t => ?_, fun T1 en T0 hT hS => ?_⟩
    · rw [hS', hi.sub e (List.mem_cons_of_mem _ he)]
      have := (hb1 e he).1
      simp; exact fun h => this h.symm
    · simp only [lk, true_and]
      rw [← hi.env t, he]
      cases hd : d.s.dst with
      | none => simp [setE]
      | some u => simp [setE, eget_cons, hxy]
    · cases T1 with
      | nil =>
        simp only [List.nil_append, List.cons.injEq] at hT
        obtain ⟨rfl, rfl⟩ := hT
        simp [hS'] at hS
      | cons e T1 =>
        simp only [List.cons_append, List.cons.injEq] at hT
        obtain ⟨rfl, rfl⟩ := hT
        have hS2 : S en.d.i = false := by
          rw [hS'] at hS; simp only [Bool.or_eq_false_iff] at hS; exact hS.1
        obtain ⟨h7, h8⟩ := hi.obl T1 en T0 rfl hS2
        refine ⟨h7, h8.turn ?_ hpo⟩
        refine dep_late ?_ hw
        cases hdep : en.d.dep d with
        | false => rfl
        | true =>
          have := hbef en.d.i ((hb0 en (List.mem_append_right _ List.mem_cons_self)).2 hdep)
          rw [hS2] at this; cases this
  unfold wpOpIn
  simp only [ho, hwt, if_true, Oper.wpIn]
  refine ⟨fun f _ => trivial, ?_⟩
  unfold AD at ha
  simp only [hg] at ha
  cases hact : d.s.act with
  | op ao =>
    rw [hact] at h3
    simp only [hact] at ha
    have hq : ¬ ao.quiet = true := by rw [hact] at hw; simp only [AAct.isW, Bool.and_eq_true, Bool.not_eq_true'] at hw; simp [hw.1]
    rw [if_neg hq] at ha
    obtain ⟨hsnd, hnd⟩ := op_sound (act_op h3)
    have hev' : ∀ hp n, opEv ao env' hp n = opEv ao st.env hp n := fun hp n => opEv_congr fun o' ho' => opnds_congr hagree o' (by rw [hact]; exact ho')
    have ha' : (match opEv ao st.env st.heap st.nx with
            | some (.val x, h', n') => pendOk h' (pendKeep d.late pd) ∧ AD P Q r (pendKeep d.late pd) { st with env := setE d.s.dst x st.env, heap := h', nx := n' }
            | some (.skip, h', n') => pendOk h' (pendKeep d.late pd) ∧ AD P Q r (pendKeep d.late pd) { st with env := dropE d.s.dst st.env, heap := h', nx := n' }
            | none => False) := by
      rw [hact] at hw
      simp only [AAct.isW, Bool.and_eq_true, Bool.not_eq_true'] at hw
      cases ao <;> first | exact ha | (simp [AOp.isLoad] at hw; done)
    split at ha'
    · rename_i x h' n' hev
      obtain ⟨K', rr, hrun, hext, hgood, hout⟩ := hsnd w0 K st.heap st.nx env' a _ _ _ hr.good hER (by rw [hev']; exact hev)
      rw [Oper.semAt_eq _ _ _ hnd, hrun]
      cases rr <;> simp only [outR] at hout <;> first | exact hout.elim | skip
      rename_i v
      simp only [Oper.uponIn, h4]
      exact hk K' _ ⟨d, some x, st.env⟩ _ _ hext rfl (hinv (some x) x rfl { st with env := setE d.s.dst x st.env, heap := h', nx := n' } rfl ha'.1) ha'.2 (hr.put hext hgood h5 (x := some x) (fun z hz => by cases hz; exact hout) (hlk _ _))
    · rename_i h' n' hev
      obtain ⟨K', rr, hrun, hext, hgood, hout⟩ := hsnd w0 K st.heap st.nx env' a _ _ _ hr.good hER (by rw [hev']; exact hev)
      rw [Oper.semAt_eq _ _ _ hnd, hrun]
      cases rr <;> simp only [outR] at hout <;> first | exact hout.elim | skip
      simp only [Oper.uponIn, h4]
      exact hk K' _ ⟨d, some (.tup []), st.env⟩ _ _ hext rfl (hinv (some (.tup [])) (.tup []) rfl { st with env := dropE d.s.dst st.env, heap := h', nx := n' } rfl ha'.1) ha'.2 (hr.put hext hgood h5 (x := some (.tup [])) (fun z hz => by cases hz; exact VR_undef _ _) (hlk _ _))
    · exact ha'.elim
  | call fo args =>
    simp only [hact] at ha
    split at ha
    case h_2 => exact ha.elim
    rename_i f caps xs hf hx
    have hcong := opnds_congr hagree
    rw [hact] at hcong h3
    have hf' : oev env' fo = some (.fn (.func f) caps) := by rw [hcong fo (by simp [AAct.opnds])]; exact hf
    have hx' : oevs env' args = some xs := by rw [← hx]; exact oevs_congr fun o' ho' => hcong o' (by simp [AAct.opnds, ho'])
    have hop : ∃ c : Call, o.op = .call c ∧ c.callee = .value fo ∧ c.args.toList = args := by
      unfold compileAct at h3
      split at h3
      · cases h3
      · split at h3
        · rename_i c hcq
          split at h3
          · rename_i f' hf'; cases h3; exact ⟨c, hcq, hf', rfl⟩
          · cases h3
        · cases h3
    obtain ⟨c, hop, hcal, hargs⟩ := hop
    have hnd : ∀ c, o.op ≠ .defer c := by intro c; rw [hop]; simp
    have hfv := oev_sound hER hf'
    generalize hcf : a.eval fo = cf at hfv
    cases hfv with
    | fn _ _ cv hcs hcr =>
    obtain ⟨hl, hrel⟩ := oevs_sound hER args xs hx'
    have hres : (execOp a.eval o).run P K.w = .ok (.enter f (c.args.map a.eval ++ cv)) K.w := by
      simp only [execOp, hop, Sem.run_bind, resolve, hcal, hcf, Deferred.ofValue, Sem.run_pure, Result.andThen_ok, invoke]
      have he : (#[] : Array Value) ++ c.args.map a.eval = c.args.map a.eval := by simp
      rw [he]
      exact ha.1 _ _
    have harg : ArgR K st.nx (xs ++ caps) (c.args.map a.eval ++ cv) := by
      have hsz : (c.args.map a.eval).size = xs.length := by rw [Array.size_map, hl, ← hargs]; simp
      refine ⟨by simp only [Array.size_append, List.length_append, hsz, hcs], fun j x v hj hv => ?_⟩
      rw [List.getElem?_append] at hj
      rw [Array.getElem?_append, hsz] at hv
      split at hj
      · rename_i hlt
        rw [if_pos hlt] at hv
        refine hrel j x v hj ?_
        rw [← hargs]
        simpa using hv
      · rename_i hlt
        rw [if_neg hlt] at hv
        exact hcr _ x v hj hv
    rw [Oper.semAt_eq _ _ _ hnd, hres]
    simp only [Oper.uponIn]
    refine ⟨fun hh => by simp [Fence.wide] at hh, ?_⟩
    have hcalls := ha.2 w0 K _ hr.good harg
    have hcin : CallsIn Fence.wide (0 - 1) P f (c.args.map a.eval ++ cv) K.w _ := callsIn_wide.2 hcalls
    have hcin2 : CallsIn { Fence.wide with round := ro } (0 - 1) P f (c.args.map a.eval ++ cv) K.w _ := hcin
    refine hcin2.mono ?_
    rintro e w' ⟨K', h', nx', y, rfl, hext, hgood, her, hpo, hq⟩
    cases y with
    | ret x =>
      cases e <;> simp only [AER] at her <;> first | exact her.elim | skip
      rename_i v
      simp only [h4]
      exact hk K' _ ⟨d, some x, st.env⟩ _ _ hext rfl (hinv (some x) x rfl { st with env := setE d.s.dst x st.env, heap := h', nx := nx' } rfl hpo) hq (hr.put hext hgood h5 (x := some x) (fun z hz => by cases hz; exact her) (hlk _ _))
    | panic x =>
      cases e <;> simp only [AER] at her <;> first | exact her.elim | skip
      rename_i ch
      refine ⟨K', { env := [], heap := h', nx := nx', dm := st.dm }, .panic x, rfl, h0.trans hext, ⟨hgood, fun t x hx => by simp [eget] at hx, hr.size, ?_, fun b hb => Nat.lt_of_lt_of_le (hr.dm b hb) hext.le⟩, her, hq⟩
      rw [marks_ext hext hr.dm]; exact hr.defers

def listedB (l : Array Bool) (j : Nat) : Bool := l.getD j false
theorem listedB_set {l : Array Bool} {i : Nat} (h : i < l.size) (j : Nat) : listedB (l.setIfInBounds i true) j = (listedB l j || j == i) := by
  unfold listedB
  simp only [Array.getD_eq_getD_getElem?, Array.getElem?_setIfInBounds]
  by_cases e : i = j
  · subst e; simp [h]
  · simp [e, Ne.symm e]

theorem ready_nil {md : Region.Mode} {l : Array Bool} (hsz : l.size = ops.size) (hlow : ∀ i o, ops[i]? = some o → ∀ e ∈ o.after, Region.binds md e = true → e.on < i) (h : Region.ready md ops l = []) : ∀ i, i < ops.size → listedB l i = true := by
  intro i
  induction i using Nat.strongRecOn with
  | _ i ih =>
    intro hi
    cases hl : listedB l i with
    | true => rfl
    | false =>
      have : i ∈ Region.ready md ops l := by
        rw [mem_ready]
        unfold listedB at hl
        refine ⟨?_, ops[i], Array.getElem?_eq_getElem hi, fun e he hb => ?_⟩
        · have h1 : i < l.size := by omega
          simp [Array.getD_eq_getD_getElem?, h1] at hl ⊢
          exact hl
        · have := hlow i ops[i] (Array.getElem?_eq_getElem hi) e he hb
          exact ih e.on this (by omega)
      rw [h] at this; cases this

theorem dmain {w0 : World} (hL : LaidD P own N ops ms L) {K0 : Wd} {n0 : Nat} : ∀ (fuel : Nat) (l : Array Bool) (T : List Ent) (suf : List DStep) (pd : Pend) (st : ASt) (K : Wd) (a : Act), l.size = ops.size → l.toList.count false ≤ fuel →
    Closed ops (listedB l) → DInv L b (listedB l) T suf pd st → AD P Q suf pd st → (suf = [] ∨ ∃ d r, suf = d :: r ∧ guardOk st.env d.s.guard = some true ∧ d.s.act.isW = true) → StRD w0 N K (listedB l) b T st.heap st.nx st.dm a → Ext K0 n0 K st.nx →
    wpAnyIn { Fence.wide with round := ro } 0 P .any ops (Post w0 N K0 n0 Q) fuel l a K.w := by
  have hlow : ∀ i o, ops[i]? = some o → ∀ e ∈ o.after, Region.binds .any e = true → e.on < i := fun i o ho => (before_spec hL.masked ho).1
  -- all is done
  have done : ∀ (l : Array Bool) (T : List Ent) (suf : List DStep) (pd : Pend) (st : ASt) (K : Wd) (a : Act), (∀ i, i < ops.size → listedB l i = true) → DInv L b (listedB l) T suf pd st → AD P Q suf pd st →
      StRD w0 N K (listedB l) b T st.heap st.nx st.dm a → Ext K0 n0 K st.nx → Post w0 N K0 n0 Q .normal a K.w := by
    intro l T suf pd st K a hall hi ha hr h0
    cases suf with
    | cons d r =>
      have hdL : d ∈ L := by rw [← hi.split]; exact List.mem_append_right _ List.mem_cons_self
      obtain ⟨o, ho, _⟩ := hL.step d hdL
      have := hall d.i (Array.getElem?_eq_some_iff.1 ho).1
      rw [hi.sub d List.mem_cons_self] at this; cases this
    | nil =>
      refine ⟨K, st, .normal, rfl, h0, ⟨hr.good, fun t x hx => ?_, hr.size, hr.defers, hr.dm⟩, trivial, ha⟩
      refine hr.env t x ?_
      rw [← hx, hi.env t]
      refine lk_congr fun en hen _ => ?_
      obtain ⟨o, ho, _⟩ := hL.step en.d (hi.mem hen)
      exact hall en.d.i (Array.getElem?_eq_some_iff.1 ho).1
  intro fuel
  induction fuel with
  | zero =>
    intro l T suf pd st K a hsz hcnt hC hi ha hs hr h0
    have hall : ∀ i, i < ops.size → listedB l i = true := by
      intro i hi
      have h1 : i < l.size := by omega
      have hz : l.toList.count false = 0 := by omega
      rw [List.count_eq_zero] at hz
      cases hl : listedB l i with
      | true => rfl
      | false =>
        exfalso; apply hz
        unfold listedB at hl
        simp [Array.getD_eq_getD_getElem?, h1] at hl
        rw [← hl]; simp
    refine ⟨?_, done l T suf pd st K a hall hi ha hr h0⟩
    cases hrd : Region.ready .any ops l with
    | nil => rfl
    | cons i r =>
      have hm : i ∈ Region.ready .any ops l := by rw [hrd]; exact List.mem_cons_self
      obtain ⟨h1, o, ho, _⟩ := mem_ready.1 hm
      have h2 := hall i (Array.getElem?_eq_some_iff.1 ho).1
      have h3 : i < l.size := by rw [hsz]; exact (Array.getElem?_eq_some_iff.1 ho).1
      unfold listedB at h2
      simp [Array.getD_eq_getD_getElem?, h3] at h1 h2
      rw [h1] at h2; cases h2
  | succ fuel ih =>
    intro l T suf pd st K a hsz hcnt hC hi ha hs hr h0
    refine ⟨fun hnil => done l T suf pd st K a (ready_nil hsz hlow hnil) hi ha hr h0, fun i hmem => ?_⟩
    obtain ⟨h1, o, ho, hafter⟩ := mem_ready.1 hmem
    have hlt : i < ops.size := (Array.getElem?_eq_some_iff.1 ho).1
    have hll : i < l.size := by omega
    have hf : listedB l i = false := by
      unfold listedB
      simp [Array.getD_eq_getD_getElem?, hll] at h1 ⊢
      exact h1
    have hrdy : ∀ o, ops[i]? = some o → ∀ e ∈ o.after, Region.binds .any e = true → listedB l e.on = true := fun o' ho' e he hb => by
      rw [ho] at ho'; injection ho' with ho'; subst ho'; exact hafter e he hb
    have hset := listedB_set hll
    have hsz' : (l.setIfInBounds i true).size = ops.size := by simp [hsz]
    have hcnt' : (l.setIfInBounds i true).toList.count false ≤ fuel := by
      have hx : l.toList[i]'(by simpa using hll) = false := by
        unfold listedB at hf
        simp [Array.getD_eq_getD_getElem?, hll] at hf
        simpa using hf
      have hpos : 0 < l.toList.count false := List.count_pos_iff.2 (hx ▸ List.getElem_mem _)
      rw [Array.toList_setIfInBounds, List.count_set (by simpa using hll), hx]
      simp only [beq_self_eq_true, if_true]
      have : (true == false) = false := rfl
      simp only [this, Bool.false_eq_true, if_false]
      omega
    have hC' : Closed ops (listedB (l.setIfInBounds i true)) := by
      intro j oj hj hSj e he hb
      rw [hset] at hSj ⊢
      simp only [Bool.or_eq_true, beq_iff_eq] at hSj ⊢
      rcases hSj with hSj | rfl
      · exact .inl (hC j oj hj hSj e he hb)
      · exact .inl (hrdy oj hj e he hb)
    obtain ⟨d, hdL, hdi⟩ := hL.all i hlt
    subst hdi
    rw [← hi.split] at hdL
    rcases List.mem_append.1 hdL with hdL | hdL
    · obtain ⟨en, hen, rfl⟩ := List.mem_map.1 (List.mem_reverse.1 hdL)
      obtain ⟨T1, T0, rfl⟩ := List.append_of_mem hen
      refine exec_old hL hC hi hr hf hrdy hset ?_
      intro K' a' hext hr'
      refine ih _ (T1 ++ en :: T0) suf pd st K' a' hsz' hcnt' hC' ⟨hi.split, fun d hd => ?_, hi.env, fun T1' en' T0' hT hS => ?_⟩ ha hs hr' (h0.trans hext)
      · rw [hset, hi.sub d hd]
        have hp := List.pairwise_append.1 (hi.pairs hL)
        have := (hp.2.2 en.d (List.mem_reverse.2 (List.mem_map.2 ⟨en, hen, rfl⟩)) d hd).1
        simp; exact fun h => this h.symm
      · refine hi.obl T1' en' T0' hT ?_
        rw [hset] at hS; simp only [Bool.or_eq_false_iff] at hS; exact hS.1
    · rcases hs with rfl | ⟨d1, r, rfl, hg, hw⟩
      · cases hdL
      · rcases List.mem_cons.1 hdL with rfl | hdL
        · refine exec_new hL hC hi ha hg hw hr hrdy hset h0 ?_
          intro K' a' en pd' st' hext _ hi' ha' hr'
          obtain ⟨T1, suf', pd2, st2, h3, h4, h5, h6, h7, h8, h9⟩ := advance r _ pd' st' hi' ha'
          refine ih _ _ suf' pd2 st2 K' a' hsz' hcnt' hC' h3 h4 h5 ?_ (by rw [h7]; exact h0.trans hext)
          refine ⟨by rw [h6, h7]; exact hr'.good, fun t x hx => ?_, hr'.size, by rw [h8]; exact hr'.defers, by rw [h7, h8]; exact hr'.dm⟩
          rw [lk_skip fun e he _ => h9 e he] at hx
          rw [h7]; exact hr'.env t x hx
        · -- it must wait for the one before it
          exfalso
          have hb := ((hi.head hL).2 d hdL).2 (dep_w hw)
          have := Closed.before hL.masked hC d.i o ho (hrdy o ho) d1.i hb
          rw [hi.sub d1 List.mem_cons_self] at this; cases this
end

theorem inv_dregion {P : Program} {own : Nat → Nat → Bool} {N : Nat} {c : Code} {L : List DStep} (h : compile P own N c = some (.dregion L)) : ∃ id os, c = .region id os true ∧ compileD P (own id) N os = some L := by
  unfold compile at h
  split at h <;> first | (cases h; done) | (split at h <;> cases h; done) | skip
  · simp at h
  · rename_i id os
    obtain ⟨x, hx, he⟩ := Option.map_eq_some_iff.1 h
    cases he
    exact ⟨id, os, rfl, hx⟩
  all_goals simp at h

/-- **The rule of a region that draws its order.** -/
theorem AW_dregion {P : Program} {own : Nat → Nat → Bool} {ro : Option Nat} {N : Nat} {Q : AX → ASt → Prop} {st : ASt} {L : List DStep} (hm : P.follows .mixedOrders = true) (h : AD P Q L [] st) : AW P own ro N (.dregion L) Q st := by
  intro c hc w0 K a hs
  obtain ⟨id, os, rfl, h1⟩ := inv_dregion hc
  obtain ⟨ms, hL⟩ := compileD_spec h1
  refine wpIn_region_any hm ?_
  have hnone : ∀ j, listedB (Array.replicate os.size false) j = false := by
    intro j; unfold listedB
    simp only [Array.getD_eq_getD_getElem?, Array.getElem?_replicate]
    split <;> rfl
  have hi : DInv L (eget st.env) (listedB (Array.replicate os.size false)) [] L [] st := ⟨by simp, fun d _ => hnone _, fun t => rfl, fun T1 en T0 hT => by simp at hT⟩
  obtain ⟨T1, suf, pd, st', h3, h4, h5, h6, h7, h8, h9⟩ := advance L [] [] st hi h
  have hext : Ext K st.nx { K with w := { K.w with drawn := K.w.drawn + 1 } } st.nx := Ext.of_heap rfl
  have hgood : Good w0 { K with w := { K.w with drawn := K.w.drawn + 1 } } st.heap st.nx := hs.good.drew _
  refine dmain hL (K0 := K) (n0 := st.nx) os.size _ _ suf pd st' { K with w := { K.w with drawn := K.w.drawn + 1 } } a (by simp) ?_ ?_ h3 h4 h5 ?_ (by rw [h7]; exact hext)
  · simp [List.count_replicate]
  · intro i o ho hS; rw [hnone] at hS; cases hS
  · refine ⟨by rw [h6, h7]; exact hgood, fun t x hx => ?_, hs.size, by rw [h8, hs.defers]; rfl, by rw [h7, h8]; exact hs.dm⟩
    rw [lk_skip fun e he _ => h9 e he] at hx
    obtain ⟨v, h10, h11⟩ := hs.env t x hx
    exact ⟨v, h10, by rw [h7]; exact h11.mono hext⟩

end Go.Ab
