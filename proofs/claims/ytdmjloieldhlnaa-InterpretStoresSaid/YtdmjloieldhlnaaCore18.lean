/- Contracts: the frame, less that is told, results that are frozen, and contracts of functions that only compute. -/
import Derived.Test.YtdmjloieldhlnaaCore17
namespace Go.Ab
open Go.RowKit
set_option linter.unusedVariables false
set_option linter.unusedSimpArgs false

theorem hget_append (h' h : Heap) (b : Nat) : hget (h' ++ h) b = (hget h' b).or (hget h b) := by
  induction h' with
  | nil => simp [hget]
  | cons p r ih =>
    obtain ⟨i, o⟩ := p
    simp only [List.cons_append, hget_cons, ih]
    split <;> simp

section
variable {P : Program} {f : FuncId} {xs : List AV} {h : Heap} {nx : Nat} {Q : AE → Heap → Nat → Prop}

theorem Good.reroot {w0 : World} {K : Wd} (g : Good w0 K h nx) : Good K.w { K with lo := K.w.heap.size } [] nx :=
  ⟨fun b o hb => by simp [hget] at hb, fun b b' o o' hb => by simp [hget] at hb, Below.refl _ _, g.zin, rfl⟩

theorem VR.lo {K : Wd} {n : Nat} {x : AV} {v : Value} (l : Nat) (h : VR K n x v) : VR { K with lo := l } n x v := by
  induction h with
  | int k n => exact .int k n
  | bool b => exact .bool b
  | str l s h => exact .str l s h
  | agg cs c hs h1 h ih => exact .agg cs c hs h1 ih
  | tup cs c hs h ih => exact .tup cs c hs ih
  | lst0 sz es A n cap h0 hn hA => exact .lst0 sz es A n cap h0 hn hA
  | lst sz es a n cap c hn hc hcap hsz h1 hr h ih => exact .lst sz es a n cap c hn hc hcap hsz h1 hr ih
  | fp cs a c h1 hr h ih => exact .fp cs a c h1 hr ih
  | op b off hb a ha => exact .op b off hb a ha
  | os b off e sz len a n cap hn hb hc hcap hA hroom => exact .os b off e sz len a n cap hn hb hc hcap hA hroom
  | nilS => exact .nilS
  | emp A => exact .emp A
  | nilP => exact .nilP
  | nilI => exact .nilI
  | nilF => exact .nilF
  | nilM => exact .nilM
  | mp b hb r hr => exact .mp b hb r hr
  | fn f caps c hs h ih => exact .fn f caps c hs ih
  | ifc t x v h ih => exact .ifc t x v ih
  | ne0 a cap => exact .ne0 a cap
  | yl b hb l hl => exact .yl b hb l hl
  | any v h => exact .any v h
  | oc b off e sz len cap a hb hc hcap hA hroom => exact .oc b off e sz len cap a hb hc hcap hA hroom
theorem OR.lo {K : Wd} {n : Nat} {o : AO} {ob : Obj} (l : Nat) (h : OR K n o ob) : OR { K with lo := l } n o ob := by
  cases h with
  | cells cs c e hs h1 h => exact .cells cs c e hs h1 fun i x v hx hv => (h i x v hx hv).lo l
  | map es en clock hs h hb => exact .map es en clock hs (fun i x y hx hy => ⟨(h i x y hx hy).1.lo l, (h i x y hx hy).2.1.lo l, (h i x y hx hy).2.2⟩) hb
  | sit s l' hl pos => exact .sit s l' hl pos
  | dfd => exact .dfd
  | loop busy fn N env ps as bd dm hd tmps hs D hD h => exact .loop busy fn N env ps as bd dm hd tmps hs D hD fun t x hx => let ⟨v, h1, h2⟩ := h t x hx; ⟨v, h1, h2.lo l⟩
theorem Ext.lo' {K K' : Wd} {n n' : Nat} (l : Nat) (h : Ext { K with lo := l } n K' n') (hz : ∀ b o, K'.Z b o → K.Z b o ∨ K.lo ≤ b) : Ext K n { K' with lo := K.lo } n' :=
  ⟨h.le, h.m, h.Z, h.ice, h.size, rfl, hz⟩

/-- **The frame**: what a call does from a state of no blocks of its own it does from any, and leaves the caller's blocks alone. -/
theorem AC.frame (hc : AC P f xs [] nx Q) (h : Heap) : AC P f xs h nx fun y h'' n' => ∃ h', h'' = h' ++ h ∧ nx ≤ n' ∧ (∀ c o, hget h c = some o → hget h' c = none) ∧ Q y h' n' := by
  refine ⟨hc.1, fun w0 K args hg ha => ?_⟩
  refine (hc.2 K.w { K with lo := K.w.heap.size } args hg.reroot ⟨ha.1, fun i x v hx hv => (ha.2 i x v hx hv).lo _⟩).mono ?_
  rintro e w' ⟨K', h', nx', y, rfl, hext, hgood, her, hq⟩
  have hle : w0.heap.size ≤ K.w.heap.size := hg.below.size
  have hK : K.lo = w0.heap.size := hg.lo
  have hZ : ∀ b o, K'.Z b o → K.Z b o ∨ K.lo ≤ b := fun b o hz => (hext.Zn b o hz).imp id fun (e : K.w.heap.size ≤ b) => by omega
  have hext' : Ext K nx { K' with lo := K.lo } nx' := hext.lo' _ hZ
  refine ⟨{ K' with lo := K.lo }, h' ++ h, nx', y, rfl, hext', ?_, ?_, h', rfl, hext.le, ?_, hq⟩
  · -- the callee's blocks lie above, the caller's below
    have hi : ∀ b o, hget h' b = some o → K.w.heap.size ≤ K'.m b := fun b o hb => (hgood.live b o hb).2.1
    have lo : ∀ b o, hget h b = some o → K'.m b < K.w.heap.size := fun b o hb => by
      obtain ⟨h1, h2, h3, ob, h4, h5⟩ := hg.live b o hb
      rw [hext.m b h1]; exact lt_of_row h4
    have key : ∀ b o, hget (h' ++ h) b = some o → hget h' b = some o ∨ hget h b = some o := by
      intro b o hb
      rw [hget_append] at hb
      cases hq : hget h' b with
      | none => rw [hq] at hb; exact .inr (by simpa using hb)
      | some o' => rw [hq] at hb; exact .inl (by simpa using hb)
    refine ⟨fun b o hb => ?_, fun b b' o o' hb hb' e => ?_, ?_, hgood.zin, hK⟩
    · rcases key b o hb with hb | hb
      · obtain ⟨h1, h2, h3, ob, h4, h5⟩ := hgood.live b o hb
        exact ⟨h1, Nat.le_trans hle h2, h3, ob, h4, h5.lo _⟩
      · obtain ⟨h1, h2, h3, ob, h4, h5⟩ := hg.live b o hb
        have hm : K'.m b = K.m b := hext.m b h1
        have hlt := lt_of_row h4
        refine ⟨Nat.lt_of_lt_of_le h1 hext.le, by simp only [hm]; exact h2, fun off hz => ?_, ob, ?_, h5.mono hext'⟩
        · simp only [hm] at hz
          rcases hext.Zn _ _ hz with hz | hz
          · exact h3 off hz
          · have hz' : K.w.heap.size ≤ K.m b := hz
            omega
        · simp only [hm]
          rw [hgood.below.block _ hlt]; exact h4
    · rcases key b o hb with hb | hb <;> rcases key b' o' hb' with hb' | hb'
      · exact hgood.inj b b' o o' hb hb' e
      · have := hi b o hb; have := lo b' o' hb'; simp only at e; omega
      · have := hi b' o' hb'; have := lo b o hb; simp only at e; omega
      · have e1 : K'.m b = K.m b := hext.m b (hg.live b o hb).1
        have e2 : K'.m b' = K.m b' := hext.m b' (hg.live b' o' hb').1
        simp only [e1, e2] at e
        exact hg.inj b b' o o' hb hb' e
    · exact hg.below.trans (hgood.below.mono hle)
  · cases y <;> cases e <;> simp only [AER] at her ⊢ <;> first | exact her.lo _ | (obtain ⟨v, h1, h2⟩ := her; exact ⟨v, h1, h2.lo _⟩)
  · intro c o hc
    cases hq2 : hget h' c with
    | none => rfl
    | some o' =>
      obtain ⟨h1, h2, h3, ob, h4, h5⟩ := hg.live c o hc
      have h6 := (hgood.live c o' hq2).2.1
      have e1 : K'.m c = K.m c := hext.m c h1
      rw [e1] at h6
      have h7 := lt_of_row h4
      exact absurd h7 (Nat.not_lt.2 h6)

/-- Less is told of the blocks. -/
theorem AC.sub {Q1 : AE → Heap → Nat → Prop} (hc : AC P f xs h nx Q1) (hq : ∀ y h' n', nx ≤ n' → Q1 y h' n' → ∃ h'', (∀ b o, hget h'' b = some o → hget h' b = some o) ∧ Q y h'' n') : AC P f xs h nx Q := by
  refine ⟨hc.1, fun w0 K args hg ha => (hc.2 w0 K args hg ha).mono ?_⟩
  rintro e w' ⟨K', h', nx', y, rfl, hext, hgood, her, hq1⟩
  obtain ⟨h'', h1, h2⟩ := hq y h' nx' hext.le hq1
  exact ⟨K', h'', nx', y, rfl, hext, hgood.weaken (Nat.le_refl _) h1, her, h2⟩
/-- Less is known of the blocks. -/
theorem AC.pre {h0 : Heap} (hc : AC P f xs h0 nx Q) (hh : ∀ b o, hget h0 b = some o → hget h b = some o) : AC P f xs h nx Q :=
  ⟨hc.1, fun w0 K args hg ha => hc.2 w0 K args (hg.weaken (Nat.le_refl _) hh) ha⟩
/-- The numbers in use are below the next. -/
theorem AC.live (h1 : ∀ args w, (callFunc f args).run P w = .ok (.enter f args) w) (hc : (∀ b o, hget h b = some o → b < nx) → AC P f xs h nx Q) : AC P f xs h nx Q :=
  ⟨h1, fun w0 K args hg ha => (hc fun b o hb => (hg.live b o hb).1).2 w0 K args hg ha⟩

/-- It computes this from these, and nothing else. -/
def Pure (P : Program) (f : FuncId) (xs : List AV) (r : AV) : Prop := ∀ h nx, AC P f xs h nx fun y h' n' => y = .ret r ∧ h' = h ∧ nx ≤ n'
theorem Pure.of {r : AV} (hc : ∀ nx, AC P f xs [] nx fun y _ _ => y = .ret r) : Pure P f xs r := fun h nx =>
  (((hc nx).sub (Q := fun y h' n' => y = .ret r ∧ h' = []) fun y h' n' hle hy => ⟨[], fun b o hb => by simp [hget] at hb, hy, rfl⟩).frame h).sub
    fun y h' n' hle ⟨h1, e, _, _, hy, e1⟩ => ⟨h', fun b o hb => hb, hy, by rw [e, e1]; rfl, hle⟩
/-- The same, of a contract that says more of the result than a value. -/
theorem AC.pure {R : AV → Prop} (hc : AC P f xs [] nx fun y _ _ => ∃ r, y = .ret r ∧ R r) (h : Heap) : AC P f xs h nx fun y h' n' => (∃ r, y = .ret r ∧ R r) ∧ h' = h ∧ nx ≤ n' :=
  ((hc.sub (Q := fun y h' n' => (∃ r, y = .ret r ∧ R r) ∧ h' = []) fun y h' n' hle hy => ⟨[], fun b o hb => by simp [hget] at hb, hy, rfl⟩).frame h).sub
    fun y h' n' hle ⟨h1, e, _, _, hy, e1⟩ => ⟨h', fun b o hb => hb, hy, by rw [e, e1]; rfl, hle⟩
end

/-! ### What is frozen -/
theorem flat_at {sz : Nat} : ∀ {es : List (List AV)}, (∀ e ∈ es, e.length = sz) → ∀ (i : Nat) (e : List AV), es[i]? = some e → ∀ (j : Nat) (x : AV), e[j]? = some x → es.flatten[i * sz + j]? = some x
  | [], _, i, e, h, _, _, _ => by simp at h
  | e0 :: es, hs, i, e, h, j, x, hj => by
    have h0 := hs e0 List.mem_cons_self
    cases i with
    | zero =>
      simp only [List.getElem?_cons_zero, Option.some.injEq] at h; subst h
      have hjl : j < e0.length := (List.getElem?_eq_some_iff.1 hj).1
      simp only [Nat.zero_mul, Nat.zero_add, List.flatten_cons]
      rw [List.getElem?_append, if_pos hjl]; exact hj
    | succ i =>
      simp only [List.getElem?_cons_succ] at h
      have := flat_at (fun e he => hs e (List.mem_cons_of_mem _ he)) i e h j x hj
      simp only [List.flatten_cons]
      rw [List.getElem?_append, if_neg (by rw [h0, Nat.succ_mul]; omega)]
      rw [← this]; congr 1; rw [h0, Nat.succ_mul]; omega

theorem flat_len {sz : Nat} : ∀ {es : List (List AV)}, (∀ e ∈ es, e.length = sz) → es.flatten.length = es.length * sz
  | [], _ => by simp
  | e0 :: es, hs => by
    simp only [List.flatten_cons, List.length_append, List.length_cons, hs e0 List.mem_cons_self, flat_len fun e he => hs e (List.mem_cons_of_mem _ he), Nat.succ_mul]; omega

theorem os_ice {w0 : World} {K : Wd} {h : Heap} {nx b sz : Nat} {e : TypeId} {es : List (List AV)} {v : Value} (g : Good w0 K h nx) (hb : hget h b = some (.cells es.flatten)) (hs : ∀ x ∈ es, x.length = sz) (hv : VR K nx (.os b 0 e sz es.length) v) :
    VR (K.ice1 b) nx (.lst sz es) v := by
  have he := Ext.ice1 g hb
  obtain ⟨h1, h2, h3, ob, h4, h5⟩ := g.live b _ hb
  cases hv with
  | os _ _ _ _ _ a n cap hn hlt hc hcap hA hroom =>
    subst hn
    rcases Nat.eq_zero_or_pos cap with h0 | h0
    · have : es = [] := List.length_eq_zero_iff.1 (by omega)
      exact .lst0 sz es (some a) _ cap this (by rw [this]; rfl) (fun h => by cases h)
    · have ha := hA h0; subst ha
      obtain ⟨c, hrow, hsize⟩ := hroom
      rw [hrow] at h4; injection h4 with h4; subst h4
      cases h5 with
      | cells _ _ _ hcs hc1 hcc =>
        have hfl := flat_len hs
        rw [hfl] at hcs
        refine .lst sz es _ _ cap (fun k => c.getD k undef) rfl hc hcap (fun i x hx => hs x (List.mem_of_getElem? hx)) (fun i x hx j y hy => hc1 _ y (flat_at hs i x hx j y hy)) (fun k hk => ⟨?_, ?_⟩) fun i x hx j y hy => ?_
        · rw [add_eq]
          show K.w.cell? _ = _
          rw [cell_row hrow]
          have : 0 + k < c.size := by omega
          simp [this, Array.getD_eq_getD_getElem?]
          rw [Nat.zero_add] at this
          simp [this]
        · rw [add_eq]; exact .inr rfl
        · have hf := flat_at hs i x hx j y hy
          have hl := (List.getElem?_eq_some_iff.1 hf).1
          have hlc : i * sz + j < c.size := by omega
          refine (hcc _ y _ hf ?_).mono he
          simp [Array.getD_eq_getD_getElem?, hlc]

/-- A value is turned into one that says less of the blocks. -/
def Frz (h : Heap) (x : AV) (h' : Heap) (x' : AV) : Prop := ∀ (w0 : World) (K : Wd) (nx : Nat) (v : Value), Good w0 K h nx → VR K nx x v → ∃ K', K'.w = K.w ∧ Ext K nx K' nx ∧ Good w0 K' h' nx ∧ VR K' nx x' v
theorem Frz.refl (h : Heap) (x : AV) : Frz h x h x := fun w0 K nx v g hv => ⟨K, rfl, Ext.refl _ _, g, hv⟩
theorem Frz.os {h : Heap} {b sz n : Nat} {e : TypeId} {es : List (List AV)} (hb : hget h b = some (.cells es.flatten)) (hs : ∀ x ∈ es, x.length = sz) (hn : n = es.length) : Frz h (.os b 0 e sz n) (hdel h b) (.lst sz es) :=
  fun w0 K nx v g hv => by subst hn; exact ⟨K.ice1 b, rfl, Ext.ice1 g hb, g.ice1 hb, os_ice g hb hs hv⟩
theorem Frz.nilS (h : Heap) (sz : Nat) : Frz h .nilS h (.lst sz []) := fun w0 K nx v g hv => ⟨K, rfl, Ext.refl _ _, g, by cases hv; exact .lst0 _ _ _ _ _ rfl rfl fun _ => rfl⟩
theorem Frz.emp (h : Heap) (sz : Nat) : Frz h .emp h (.lst sz []) := fun w0 K nx v g hv => ⟨K, rfl, Ext.refl _ _, g, by cases hv; exact .lst0 _ _ _ _ _ rfl rfl fun _ => rfl⟩
theorem Frz.head {h h' : Heap} {x x' : AV} {r : List AV} (hf : Frz h x h' x') : Frz h (.tup (x :: r)) h' (.tup (x' :: r)) := fun w0 K nx v g hv => by
  cases hv with
  | tup _ c hs hc =>
    have h0 : 0 < c.size := by simp at hs; omega
    obtain ⟨K', h1, h2, h3, h4⟩ := hf w0 K nx c[0] g (hc 0 x _ rfl (Array.getElem?_eq_getElem h0))
    refine ⟨K', h1, h2, h3, .tup _ c (by simpa using hs) fun i y u hi hu => ?_⟩
    cases i with
    | zero =>
      simp only [List.getElem?_cons_zero, Option.some.injEq] at hi; subst hi
      rw [Array.getElem?_eq_getElem h0] at hu; injection hu with hu; subst hu; exact h4
    | succ i => exact (hc (i + 1) y u (by simpa using hi) hu).mono h2
theorem Frz.tail {h h' : Heap} {x : AV} {r r' : List AV} (hf : Frz h (.tup r) h' (.tup r')) (hl : r.length = r'.length) : Frz h (.tup (x :: r)) h' (.tup (x :: r')) := fun w0 K nx v g hv => by
  cases hv with
  | tup _ c hs hc =>
    have hsz : (c.extract 1 c.size).size = r.length := by simp at hs ⊢; omega
    obtain ⟨K', h1, h2, h3, h4⟩ := hf w0 K nx (.tuple (c.extract 1 c.size)) g (.tup _ _ hsz fun i y u hi hu => by
      refine hc (i + 1) y u (by simpa using hi) ?_
      rw [Array.getElem?_extract] at hu
      split at hu
      · rw [← hu]; congr 1; omega
      · cases hu)
    refine ⟨K', h1, h2, h3, .tup _ c (by simp at hs ⊢; omega) fun i y u hi hu => ?_⟩
    cases i with
    | zero => exact (hc 0 y u (by simpa using hi) hu).mono h2
    | succ i =>
      cases h4 with
      | tup _ _ hs' hc' =>
        refine hc' i y u (by simpa using hi) ?_
        rw [Array.getElem?_extract]
        have := (Array.getElem?_eq_some_iff.1 hu).1
        rw [if_pos (by omega), ← hu]; congr 1; omega

section
variable {P : Program} {f : FuncId} {xs : List AV} {h : Heap} {nx : Nat} {Q : AE → Heap → Nat → Prop}
theorem AC.frz (hc : AC P f xs h nx fun y h' n' => match y with
    | .ret x => ∃ h'' x', Frz h' x h'' x' ∧ Q (.ret x') h'' n'
    | .panic x => Q (.panic x) h' n') : AC P f xs h nx Q := by
  refine ⟨hc.1, fun w0 K args hg ha => (hc.2 w0 K args hg ha).mono ?_⟩
  rintro e w' ⟨K', h', nx', y, rfl, hext, hgood, her, hq⟩
  cases y with
  | ret x =>
    obtain ⟨h'', x', hf, hq⟩ := hq
    cases e <;> simp only [AER] at her <;> first | exact her.elim | skip
    obtain ⟨K2, e1, e2, e3, e4⟩ := hf w0 K' nx' _ hgood her
    exact ⟨K2, h'', nx', .ret x', e1, hext.trans e2, e3, e4, hq⟩
  | panic x => exact ⟨K', h', nx', .panic x, rfl, hext, hgood, her, hq⟩
end

/-- This function's code is this abstract code. -/
def Is (P : Program) (own : Nat → Nat → Bool) (f : FuncId) (N : Nat) (ac : ACode) (rs : List RV) : Prop :=
  ∃ fn, P.funcs[f]? = some fn ∧ fn.ntmps = N ∧ (fn.body.bind fun c => compile P own N c) = some ac ∧ compileRes P fn.results.toList = some rs ∧ ∀ args w, (callFunc f args).run P w = .ok (.enter f args) w
/-- What is to hold at a function's end. -/
def Fin (rs : List RV) (Q : AE → Heap → Nat → Prop) (x : AX) (st : ASt) : Prop :=
  dmOk st.heap st.dm ∧ match x with
      | .normal => ∃ ys, rvsEv st.env (dels st.heap st.dm) rs = some ys ∧ Q (.ret (resV ys)) (dels st.heap st.dm) st.nx
      | .ret => ∃ ys, rvsEv st.env (dels st.heap st.dm) rs = some ys ∧ Q (.ret (resV ys)) (dels st.heap st.dm) st.nx
      | .panic v => Q (.panic v) (dels st.heap st.dm) st.nx
      | .exit _ => False
theorem AC.is {P : Program} {own : Nat → Nat → Bool} {f : FuncId} {N : Nat} {ac : ACode} {rs : List RV} {xs : List AV} {h : Heap} {nx : Nat} {Q : AE → Heap → Nat → Prop} (hi : Is P own f N ac rs) (hl : xs.length ≤ N)
    (hw : AW P own none N ac (Fin rs Q) { env := penv 0 xs, heap := h, nx := nx }) : AC P f xs h nx Q := by
  obtain ⟨fn, h1, h2, h3, h4, h5⟩ := hi
  obtain ⟨c, hb, hc⟩ := Option.bind_eq_some_iff.1 h3
  exact AC_body h1 hb h2 h5 hc h4 hl hw
theorem Fin.ret {rs : List RV} {Q : AE → Heap → Nat → Prop} {st : ASt} {ys : List AV} (hd : st.dm = []) (hy : rvsEv st.env st.heap rs = some ys) (hq : Q (.ret (resV ys)) st.heap st.nx) : Fin rs Q .ret st := by
  unfold Fin
  rw [hd]
  exact ⟨trivial, ys, hy, hq⟩

/-- On the way, a slice of the call's own is frozen. -/
theorem AW.ice {P : Program} {own : Nat → Nat → Bool} {ro : Option Nat} {N : Nat} {Q : AX → ASt → Prop} {st : ASt} {ac : ACode} {t : Tmp} {x x' : AV} {h' : Heap} (ht : eget st.env t = some x) (hf : Frz st.heap x h' x')
    (h : AW P own ro N ac Q { st with env := (t, x') :: st.env, heap := h' }) : AW P own ro N ac Q st := by
  intro c hc w0 K a hs
  obtain ⟨v, h1, h2⟩ := hs.env t x ht
  obtain ⟨K', e1, e2, e3, e4⟩ := hf w0 K st.nx v hs.good h2
  have hs' : StR w0 N K' { st with env := (t, x') :: st.env, heap := h' } a := by
    refine ⟨e3, fun u y hy => ?_, hs.size, by rw [hs.defers]; exact (marks_ext e2 hs.dm).symm, hs.dm⟩
    rw [eget_cons] at hy
    split at hy
    · rename_i e; subst e
      injection hy with hy; subst hy
      exact ⟨v, h1, e4⟩
    · obtain ⟨u', h3, h4⟩ := hs.env u y hy
      exact ⟨u', h3, h4.mono e2⟩
  have := h c hc w0 K' a hs'
  rw [e1] at this
  exact wpIn_mono this fun e a w hp => hp.of_ext e2

end Go.Ab
