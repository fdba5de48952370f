/- Running the steps of a region as far as they can be. -/
import Derived.Test.YtgeieafamocnhaaGreatDoorGC
import Derived.Laws.BitsLemmas
import Derived.Laws.Bits64
import Derived.Laws.BitsAllLaws
import Derived.OpenShut
import Derived.ChangeOld
import Derived.Carry
import Derived.SizedLaws
import Derived.ProofKit
namespace Go.Ab
open Go.RowKit
set_option linter.unusedVariables false
set_option linter.unusedSimpArgs false
def runD : List DStep → Pend → ASt → List DStep × Pend × ASt
  | [], pd, st => ([], pd, st)
  | d :: r, pd, st => match guardOk st.env d.s.guard with
    | none => (d :: r, pd, st)
    | some false => runD r pd { st with env := dropE d.s.dst st.env }
    | some true => match d.s.act with
      | .op ao => if ao.quiet = true then (match opEv ao st.env st.heap st.nx with
          | some (.val x, _, _) => runD r pd { st with env := setE d.s.dst x st.env }
          | _ => (d :: r, pd, st))
        else match ao with
          | .load sz ag o => (match oev st.env o with
            | some p => (match reload st.heap sz ag p with
              | some x => runD r (if p.isFp = true then pd else (d.i, sz, ag, p, x) :: pd) { st with env := setE d.s.dst x st.env }
              | none => (d :: r, pd, st))
            | none => (d :: r, pd, st))
          | _ => (d :: r, pd, st)
      | .call _ _ => (d :: r, pd, st)
      | .callZ _ _ => (d :: r, pd, st)
section
variable {P : Program} {Q : AX → ASt → Prop}
theorem AD_run : ∀ (l : List DStep) (pd : Pend) (st : ASt), AD P Q (runD l pd st).1 (runD l pd st).2.1 (runD l pd st).2.2 → AD P Q l pd st
  | [], pd, st, h => h
  | d :: r, pd, st, h => by
    unfold runD at h
    cases hg : guardOk st.env d.s.guard with
    | none => simp only [hg] at h; exact h
    | some bb =>
      cases bb with
      | false =>
        simp only [hg] at h
        have := AD_run r _ _ h
        unfold AD
        simp only [hg]
        exact this
      | true =>
        simp only [hg] at h
        cases hact : d.s.act with
        | call f xs => simp only [hact] at h; exact h
        | callZ f xs => simp only [hact] at h; exact h
        | op ao =>
          simp only [hact] at h
          by_cases hq : ao.quiet = true
          · rw [if_pos hq] at h
            split at h
            · rename_i x h1 n1 hev
              have := AD_run r _ _ h
              unfold AD
              simp only [hg, hact, hq, if_true, hev]
              exact this
            · exact h
          · rw [if_neg hq] at h
            cases ao <;> simp only at h <;> first | exact h | skip
            rename_i sz ag o
            split at h
            · rename_i p hp
              split at h
              · rename_i x hx
                have := AD_run r _ _ h
                unfold AD
                simp only [hg, hact, hq, if_false, hp, hx]
                simp only [Bool.false_eq_true, if_false]
                exact this
              · exact h
            · exact h
theorem AD_nil {pd : Pend} {st : ASt} (h : Q .normal st) : AD P Q [] pd st := h
theorem AD_val {i : Nat} {dst : Option Tmp} {g : Option (Tmp × Bool)} {ao : AOp} {late : List Nat} {r : List DStep} {pd : Pend} {st : ASt} {x : AV} {h' : Heap} {n' : Nat} (hg : guardOk st.env g = some true) (hw : (AAct.op ao).isW = true)
    (hev : opEv ao st.env st.heap st.nx = some (.val x, h', n')) (hp : pendOk h' (pendKeep late pd)) (h : AD P Q r (pendKeep late pd) { st with env := setE dst x st.env, heap := h', nx := n' }) : AD P Q (⟨i, ⟨dst, g, .op ao⟩, late⟩ :: r) pd st := by
  unfold AD
  simp only [hg]
  simp only [AAct.isW, Bool.and_eq_true, Bool.not_eq_true'] at hw
  simp only [hw.1, Bool.false_eq_true, if_false]
  cases ao <;> first | (simp only [hev]; exact ⟨hp, h⟩) | (simp [AOp.isLoad] at hw; done)
theorem AD_skp {i : Nat} {dst : Option Tmp} {g : Option (Tmp × Bool)} {ao : AOp} {late : List Nat} {r : List DStep} {pd : Pend} {st : ASt} {h' : Heap} {n' : Nat} (hg : guardOk st.env g = some true) (hw : (AAct.op ao).isW = true)
    (hev : opEv ao st.env st.heap st.nx = some (.skip, h', n')) (hp : pendOk h' (pendKeep late pd)) (h : AD P Q r (pendKeep late pd) { st with env := dropE dst st.env, heap := h', nx := n' }) : AD P Q (⟨i, ⟨dst, g, .op ao⟩, late⟩ :: r) pd st := by
  unfold AD
  simp only [hg]
  simp only [AAct.isW, Bool.and_eq_true, Bool.not_eq_true'] at hw
  simp only [hw.1, Bool.false_eq_true, if_false]
  cases ao <;> first | (simp only [hev]; exact ⟨hp, h⟩) | (simp [AOp.isLoad] at hw; done)
theorem AD_call {i : Nat} {dst : Option Tmp} {g : Option (Tmp × Bool)} {fo : Operand} {args : List Operand} {late : List Nat} {r : List DStep} {pd : Pend} {st : ASt} {f : FuncId} {caps xs : List AV} (hg : guardOk st.env g = some true)
    (hf : oev st.env fo = some (.fn (.func f) caps)) (hx : oevs st.env args = some xs)
    (h : AC P f (xs ++ caps) st.heap st.nx fun y h' n' => pendOk h' (pendKeep late pd) ∧ match y with
      | .ret x => AD P Q r (pendKeep late pd) { st with env := setE dst x st.env, heap := h', nx := n' }
      | .panic x => Q (.panic x) { env := [], heap := h', nx := n', dm := st.dm }) : AD P Q (⟨i, ⟨dst, g, .call fo args⟩, late⟩ :: r) pd st := by
  unfold AD
  simp only [hg, hf, hx]
  exact h
end
section
variable {P : Program} {own : Nat → Nat → Bool} {ro : Option Nat} {N : Nat} {Q : AX → ASt → Prop} {st : ASt}
theorem AW_reg {ss : List AStep} {st' : ASt} (hr : runS ss st = ([], st')) (h : Q .normal st') : AW P own ro N (.region ss) Q st :=
  AW_region fun id => AWs_run' hr (AWs_nil h)
theorem AW_run {ss rest : List AStep} {st' : ASt} (hr : runS ss st = (rest, st')) (h : ∀ id, AWs P (own id) ro N rest Q st') : AW P own ro N (.region ss) Q st :=
  AW_region fun id => AWs_run' hr (h id)
theorem AW_dreg {L : List DStep} {pd : Pend} {st' : ASt} (hm : P.follows .mixedOrders = true) (hr : runD L [] st = ([], pd, st')) (h : Q .normal st') : AW P own ro N (.dregion L) Q st :=
  AW_dregion hm (AD_run L [] st (by rw [hr]; exact h))
theorem AW_drun {L rest : List DStep} {pd : Pend} {st' : ASt} (hm : P.follows .mixedOrders = true) (hr : runD L [] st = (rest, pd, st')) (h : AD P Q rest pd st') : AW P own ro N (.dregion L) Q st :=
  AW_dregion hm (AD_run L [] st (by rw [hr]; exact h))
end
end Go.Ab
namespace Go.Ab
open Go.RowKit
set_option linter.unusedVariables false
set_option linter.unusedSimpArgs false
section
variable {P : Program} {f : FuncId} {xs : List AV} {h : Heap} {nx : Nat} {Q : AE → Heap → Nat → Prop}
theorem AC.sub {Q1 : AE → Heap → Nat → Prop} (hc : AC P f xs h nx Q1) (hq : ∀ y h' n', nx ≤ n' → Q1 y h' n' → ∃ h'', (∀ b o, hget h'' b = some o → hget h' b = some o) ∧ Q y h'' n') : AC P f xs h nx Q := by
  refine ⟨hc.1, fun w0 K args hg ha => (hc.2 w0 K args hg ha).mono ?_⟩
  rintro e w' ⟨K', h', nx', y, rfl, hext, hgood, her, hq1⟩
  obtain ⟨h'', h1, h2⟩ := hq y h' nx' hext.le hq1
  exact ⟨K', h'', nx', y, rfl, hext, hgood.weaken (Nat.le_refl _) h1, her, h2⟩
theorem AC.pre {h0 : Heap} (hc : AC P f xs h0 nx Q) (hh : ∀ b o, hget h0 b = some o → hget h b = some o) : AC P f xs h nx Q :=
  ⟨hc.1, fun w0 K args hg ha => hc.2 w0 K args (hg.weaken (Nat.le_refl _) hh) ha⟩
theorem AC.live (h1 : ∀ args w, (callFunc f args).run P w = .ok (.enter f args) w) (hc : (∀ b o, hget h b = some o → b < nx) → AC P f xs h nx Q) : AC P f xs h nx Q :=
  ⟨h1, fun w0 K args hg ha => (hc fun b o hb => (hg.live b o hb).1).2 w0 K args hg ha⟩
def Pure (P : Program) (f : FuncId) (xs : List AV) (r : AV) : Prop := ∀ h nx, AC P f xs h nx fun y h' n' => y = .ret r ∧ h' = h ∧ nx ≤ n'
theorem Pure.of {r : AV} (hc : ∀ nx, AC P f xs [] nx fun y _ _ => y = .ret r) : Pure P f xs r := fun h nx =>
  (((hc nx).sub (Q := fun y h' n' => y = .ret r ∧ h' = []) fun y h' n' hle hy => ⟨[], fun b o hb => by simp [hget] at hb, hy, rfl⟩).frame h).sub
    fun y h' n' hle ⟨h1, e, _, _, hy, e1⟩ => ⟨h', fun b o hb => hb, hy, by rw [e, e1]; rfl, hle⟩
theorem AC.pure {R : AV → Prop} (hc : AC P f xs [] nx fun y _ _ => ∃ r, y = .ret r ∧ R r) (h : Heap) : AC P f xs h nx fun y h' n' => (∃ r, y = .ret r ∧ R r) ∧ h' = h ∧ nx ≤ n' :=
  ((hc.sub (Q := fun y h' n' => (∃ r, y = .ret r ∧ R r) ∧ h' = []) fun y h' n' hle hy => ⟨[], fun b o hb => by simp [hget] at hb, hy, rfl⟩).frame h).sub
    fun y h' n' hle ⟨h1, e, _, _, hy, e1⟩ => ⟨h', fun b o hb => hb, hy, by rw [e, e1]; rfl, hle⟩
end
theorem flat_at {sz : Nat} : ∀ {es : List (List AV)}, (∀ e ∈ es, e.length = sz) → ∀ (i : Nat) (e : List AV), es[i]? = some e → ∀ (j : Nat) (x : AV), e[j]? = some x → es.flatten[i * sz + j]? = some x
  | [], _, i, e, h, _, _, _ => by simp at h
  | e0 :: es, hs, i, e, h, j, x, hj => by
    have h0 := hs e0 List.mem_cons_self
    cases i with
    | zero =>
      simp only [List.getElem?_cons_zero, Option.some.injEq] at h; subst h
      have hjl : j < e0.length := (List.getElem?_eq_some_iff.1 hj).1
      simp only [Nat.zero_mul, Nat.zero_add, List.flatten_cons]
      rw [List.getElem?_append, if_pos hjl]; exact hj
    | succ i =>
      simp only [List.getElem?_cons_succ] at h
      have := flat_at (fun e he => hs e (List.mem_cons_of_mem _ he)) i e h j x hj
      simp only [List.flatten_cons]
      rw [List.getElem?_append, if_neg (by rw [h0, Nat.succ_mul]; omega)]
      rw [← this]; congr 1; rw [h0, Nat.succ_mul]; omega
theorem flat_len {sz : Nat} : ∀ {es : List (List AV)}, (∀ e ∈ es, e.length = sz) → es.flatten.length = es.length * sz
  | [], _ => by simp
  | e0 :: es, hs => by
    simp only [List.flatten_cons, List.length_append, List.length_cons, hs e0 List.mem_cons_self, flat_len fun e he => hs e (List.mem_cons_of_mem _ he), Nat.succ_mul]; omega
theorem os_ice {w0 : World} {K : Wd} {h : Heap} {nx b sz : Nat} {e : TypeId} {es : List (List AV)} {v : Value} (g : Good w0 K h nx) (hb : hget h b = some (.cells es.flatten)) (hs : ∀ x ∈ es, x.length = sz) (hv : VR K nx (.os b 0 e sz es.length) v) :
    VR (K.ice1 b) nx (.lst sz es) v := by
  have he := Ext.ice1 g hb
  obtain ⟨h1, h2, h3, ob, h4, h5⟩ := g.live b _ hb
  cases hv with
  | os _ _ _ _ _ a n cap hn hlt hc hcap hA hroom =>
    subst hn
    rcases Nat.eq_zero_or_pos cap with h0 | h0
    · have : es = [] := List.length_eq_zero_iff.1 (by omega)
      exact .lst0 sz es (some a) _ cap this (by rw [this]; rfl) (fun h => by cases h)
    · have ha := hA h0; subst ha
      obtain ⟨c, hrow, hsize⟩ := hroom
      rw [hrow] at h4; injection h4 with h4; subst h4
      cases h5 with
      | cells _ _ _ hcs hc1 hcc =>
        have hfl := flat_len hs
        rw [hfl] at hcs
        refine .lst sz es _ _ cap (fun k => c.getD k undef) rfl hc hcap (fun i x hx => hs x (List.mem_of_getElem? hx)) (fun i x hx j y hy => hc1 _ y (flat_at hs i x hx j y hy)) (fun k hk => ⟨?_, ?_⟩) fun i x hx j y hy => ?_
        · rw [add_eq]
          show K.w.cell? _ = _
          rw [cell_row hrow]
          have : 0 + k < c.size := by omega
          simp [this, Array.getD_eq_getD_getElem?]
          rw [Nat.zero_add] at this
          simp [this]
        · rw [add_eq]; exact .inr rfl
        · have hf := flat_at hs i x hx j y hy
          have hl := (List.getElem?_eq_some_iff.1 hf).1
          have hlc : i * sz + j < c.size := by omega
          refine (hcc _ y _ hf ?_).mono he
          simp [Array.getD_eq_getD_getElem?, hlc]
def Frz (h : Heap) (x : AV) (h' : Heap) (x' : AV) : Prop := ∀ (w0 : World) (K : Wd) (nx : Nat) (v : Value), Good w0 K h nx → VR K nx x v → ∃ K', K'.w = K.w ∧ Ext K nx K' nx ∧ Good w0 K' h' nx ∧ VR K' nx x' v
theorem Frz.refl (h : Heap) (x : AV) : Frz h x h x := fun w0 K nx v g hv => ⟨K, rfl, Ext.refl _ _, g, hv⟩
theorem Frz.os {h : Heap} {b sz n : Nat} {e : TypeId} {es : List (List AV)} (hb : hget h b = some (.cells es.flatten)) (hs : ∀ x ∈ es, x.length = sz) (hn : n = es.length) : Frz h (.os b 0 e sz n) (hdel h b) (.lst sz es) :=
  fun w0 K nx v g hv => by subst hn; exact ⟨K.ice1 b, rfl, Ext.ice1 g hb, g.ice1 hb, os_ice g hb hs hv⟩
theorem Frz.nilS (h : Heap) (sz : Nat) : Frz h .nilS h (.lst sz []) := fun w0 K nx v g hv => ⟨K, rfl, Ext.refl _ _, g, by cases hv; exact .lst0 _ _ _ _ _ rfl rfl fun _ => rfl⟩
theorem Frz.emp (h : Heap) (sz : Nat) : Frz h .emp h (.lst sz []) := fun w0 K nx v g hv => ⟨K, rfl, Ext.refl _ _, g, by cases hv; exact .lst0 _ _ _ _ _ rfl rfl fun _ => rfl⟩
theorem Frz.head {h h' : Heap} {x x' : AV} {r : List AV} (hf : Frz h x h' x') : Frz h (.tup (x :: r)) h' (.tup (x' :: r)) := fun w0 K nx v g hv => by
  cases hv with
  | tup _ c hs hc =>
    have h0 : 0 < c.size := by simp at hs; omega
    obtain ⟨K', h1, h2, h3, h4⟩ := hf w0 K nx c[0] g (hc 0 x _ rfl (Array.getElem?_eq_getElem h0))
    refine ⟨K', h1, h2, h3, .tup _ c (by simpa using hs) fun i y u hi hu => ?_⟩
    cases i with
    | zero =>
      simp only [List.getElem?_cons_zero, Option.some.injEq] at hi; subst hi
      rw [Array.getElem?_eq_getElem h0] at hu; injection hu with hu; subst hu; exact h4
    | succ i => exact (hc (i + 1) y u (by simpa using hi) hu).mono h2
theorem Frz.tail {h h' : Heap} {x : AV} {r r' : List AV} (hf : Frz h (.tup r) h' (.tup r')) (hl : r.length = r'.length) : Frz h (.tup (x :: r)) h' (.tup (x :: r')) := fun w0 K nx v g hv => by
  cases hv with
  | tup _ c hs hc =>
    have hsz : (c.extract 1 c.size).size = r.length := by simp at hs ⊢; omega
    obtain ⟨K', h1, h2, h3, h4⟩ := hf w0 K nx (.tuple (c.extract 1 c.size)) g (.tup _ _ hsz fun i y u hi hu => by
      refine hc (i + 1) y u (by simpa using hi) ?_
      rw [Array.getElem?_extract] at hu
      split at hu
      · rw [← hu]; congr 1; omega
      · cases hu)
    refine ⟨K', h1, h2, h3, .tup _ c (by simp at hs ⊢; omega) fun i y u hi hu => ?_⟩
    cases i with
    | zero => exact (hc 0 y u (by simpa using hi) hu).mono h2
    | succ i =>
      cases h4 with
      | tup _ _ hs' hc' =>
        refine hc' i y u (by simpa using hi) ?_
        rw [Array.getElem?_extract]
        have := (Array.getElem?_eq_some_iff.1 hu).1
        rw [if_pos (by omega), ← hu]; congr 1; omega
section
variable {P : Program} {f : FuncId} {xs : List AV} {h : Heap} {nx : Nat} {Q : AE → Heap → Nat → Prop}
theorem AC.frz (hc : AC P f xs h nx fun y h' n' => match y with
    | .ret x => ∃ h'' x', Frz h' x h'' x' ∧ Q (.ret x') h'' n'
    | .panic x => Q (.panic x) h' n') : AC P f xs h nx Q := by
  refine ⟨hc.1, fun w0 K args hg ha => (hc.2 w0 K args hg ha).mono ?_⟩
  rintro e w' ⟨K', h', nx', y, rfl, hext, hgood, her, hq⟩
  cases y with
  | ret x =>
    obtain ⟨h'', x', hf, hq⟩ := hq
    cases e <;> simp only [AER] at her <;> first | exact her.elim | skip
    obtain ⟨K2, e1, e2, e3, e4⟩ := hf w0 K' nx' _ hgood her
    exact ⟨K2, h'', nx', .ret x', e1, hext.trans e2, e3, e4, hq⟩
  | panic x => exact ⟨K', h', nx', .panic x, rfl, hext, hgood, her, hq⟩
end
def Is (P : Program) (own : Nat → Nat → Bool) (f : FuncId) (N : Nat) (ac : ACode) (rs : List RV) : Prop :=
  ∃ fn, P.funcs[f]? = some fn ∧ fn.ntmps = N ∧ (fn.body.bind fun c => compile P own N c) = some ac ∧ compileRes P fn.results.toList = some rs ∧ ∀ args w, (callFunc f args).run P w = .ok (.enter f args) w
def Fin (rs : List RV) (Q : AE → Heap → Nat → Prop) (x : AX) (st : ASt) : Prop :=
  dmOk st.heap st.dm ∧ match x with
      | .normal => ∃ ys, rvsEv st.env (dels st.heap st.dm) rs = some ys ∧ Q (.ret (resV ys)) (dels st.heap st.dm) st.nx
      | .ret => ∃ ys, rvsEv st.env (dels st.heap st.dm) rs = some ys ∧ Q (.ret (resV ys)) (dels st.heap st.dm) st.nx
      | .panic v => Q (.panic v) (dels st.heap st.dm) st.nx
      | .exit _ => False
theorem AC.is {P : Program} {own : Nat → Nat → Bool} {f : FuncId} {N : Nat} {ac : ACode} {rs : List RV} {xs : List AV} {h : Heap} {nx : Nat} {Q : AE → Heap → Nat → Prop} (hi : Is P own f N ac rs) (hl : xs.length ≤ N)
    (hw : AW P own none N ac (Fin rs Q) { env := penv 0 xs, heap := h, nx := nx }) : AC P f xs h nx Q := by
  obtain ⟨fn, h1, h2, h3, h4, h5⟩ := hi
  obtain ⟨c, hb, hc⟩ := Option.bind_eq_some_iff.1 h3
  exact AC_body h1 hb h2 h5 hc h4 hl hw
theorem Fin.ret {rs : List RV} {Q : AE → Heap → Nat → Prop} {st : ASt} {ys : List AV} (hd : st.dm = []) (hy : rvsEv st.env st.heap rs = some ys) (hq : Q (.ret (resV ys)) st.heap st.nx) : Fin rs Q .ret st := by
  unfold Fin
  rw [hd]
  exact ⟨trivial, ys, hy, hq⟩
theorem AW.ice {P : Program} {own : Nat → Nat → Bool} {ro : Option Nat} {N : Nat} {Q : AX → ASt → Prop} {st : ASt} {ac : ACode} {t : Tmp} {x x' : AV} {h' : Heap} (ht : eget st.env t = some x) (hf : Frz st.heap x h' x')
    (h : AW P own ro N ac Q { st with env := (t, x') :: st.env, heap := h' }) : AW P own ro N ac Q st := by
  intro c hc w0 K a hs
  obtain ⟨v, h1, h2⟩ := hs.env t x ht
  obtain ⟨K', e1, e2, e3, e4⟩ := hf w0 K st.nx v hs.good h2
  have hs' : StR w0 N K' { st with env := (t, x') :: st.env, heap := h' } a := by
    refine ⟨e3, fun u y hy => ?_, hs.size, by rw [hs.defers]; exact (marks_ext e2 hs.dm).symm, hs.dm⟩
    rw [eget_cons] at hy
    split at hy
    · rename_i e; subst e
      injection hy with hy; subst hy
      exact ⟨v, h1, e4⟩
    · obtain ⟨u', h3, h4⟩ := hs.env u y hy
      exact ⟨u', h3, h4.mono e2⟩
  have := h c hc w0 K' a hs'
  rw [e1] at this
  exact wpIn_mono this fun e a w hp => hp.of_ext e2
end Go.Ab
namespace Go.Ab
open Go.RowKit
set_option linter.unusedVariables false
set_option linter.unusedSimpArgs false
theorem w64 {n : Int} (h0 : -9223372036854775808 ≤ n) (h1 : n < 9223372036854775808) : IntKind.i64.wrap n = n := by rw [IntKind.wrap_i64]; omega
theorem wu64 {n : Int} (h0 : 0 ≤ n) (h1 : n < 18446744073709551616) : IntKind.u64.wrap n = n := by rw [IntKind.wrap_u64]; omega
theorem wu8 {n : Int} (h0 : 0 ≤ n) (h1 : n < 256) : IntKind.u8.wrap n = n := by rw [IntKind.wrap_u8]; omega
variable (k : IntKind) (a b : Int)
theorem b_add : binA .add (.int k a) (.int k b) = some (.int k (k.wrap (a + b))) := by simp [binA, numA]
theorem b_sub : binA .sub (.int k a) (.int k b) = some (.int k (k.wrap (a - b))) := by simp [binA, numA]
theorem b_mul : binA .mul (.int k a) (.int k b) = some (.int k (k.wrap (a * b))) := by simp [binA, numA]
theorem b_quo (h : b ≠ 0) : binA .quo (.int k a) (.int k b) = some (.int k (k.wrap (a.tdiv b))) := by simp [binA, numA, h]
theorem b_rem (h : b ≠ 0) : binA .rem (.int k a) (.int k b) = some (.int k (a.tmod b)) := by simp [binA, numA, h]
theorem b_eql : binA .eql (.int k a) (.int k b) = some (.bool (decide (a = b))) := by simp [binA, numA, cmpA]
theorem b_neq : binA .neq (.int k a) (.int k b) = some (.bool (!decide (a = b))) := by simp [binA, numA, cmpA]
theorem b_lss : binA .lss (.int k a) (.int k b) = some (.bool (decide (a < b))) := by simp [binA, numA, cmpA]
theorem b_leq : binA .leq (.int k a) (.int k b) = some (.bool (decide (a ≤ b))) := by simp [binA, numA, cmpA]
theorem b_gtr : binA .gtr (.int k a) (.int k b) = some (.bool (decide (b < a))) := by simp [binA, numA, cmpA]
theorem b_geq : binA .geq (.int k a) (.int k b) = some (.bool (decide (b ≤ a))) := by simp [binA, numA, cmpA]
theorem b_and : binA .and (.int k a) (.int k b) = (bitsA .and k a b).map (.int k) := by simp [binA, numA]
theorem b_or : binA .or (.int k a) (.int k b) = (bitsA .or k a b).map (.int k) := by simp [binA, numA]
theorem b_xor : binA .xor (.int k a) (.int k b) = (bitsA .xor k a b).map (.int k) := by simp [binA, numA]
theorem b_andNot : binA .andNot (.int k a) (.int k b) = (bitsA .andNot k a b).map (.int k) := by simp [binA, numA]
theorem b_shl (k' : IntKind) (h : 0 ≤ b) : binA .shl (.int k a) (.int k' b) = some (.int k (k.wrap (a * 2 ^ (min b.toNat k.bits)))) := by
  have : ¬ b < 0 := by omega
  simp [binA, shA, this]
theorem b_shr (k' : IntKind) (h : 0 ≤ b) : binA .shr (.int k a) (.int k' b) = some (.int k (a.fdiv (2 ^ (min b.toNat k.bits)))) := by
  have : ¬ b < 0 := by omega
  simp [binA, shA, this]
theorem b_str (op : BinOp) (x y : List UInt8) : binA op (.str x) (.str y) = strA op x y := rfl
theorem bt1 : (true == true) = true := rfl
theorem bt2 : (true == false) = false := rfl
theorem bt3 : (false == true) = false := rfl
theorem bt4 : (false == false) = true := rfl
theorem idxA_lst {sz : Nat} {es : List (List AV)} {n : Nat} {e : List AV} (h : es[n]? = some e) : idxA sz (.lst sz es) (n : Int) = some (.fp e) := by simp [idxA, h]
theorem idxA_map {α : Type} {f : α → List AV} {sz : Nat} {l : List α} {n : Nat} {r : α} (h : l[n]? = some r) : idxA sz (.lst sz (l.map f)) (n : Int) = some (.fp (f r)) := idxA_lst (by simp [h])
theorem addA_fp (off : Nat) (cs : List AV) : addA off (.fp cs) = some (.fp (cs.drop off)) := rfl
theorem ptr_fp (h : Heap) (cs : List AV) : ptrCells h (.fp cs) = some cs := rfl
theorem rel_fp (h : Heap) (sz : Nat) (ag : Bool) (cs : List AV) : reload h sz ag (.fp cs) = takeV sz ag cs := rfl
theorem take1 (sz : Nat) (x : AV) (r : List AV) : takeV sz false (x :: r) = some x := rfl
theorem takeA {sz : Nat} {cs : List AV} (h : sz ≤ cs.length) : takeV sz true cs = some (.agg (cs.take sz)) := by simp [takeV, h]
theorem fp_is (cs : List AV) : (AV.fp cs).isFp = true := rfl
theorem op_is (b o : Nat) : (AV.op b o).isFp = false := rfl
theorem len_map {α : Type} (f : α → List AV) (sz : Nat) (l : List α) : lenA (.lst sz (l.map f)) = some l.length := by simp [lenA]
theorem ofV_int : ofV (.int k a) = some (.int k a) := rfl
theorem ofV_str (s : ByteArray) : ofV (.string s) = some (.str s.data.toList) := rfl
theorem ofV_nilS : ofV (.slice none 0 0) = some .nilS := rfl
theorem ofV_nilP : ofV (.pointer none) = some .nilP := rfl
theorem ofV_nilM : ofV (.map none) = some .nilM := rfl
theorem ofV_nilF : ofV .nilFunc = some .nilF := rfl
theorem ofV_nilI : ofV .nilIface = some .nilI := rfl
theorem ofV_bool (c : Bool) : ofV (.bool c) = some (.bool c) := rfl
end Go.Ab
namespace Go.Ab
open Go.RowKit
set_option linter.unusedVariables false
set_option linter.unusedSimpArgs false
def nxP (args : List Operand) (b : Nat) (st : ASt) (d : Option Tmp) (k : ASt → Prop) : Prop :=
  args = [nxM] ∧ ∃ (mb since last ck : Nat) (seen sts : List Nat) (es : List (AV × AV)), hget st.heap b = some (.mit mb since seen last) ∧ hget st.heap mb = some (.map es sts ck) ∧ (∀ s ∈ sts, s < since) ∧ since ≤ last ∧
    ((∀ s ∈ sts, s ∈ seen) → k { st with env := setE d (.tup [.bool false]) st.env }) ∧
    ∀ (i : Nat) (q x : AV) (s : Nat), es[i]? = some (q, x) → sts[i]? = some s → s ∉ seen → k { st with env := setE d (.tup [.bool true, q, x]) st.env, heap := hset st.heap b (.mit mb since (seen ++ [s]) ck) }
section
variable (P : Program) (own : Nat → Nat → Bool) (ro : Option Nat) (N : Nat)
def wpR (Q : AX → ASt → Prop) : List AStep → ASt → Prop
  | [], st => Q .normal st
  | s :: r, st => match guardOk st.env s.guard with
    | none => False
    | some c => (c = true → match s.act with
        | .op ao => (match opEv ao st.env st.heap st.nx with
          | some (.val x, h, n) => wpR Q r { st with env := setE s.dst x st.env, heap := h, nx := n }
          | some (.skip, h, n) => wpR Q r { st with env := dropE s.dst st.env, heap := h, nx := n }
          | none => False)
        | .call f args => (match oev st.env f, oevs st.env args with
          | some (.fn (.func fid) caps), some xs => AC P fid (xs ++ caps) st.heap st.nx fun y h' n' => match y with
            | .ret x => wpR Q r { st with env := setE s.dst x st.env, heap := h', nx := n' }
            | .panic x => Q (.panic x) { st with heap := h', nx := n' }
          | some (.bm (.func fid) fs caps), some xs => AC P fid (fs ++ (xs ++ caps)) st.heap st.nx fun y h' n' => match y with
            | .ret x => wpR Q r { st with env := setE s.dst x st.env, heap := h', nx := n' }
            | .panic x => Q (.panic x) { st with heap := h', nx := n' }
          | some (.yl b), some xs => AY P b xs st.heap st.nx fun y h' n' => match y with
            | .ret x => wpR Q r { st with env := setE s.dst x st.env, heap := h', nx := n' }
            | .panic x => Q (.panic x) { st with heap := h', nx := n' }
          | some (.op b 0), none => nxP args b st s.dst fun st' => wpR Q r st'
          | _, _ => False)
        | .callZ _ _ => False) ∧
      (c = false → wpR Q r { st with env := dropE s.dst st.env })
def wpD (Q : AX → ASt → Prop) : List DStep → Pend → ASt → Prop
  | [], _, st => Q .normal st
  | d :: r, pd, st => match guardOk st.env d.s.guard with
    | none => False
    | some c => (c = true → match d.s.act with
        | .op ao => if ao.quiet = true then (match opEv ao st.env st.heap st.nx with
            | some (.val x, _, _) => wpD Q r pd { st with env := setE d.s.dst x st.env }
            | _ => False)
          else match ao with
            | .load sz ag o => (match oev st.env o with
              | some p => (match reload st.heap sz ag p with
                | some x => wpD Q r (if p.isFp = true then pd else (d.i, sz, ag, p, x) :: pd) { st with env := setE d.s.dst x st.env }
                | none => False)
              | none => False)
            | ao => (match opEv ao st.env st.heap st.nx with
              | some (.val x, h', n') => pendOk h' (pendKeep d.late pd) ∧ wpD Q r (pendKeep d.late pd) { st with env := setE d.s.dst x st.env, heap := h', nx := n' }
              | some (.skip, h', n') => pendOk h' (pendKeep d.late pd) ∧ wpD Q r (pendKeep d.late pd) { st with env := dropE d.s.dst st.env, heap := h', nx := n' }
              | none => False)
        | .call f args => (match oev st.env f, oevs st.env args with
          | some (.fn (.func fid) caps), some xs => AC P fid (xs ++ caps) st.heap st.nx fun y h' n' => pendOk h' (pendKeep d.late pd) ∧ match y with
            | .ret x => wpD Q r (pendKeep d.late pd) { st with env := setE d.s.dst x st.env, heap := h', nx := n' }
            | .panic x => Q (.panic x) { env := [], heap := h', nx := n', dm := st.dm }
          | _, _ => False)
        | .callZ f args => (match oev st.env f, oevs st.env args with
          | some (.fn (.func fid) caps), some xs => AC P fid (xs ++ caps) [] st.nx fun y h' n' => (∀ c o, hget st.heap c = some o → hget h' c = none) → pendOk (h' ++ st.heap) (pendKeep d.late pd) ∧ match y with
            | .ret x => wpD Q r (pendKeep d.late pd) { st with env := setE d.s.dst x st.env, heap := h' ++ st.heap, nx := n' }
            | .panic x => Q (.panic x) { env := [], heap := h' ++ st.heap, nx := n', dm := st.dm }
          | _, _ => False)) ∧
      (c = false → wpD Q r pd { st with env := dropE d.s.dst st.env })
def wpA : ACode → (AX → ASt → Prop) → ASt → Prop
  | .skip, Q, st => Q .normal st
  | .label, Q, st => Q .normal st
  | .exit i, Q, st => Q (.exit i) st
  | .ret, Q, st => Q .ret st
  | .region ss, Q, st => wpR P Q ss st
  | .dregion L, Q, st => wpD P Q L [] st
  | .seq a b, Q, st => wpA a (AX.then (fun s => wpA b Q s) Q) st
  | .cond o a b, Q, st => (match oev st.env o with
    | some (.bool c) => (c = true → wpA a Q st) ∧ (c = false → wpA b Q st)
    | _ => False)
  | .block i b, Q, st => wpA b (AX.inBlock i Q) st
  | .loop b, Q, st => AW P own ro N (.loop b) Q st
  | .rangeF g ps a b, Q, st => AW P own ro N (.rangeF g ps a b) Q st
end
section
variable {P : Program} {own : Nat → Nat → Bool} {ro : Option Nat} {N : Nat}
theorem AWs_of {own : Nat → Bool} {Q : AX → ASt → Prop} : ∀ (ss : List AStep) (st : ASt), wpR P Q ss st → AWs P own ro N ss Q st
  | [], st, h => AWs_nil h
  | s :: r, st, h => by
    unfold wpR at h
    split at h
    · exact h.elim
    · rename_i c hg
      cases c with
      | false => exact AWs_skip hg (AWs_of r _ (h.2 rfl))
      | true =>
        have h := h.1 rfl
        obtain ⟨d, g, act⟩ := s
        cases act with
        | op ao =>
          simp only at h hg
          split at h
          · rename_i hev; exact AWs_val hg hev (AWs_of r _ h)
          · rename_i hev; exact AWs_skp hg hev (AWs_of r _ h)
          · exact h.elim
        | call f args =>
          simp only at h hg
          split at h
          · rename_i hf hx
            refine AWs_call hg hf hx (h.mono fun y h' n' hy => ?_)
            cases y with
            | ret x => exact AWs_of r _ hy
            | panic x => exact hy
          · rename_i hf hx
            refine AWs_callB hg hf hx (h.mono fun y h' n' hy => ?_)
            cases y with
            | ret x => exact AWs_of r _ hy
            | panic x => exact hy
          · rename_i hf hx
            refine AWs_yield hg hf hx (h.mono fun y h' n' hy => ?_)
            cases y with
            | ret x => exact AWs_of r _ hy
            | panic x => exact hy
          · rename_i hf hx
            obtain ⟨rfl, mb, since, last, ck, seen, sts, es, h1, h2, h3, h4, h5, h6⟩ := h
            exact AWs_next hg hf h1 h2 h3 h4 (fun ha => AWs_of r _ (h5 ha)) fun i q x s k1 k2 k3 => AWs_of r _ (h6 i q x s k1 k2 k3)
          · exact h.elim
        | callZ f args => exact h.elim
theorem AD_of {Q : AX → ASt → Prop} : ∀ (l : List DStep) (pd : Pend) (st : ASt), wpD P Q l pd st → AD P Q l pd st
  | [], pd, st, h => h
  | d :: r, pd, st, h => by
    unfold wpD at h
    unfold AD
    cases hg : guardOk st.env d.s.guard with
    | none => simp only [hg] at h
    | some c =>
      simp only [hg] at h
      cases c with
      | false => exact AD_of r _ _ (h.2 rfl)
      | true =>
        have h := h.1 rfl
        simp only
        cases hact : d.s.act with
        | call f args =>
          simp only [hact] at h
          simp only
          split at h
          · rename_i hf hx
            simp only [hf, hx]
            refine h.mono fun y h' n' hy => ⟨hy.1, ?_⟩
            cases y with
            | ret x => exact AD_of r _ _ hy.2
            | panic x => exact hy.2
          · exact h.elim
        | callZ f args =>
          simp only [hact] at h
          simp only
          split at h
          · rename_i hf hx
            simp only [hf, hx]
            refine h.mono fun y h' n' hz hd => ?_
            have hy := hz hd
            refine ⟨hy.1, ?_⟩
            cases y with
            | ret x => exact AD_of r _ _ hy.2
            | panic x => exact hy.2
          · exact h.elim
        | op ao =>
          simp only [hact] at h
          simp only
          by_cases hq : ao.quiet = true
          · simp only [hq, if_true] at h ⊢
            split at h
            · rename_i hev
              simp only [hev]
              exact AD_of r _ _ h
            · exact h.elim
          · simp only [hq] at h ⊢
            simp only [Bool.false_eq_true, if_false] at h ⊢
            cases ao <;> simp only at h ⊢
            case load sz ag o =>
              split at h
              · rename_i p hp
                simp only [hp]
                split at h
                · rename_i x hx
                  simp only [hx]
                  exact AD_of r _ _ h
                · exact h.elim
              · exact h.elim
            all_goals
              first
              | (exact absurd rfl hq)
              | (split at h
                 · rename_i hev; simp only [hev]; exact ⟨h.1, AD_of r _ _ h.2⟩
                 · rename_i hev; simp only [hev]; exact ⟨h.1, AD_of r _ _ h.2⟩
                 · exact h.elim)
theorem AW_of' (hm : P.follows .mixedOrders = true) : ∀ (ac : ACode) (Q : AX → ASt → Prop) (st : ASt), wpA P own ro N ac Q st → AW P own ro N ac Q st := by
  intro ac
  induction ac with
  | skip => intro Q st h; exact AW_skip h
  | label => intro Q st h; exact AW_label h
  | exit i => intro Q st h; exact AW_exit h
  | ret => intro Q st h; exact AW_ret h
  | region ss => intro Q st h; exact AW_region fun id => AWs_of ss st h
  | dregion L => intro Q st h; exact AW_dregion hm (AD_of L [] st h)
  | seq a b iha ihb =>
    intro Q st h
    refine AW_seq fun K hK => iha _ _ ?_
    unfold wpA at h
    have : ∀ (x : AX) (s : ASt), AX.then (fun s => wpA P own ro N b Q s) Q x s → AX.then K Q x s := by
      intro x s hx
      cases x with
      | normal => exact hK s (ihb _ _ hx)
      | _ => exact hx
    exact wpA_mono this h
  | cond o a b iha ihb =>
    intro Q st h
    unfold wpA at h
    split at h
    · rename_i c hc
      exact AW_cond_split hc (fun e => iha _ _ (h.1 e)) (fun e => ihb _ _ (h.2 e))
    · exact h.elim
  | block i b ih => intro Q st h; exact AW_block (ih _ _ h)
  | loop b ih => intro Q st h; exact h
  | rangeF g ps a b iha ihb => intro Q st h; exact h
where
  wpA_mono {ac : ACode} {Q Q' : AX → ASt → Prop} {st : ASt} (hq : ∀ x s, Q x s → Q' x s) (h : wpA P own ro N ac Q st) : wpA P own ro N ac Q' st := by
    induction ac generalizing Q Q' st with
    | skip => exact hq _ _ h
    | label => exact hq _ _ h
    | exit i => exact hq _ _ h
    | ret => exact hq _ _ h
    | region ss => exact wpR_mono hq ss st h
    | dregion L => exact wpD_mono hq L [] st h
    | seq a b iha ihb =>
      unfold wpA at h ⊢
      refine iha (fun x s hx => ?_) h
      cases x with
      | normal => exact ihb hq hx
      | _ => exact hq _ _ hx
    | cond o a b iha ihb =>
      unfold wpA at h ⊢
      split
      · rename_i c hc
        (try simp only [hc] at h)
        exact ⟨fun e => iha hq (h.1 e), fun e => ihb hq (h.2 e)⟩
      · rename_i hn
        split at h
        · rename_i c hc; exact absurd hc (hn c)
        · exact h
    | block i b ih =>
      unfold wpA at h ⊢
      refine ih (fun x s hx => ?_) h
      cases x with
      | exit j => simp only [AX.inBlock] at hx ⊢; split <;> rename_i e <;> simp only [e, if_true, if_false] at hx <;> exact hq _ _ hx
      | _ => exact hq _ _ hx
    | loop b ih => exact AW.mono h hq
    | rangeF g ps a b iha ihb => exact AW.mono h hq
  wpR_mono {Q Q' : AX → ASt → Prop} (hq : ∀ x s, Q x s → Q' x s) : ∀ (ss : List AStep) (st : ASt), wpR P Q ss st → wpR P Q' ss st
    | [], st, h => hq _ _ h
    | s :: r, st, h => by
      unfold wpR at h ⊢
      split at h
      · exact h.elim
      · rename_i c hg
        refine ⟨fun e => ?_, fun e => wpR_mono hq r _ (h.2 e)⟩
        have h := h.1 e
        cases hact : s.act with
        | op ao =>
          simp only [hact] at h ⊢
          split at h
          · rename_i hev; (try simp only [hev]); exact wpR_mono hq r _ h
          · rename_i hev; (try simp only [hev]); exact wpR_mono hq r _ h
          · exact h.elim
        | call f args =>
          simp only [hact] at h ⊢
          split at h
          · rename_i hf hx
            (try simp only [hf, hx])
            refine h.mono fun y h' n' hy => ?_
            cases y with
            | ret x => exact wpR_mono hq r _ hy
            | panic x => exact hq _ _ hy
          · rename_i hf hx
            (try simp only [hf, hx])
            refine h.mono fun y h' n' hy => ?_
            cases y with
            | ret x => exact wpR_mono hq r _ hy
            | panic x => exact hq _ _ hy
          · rename_i hf hx
            (try simp only [hf, hx])
            refine h.mono fun y h' n' hy => ?_
            cases y with
            | ret x => exact wpR_mono hq r _ hy
            | panic x => exact hq _ _ hy
          · rename_i hf hx
            (try simp only [hf, hx])
            obtain ⟨e0, mb, since, last, ck, seen, sts, es, h1, h2, h3, h4, h5, h6⟩ := h
            exact ⟨e0, mb, since, last, ck, seen, sts, es, h1, h2, h3, h4, fun ha => wpR_mono hq r _ (h5 ha), fun i q x s k1 k2 k3 => wpR_mono hq r _ (h6 i q x s k1 k2 k3)⟩
          · exact h.elim
        | callZ f args => simp only [hact] at h
  wpD_mono {Q Q' : AX → ASt → Prop} (hq : ∀ x s, Q x s → Q' x s) : ∀ (l : List DStep) (pd : Pend) (st : ASt), wpD P Q l pd st → wpD P Q' l pd st
    | [], pd, st, h => hq _ _ h
    | d :: r, pd, st, h => by
      unfold wpD at h ⊢
      split at h
      · exact h.elim
      · rename_i c hg
        refine ⟨fun e => ?_, fun e => wpD_mono hq r _ _ (h.2 e)⟩
        have h := h.1 e
        cases hact : d.s.act with
        | call f args =>
          simp only [hact] at h ⊢
          split at h
          · rename_i hf hx
            (try simp only [hf, hx])
            refine h.mono fun y h' n' hy => ⟨hy.1, ?_⟩
            cases y with
            | ret x => exact wpD_mono hq r _ _ hy.2
            | panic x => exact hq _ _ hy.2
          · exact h.elim
        | callZ f args =>
          simp only [hact] at h ⊢
          split at h
          · rename_i hf hx
            (try simp only [hf, hx])
            refine h.mono fun y h' n' hz hd => ?_
            have hy := hz hd
            refine ⟨hy.1, ?_⟩
            cases y with
            | ret x => exact wpD_mono hq r _ _ hy.2
            | panic x => exact hq _ _ hy.2
          · exact h.elim
        | op ao =>
          simp only [hact] at h ⊢
          by_cases hqt : ao.quiet = true
          · simp only [hqt, if_true] at h ⊢
            split at h
            · rename_i hev; (try simp only [hev]); exact wpD_mono hq r _ _ h
            · exact h.elim
          · simp only [hqt] at h ⊢
            simp only [Bool.false_eq_true, if_false] at h ⊢
            cases ao <;> simp only at h ⊢
            case load sz ag o =>
              split at h
              · rename_i p hp
                split at h
                · rename_i x hx
                  (try simp only [hp, hx])
                  exact wpD_mono hq r _ _ h
                · exact h.elim
              · exact h.elim
            all_goals
              first
              | (exact absurd rfl hqt)
              | (split at h
                 · rename_i hev; (try simp only [hev]); exact ⟨h.1, wpD_mono hq r _ _ h.2⟩
                 · rename_i hev; (try simp only [hev]); exact ⟨h.1, wpD_mono hq r _ _ h.2⟩
                 · exact h.elim)
end
theorem AW_of {P : Program} {own : Nat → Nat → Bool} {ro : Option Nat} {N : Nat} {ac : ACode} {Q : AX → ASt → Prop} {st : ASt} (hm : P.follows .mixedOrders = true) (h : wpA P own ro N ac Q st) : AW P own ro N ac Q st := AW_of' hm ac Q st h
theorem Pure.use {P : Program} {f : FuncId} {xs : List AV} {r : AV} {h : Heap} {nx : Nat} {Q : AE → Heap → Nat → Prop} (hp : Pure P f xs r) (hq : ∀ n', nx ≤ n' → Q (.ret r) h n') : AC P f xs h nx Q :=
  (hp h nx).mono fun y h' n' ⟨e1, e2, hle⟩ => by subst e1; subst e2; exact hq n' hle
end Go.Ab
namespace Go.Ab
open Go.RowKit
set_option linter.unusedVariables false
set_option linter.unusedSimpArgs false
inductive Fr where
  | seq (b : ACode)
  | blk (i : Nat)
section
variable (P : Program) (own : Nat → Nat → Bool) (ro : Option Nat) (N : Nat)
def post (Q : AX → ASt → Prop) : List Fr → AX → ASt → Prop
  | [] => Q
  | .seq b :: F => AX.then (fun s => wpA P own ro N b (post Q F) s) (post Q F)
  | .blk i :: F => AX.inBlock i (post Q F)
variable (F : List Fr) (Q : AX → ASt → Prop)
def go (c : ACode) (st : ASt) : Prop := wpA P own ro N c (post P own ro N Q F) st
def fin (x : AX) (st : ASt) : Prop := post P own ro N Q F x st
def cK (a b : ACode) (st : ASt) : Option AV → Prop
  | some (.bool c) => (c = true → go P own ro N F Q a st) ∧ (c = false → go P own ro N F Q b st)
  | _ => False
def rg (ss : List AStep) (st : ASt) : Prop := wpR P (post P own ro N Q F) ss st
def rK (s : AStep) (r : List AStep) (st : ASt) (y : AE) (h : Heap) (n : Nat) : Prop := match y with
  | .ret x => rg P own ro N F Q r { st with env := setE s.dst x st.env, heap := h, nx := n }
  | .panic x => fin P own ro N F Q (.panic x) { st with heap := h, nx := n }
def oK (s : AStep) (r : List AStep) (st : ASt) : Option (Out × Heap × Nat) → Prop
  | some (.val x, h, n) => rg P own ro N F Q r { st with env := setE s.dst x st.env, heap := h, nx := n }
  | some (.skip, h, n) => rg P own ro N F Q r { st with env := dropE s.dst st.env, heap := h, nx := n }
  | none => False
def nK (s : AStep) (r : List AStep) (st : ASt) (b : Nat) : Prop := match s.act with
  | .call _ args => nxP args b st s.dst fun st' => rg P own ro N F Q r st'
  | _ => False
def fK (s : AStep) (r : List AStep) (st : ASt) : Option AV → Option (List AV) → Prop
  | some (.fn (.func fid) caps), some xs => AC P fid (xs ++ caps) st.heap st.nx (rK P own ro N F Q s r st)
  | some (.bm (.func fid) fs caps), some xs => AC P fid (fs ++ (xs ++ caps)) st.heap st.nx (rK P own ro N F Q s r st)
  | some (.yl b), some xs => AY P b xs st.heap st.nx (rK P own ro N F Q s r st)
  | some (.op b 0), none => nK P own ro N F Q s r st b
  | _, _ => False
def aK (s : AStep) (r : List AStep) (st : ASt) : AAct → Prop
  | .op ao => oK P own ro N F Q s r st (opEv ao st.env st.heap st.nx)
  | .call f args => fK P own ro N F Q s r st (oev st.env f) (oevs st.env args)
  | .callZ _ _ => False
def gK (s : AStep) (r : List AStep) (st : ASt) : Option Bool → Prop
  | none => False
  | some c => (c = true → aK P own ro N F Q s r st s.act) ∧ (c = false → rg P own ro N F Q r { st with env := dropE s.dst st.env })
theorem go_skip (st : ASt) : go P own ro N F Q .skip st = fin P own ro N F Q .normal st := rfl
theorem go_label (st : ASt) : go P own ro N F Q .label st = fin P own ro N F Q .normal st := rfl
theorem go_exit (i : Nat) (st : ASt) : go P own ro N F Q (.exit i) st = fin P own ro N F Q (.exit i) st := rfl
theorem go_ret (st : ASt) : go P own ro N F Q .ret st = fin P own ro N F Q .ret st := rfl
theorem go_seq (a b : ACode) (st : ASt) : go P own ro N F Q (.seq a b) st = go P own ro N (.seq b :: F) Q a st := rfl
theorem go_block (i : Nat) (b : ACode) (st : ASt) : go P own ro N F Q (.block i b) st = go P own ro N (.blk i :: F) Q b st := rfl
theorem go_cond (o : Operand) (a b : ACode) (st : ASt) : go P own ro N F Q (.cond o a b) st = cK P own ro N F Q a b st (oev st.env o) := by
  unfold go cK
  simp only [wpA]
  cases oev st.env o with
  | none => rfl
  | some v => cases v <;> rfl
theorem go_region (ss : List AStep) (st : ASt) : go P own ro N F Q (.region ss) st = rg P own ro N F Q ss st := rfl
theorem go_rangeF (g : Operand) (ps : Array Tmp) (a b : ACode) (st : ASt) : go P own ro N F Q (.rangeF g ps a b) st = AW P own ro N (.rangeF g ps a b) (post P own ro N Q F) st := rfl
theorem go_loop (b : ACode) (st : ASt) : go P own ro N F Q (.loop b) st = AW P own ro N (.loop b) (post P own ro N Q F) st := rfl
theorem fin_nil (x : AX) (st : ASt) : fin P own ro N [] Q x st = Q x st := rfl
theorem fin_seq_n (b : ACode) (st : ASt) : fin P own ro N (.seq b :: F) Q .normal st = go P own ro N F Q b st := rfl
theorem fin_seq_e (b : ACode) (i : Nat) (st : ASt) : fin P own ro N (.seq b :: F) Q (.exit i) st = fin P own ro N F Q (.exit i) st := rfl
theorem fin_seq_r (b : ACode) (st : ASt) : fin P own ro N (.seq b :: F) Q .ret st = fin P own ro N F Q .ret st := rfl
theorem fin_seq_p (b : ACode) (x : AV) (st : ASt) : fin P own ro N (.seq b :: F) Q (.panic x) st = fin P own ro N F Q (.panic x) st := rfl
theorem fin_blk_n (i : Nat) (st : ASt) : fin P own ro N (.blk i :: F) Q .normal st = fin P own ro N F Q .normal st := rfl
theorem fin_blk_e (i j : Nat) (st : ASt) : fin P own ro N (.blk i :: F) Q (.exit j) st = if j = i then fin P own ro N F Q .normal st else fin P own ro N F Q (.exit j) st := rfl
theorem fin_blk_r (i : Nat) (st : ASt) : fin P own ro N (.blk i :: F) Q .ret st = fin P own ro N F Q .ret st := rfl
theorem fin_blk_p (i : Nat) (x : AV) (st : ASt) : fin P own ro N (.blk i :: F) Q (.panic x) st = fin P own ro N F Q (.panic x) st := rfl
theorem post_fin (x : AX) (st : ASt) : post P own ro N Q F x st = fin P own ro N F Q x st := rfl
theorem rg_nil (st : ASt) : rg P own ro N F Q [] st = fin P own ro N F Q .normal st := rfl
theorem rg_cons (s : AStep) (r : List AStep) (st : ASt) : rg P own ro N F Q (s :: r) st = gK P own ro N F Q s r st (guardOk st.env s.guard) := by
  unfold rg gK
  rw [wpR]
  cases guardOk st.env s.guard with
  | none => rfl
  | some c =>
    obtain ⟨d, g, act⟩ := s
    cases act <;> rfl
variable (s : AStep) (r : List AStep) (st : ASt)
theorem gK_t : gK P own ro N F Q s r st (some true) = aK P own ro N F Q s r st s.act := by simp [gK]
theorem gK_f : gK P own ro N F Q s r st (some false) = rg P own ro N F Q r { st with env := dropE s.dst st.env } := by simp [gK]
theorem aK_op (ao : AOp) : aK P own ro N F Q s r st (.op ao) = oK P own ro N F Q s r st (opEv ao st.env st.heap st.nx) := rfl
theorem aK_call (f : Operand) (args : List Operand) : aK P own ro N F Q s r st (.call f args) = fK P own ro N F Q s r st (oev st.env f) (oevs st.env args) := rfl
theorem oK_val (x : AV) (h : Heap) (n : Nat) : oK P own ro N F Q s r st (some (.val x, h, n)) = rg P own ro N F Q r { st with env := setE s.dst x st.env, heap := h, nx := n } := rfl
theorem oK_skip (h : Heap) (n : Nat) : oK P own ro N F Q s r st (some (.skip, h, n)) = rg P own ro N F Q r { st with env := dropE s.dst st.env, heap := h, nx := n } := rfl
theorem fK_go (fid : FuncId) (caps xs : List AV) : fK P own ro N F Q s r st (some (.fn (.func fid) caps)) (some xs) = AC P fid (xs ++ caps) st.heap st.nx (rK P own ro N F Q s r st) := rfl
theorem fK_bm (fid : FuncId) (fs caps xs : List AV) : fK P own ro N F Q s r st (some (.bm (.func fid) fs caps)) (some xs) = AC P fid (fs ++ (xs ++ caps)) st.heap st.nx (rK P own ro N F Q s r st) := rfl
theorem fK_yl (b : Nat) (xs : List AV) : fK P own ro N F Q s r st (some (.yl b)) (some xs) = AY P b xs st.heap st.nx (rK P own ro N F Q s r st) := rfl
theorem fK_nx (b : Nat) : fK P own ro N F Q s r st (some (.op b 0)) none = nK P own ro N F Q s r st b := rfl
theorem nK_go (d : Option Tmp) (g : Option (Tmp × Bool)) (f : Operand) (args : List Operand) (b : Nat) : nK P own ro N F Q ⟨d, g, .call f args⟩ r st b = nxP args b st d fun st' => rg P own ro N F Q r st' := rfl
theorem rK_ret (x : AV) (h : Heap) (n : Nat) : rK P own ro N F Q s r st (.ret x) h n = rg P own ro N F Q r { st with env := setE s.dst x st.env, heap := h, nx := n } := rfl
theorem rK_panic (x : AV) (h : Heap) (n : Nat) : rK P own ro N F Q s r st (.panic x) h n = fin P own ro N F Q (.panic x) { st with heap := h, nx := n } := rfl
theorem cK_t (a b : ACode) : cK P own ro N F Q a b st (some (.bool true)) = go P own ro N F Q a st := by simp [cK]
theorem cK_f (a b : ACode) : cK P own ro N F Q a b st (some (.bool false)) = go P own ro N F Q b st := by simp [cK]
def dg (l : List DStep) (pd : Pend) (st : ASt) : Prop := wpD P (post P own ro N Q F) l pd st
def dOK (d : DStep) (r : List DStep) (pd : Pend) (st : ASt) : Option (Out × Heap × Nat) → Prop
  | some (.val x, h, n) => pendOk h (pendKeep d.late pd) ∧ dg P own ro N F Q r (pendKeep d.late pd) { st with env := setE d.s.dst x st.env, heap := h, nx := n }
  | some (.skip, h, n) => pendOk h (pendKeep d.late pd) ∧ dg P own ro N F Q r (pendKeep d.late pd) { st with env := dropE d.s.dst st.env, heap := h, nx := n }
  | none => False
def dQK (d : DStep) (r : List DStep) (pd : Pend) (st : ASt) : Option (Out × Heap × Nat) → Prop
  | some (.val x, _, _) => dg P own ro N F Q r pd { st with env := setE d.s.dst x st.env }
  | _ => False
def dLK2 (d : DStep) (r : List DStep) (pd : Pend) (st : ASt) (sz : Nat) (ag : Bool) (p : AV) : Option AV → Prop
  | some x => dg P own ro N F Q r (if p.isFp = true then pd else (d.i, sz, ag, p, x) :: pd) { st with env := setE d.s.dst x st.env }
  | none => False
def dLK (d : DStep) (r : List DStep) (pd : Pend) (st : ASt) (sz : Nat) (ag : Bool) : Option AV → Prop
  | some p => dLK2 P own ro N F Q d r pd st sz ag p (reload st.heap sz ag p)
  | none => False
def dRK (d : DStep) (r : List DStep) (pd : Pend) (st : ASt) (y : AE) (h : Heap) (n : Nat) : Prop := pendOk h (pendKeep d.late pd) ∧ match y with
  | .ret x => dg P own ro N F Q r (pendKeep d.late pd) { st with env := setE d.s.dst x st.env, heap := h, nx := n }
  | .panic x => fin P own ro N F Q (.panic x) { env := [], heap := h, nx := n, dm := st.dm }
def dFK (d : DStep) (r : List DStep) (pd : Pend) (st : ASt) : Option AV → Option (List AV) → Prop
  | some (.fn (.func fid) caps), some xs => AC P fid (xs ++ caps) st.heap st.nx (dRK P own ro N F Q d r pd st)
  | _, _ => False
def dRZ (d : DStep) (r : List DStep) (pd : Pend) (st : ASt) (y : AE) (h : Heap) (n : Nat) : Prop := (∀ c o, hget st.heap c = some o → hget h c = none) → pendOk (h ++ st.heap) (pendKeep d.late pd) ∧ match y with
  | .ret x => dg P own ro N F Q r (pendKeep d.late pd) { st with env := setE d.s.dst x st.env, heap := h ++ st.heap, nx := n }
  | .panic x => fin P own ro N F Q (.panic x) { env := [], heap := h ++ st.heap, nx := n, dm := st.dm }
def dZK (d : DStep) (r : List DStep) (pd : Pend) (st : ASt) : Option AV → Option (List AV) → Prop
  | some (.fn (.func fid) caps), some xs => AC P fid (xs ++ caps) [] st.nx (dRZ P own ro N F Q d r pd st)
  | _, _ => False
def dAK (d : DStep) (r : List DStep) (pd : Pend) (st : ASt) : AAct → Prop
  | .op (.load sz ag o) => dLK P own ro N F Q d r pd st sz ag (oev st.env o)
  | .op ao => if ao.quiet = true then dQK P own ro N F Q d r pd st (opEv ao st.env st.heap st.nx) else dOK P own ro N F Q d r pd st (opEv ao st.env st.heap st.nx)
  | .call f args => dFK P own ro N F Q d r pd st (oev st.env f) (oevs st.env args)
  | .callZ f args => dZK P own ro N F Q d r pd st (oev st.env f) (oevs st.env args)
def dGK (d : DStep) (r : List DStep) (pd : Pend) (st : ASt) : Option Bool → Prop
  | none => False
  | some c => (c = true → dAK P own ro N F Q d r pd st d.s.act) ∧ (c = false → dg P own ro N F Q r pd { st with env := dropE d.s.dst st.env })
theorem go_dregion (L : List DStep) (st : ASt) : go P own ro N F Q (.dregion L) st = dg P own ro N F Q L [] st := rfl
theorem dg_nil (pd : Pend) (st : ASt) : dg P own ro N F Q [] pd st = fin P own ro N F Q .normal st := rfl
theorem dg_cons (d : DStep) (r : List DStep) (pd : Pend) (st : ASt) : dg P own ro N F Q (d :: r) pd st = dGK P own ro N F Q d r pd st (guardOk st.env d.s.guard) := by
  unfold dg dGK
  rw [wpD]
  cases guardOk st.env d.s.guard with
  | none => rfl
  | some c =>
    simp only
    congr 1
    apply propext
    refine imp_congr_right fun _ => ?_
    cases hact : d.s.act with
    | op ao =>
      unfold dAK
      by_cases hq : ao.quiet = true
      · simp only [hq, if_true]
        cases ao <;> first | (simp [AOp.quiet] at hq; done) | skip
        all_goals
          simp only [dQK]
          try rw [if_pos hq]
          generalize opEv _ st.env st.heap st.nx = o
          rcases o with _ | ⟨o, h, n⟩
          · exact Iff.rfl
          · cases o <;> exact Iff.rfl
      · simp only [hq]
        simp only [Bool.false_eq_true, if_false]
        cases ao
        case load sz ag o =>
          simp only [dLK, dLK2]
          cases oev st.env o with
          | none => exact Iff.rfl
          | some p =>
            simp only
            cases reload st.heap sz ag p with
            | none => exact Iff.rfl
            | some x => exact Iff.rfl
        all_goals first | (exact absurd rfl hq) | skip
        all_goals
          simp only [dOK]
          try rw [if_neg hq]
          generalize opEv _ st.env st.heap st.nx = o
          rcases o with _ | ⟨o, h, n⟩
          · exact Iff.rfl
          · cases o <;> exact Iff.rfl
    | call f args =>
      simp only [dAK, dFK]
      cases oev st.env f with
      | none => exact Iff.rfl
      | some v =>
        cases v <;> exact Iff.rfl
    | callZ f args =>
      simp only [dAK, dZK]
      cases oev st.env f with
      | none => exact Iff.rfl
      | some v =>
        cases v <;> exact Iff.rfl
variable (d : DStep) (r : List DStep) (pd : Pend)
theorem dGK_t : dGK P own ro N F Q d r pd st (some true) = dAK P own ro N F Q d r pd st d.s.act := by simp [dGK]
theorem dGK_f : dGK P own ro N F Q d r pd st (some false) = dg P own ro N F Q r pd { st with env := dropE d.s.dst st.env } := by simp [dGK]
def dS (ao : AOp) : Bool → Bool → Prop
  | true, _ => dQK P own ro N F Q d r pd st (opEv ao st.env st.heap st.nx)
  | false, true => (match ao with
    | .load sz ag o => dLK P own ro N F Q d r pd st sz ag (oev st.env o)
    | _ => False)
  | false, false => dOK P own ro N F Q d r pd st (opEv ao st.env st.heap st.nx)
theorem dAK_op (ao : AOp) : dAK P own ro N F Q d r pd st (.op ao) = dS P own ro N F Q st d r pd ao ao.quiet ao.isLoad := by
  cases ao
  case m o => cases o <;> rfl
  all_goals rfl
theorem dS_q (ao : AOp) (b : Bool) : dS P own ro N F Q st d r pd ao true b = dQK P own ro N F Q d r pd st (opEv ao st.env st.heap st.nx) := rfl
theorem dS_l (sz : Nat) (ag : Bool) (o : Operand) : dS P own ro N F Q st d r pd (.load sz ag o) false true = dLK P own ro N F Q d r pd st sz ag (oev st.env o) := rfl
theorem dS_w (ao : AOp) : dS P own ro N F Q st d r pd ao false false = dOK P own ro N F Q d r pd st (opEv ao st.env st.heap st.nx) := rfl
theorem dAK_call (f : Operand) (args : List Operand) : dAK P own ro N F Q d r pd st (.call f args) = dFK P own ro N F Q d r pd st (oev st.env f) (oevs st.env args) := rfl
theorem dAK_callZ (f : Operand) (args : List Operand) : dAK P own ro N F Q d r pd st (.callZ f args) = dZK P own ro N F Q d r pd st (oev st.env f) (oevs st.env args) := rfl
theorem dZK_go (fid : FuncId) (caps xs : List AV) : dZK P own ro N F Q d r pd st (some (.fn (.func fid) caps)) (some xs) = AC P fid (xs ++ caps) [] st.nx (dRZ P own ro N F Q d r pd st) := rfl
theorem dRZ_ret (x : AV) (h : Heap) (n : Nat) : dRZ P own ro N F Q d r pd st (.ret x) h n = ((∀ c o, hget st.heap c = some o → hget h c = none) → pendOk (h ++ st.heap) (pendKeep d.late pd) ∧ dg P own ro N F Q r (pendKeep d.late pd) { st with env := setE d.s.dst x st.env, heap := h ++ st.heap, nx := n }) := rfl
theorem dLK_go (sz : Nat) (ag : Bool) (p : AV) : dLK P own ro N F Q d r pd st sz ag (some p) = dLK2 P own ro N F Q d r pd st sz ag p (reload st.heap sz ag p) := rfl
theorem dLK2_fp (sz : Nat) (ag : Bool) (cs : List AV) (x : AV) : dLK2 P own ro N F Q d r pd st sz ag (.fp cs) (some x) = dg P own ro N F Q r pd { st with env := setE d.s.dst x st.env } := rfl
theorem dLK2_op (sz : Nat) (ag : Bool) (b o : Nat) (x : AV) : dLK2 P own ro N F Q d r pd st sz ag (.op b o) (some x) = dg P own ro N F Q r ((d.i, sz, ag, .op b o, x) :: pd) { st with env := setE d.s.dst x st.env } := rfl
theorem dQK_val (x : AV) (h : Heap) (n : Nat) : dQK P own ro N F Q d r pd st (some (.val x, h, n)) = dg P own ro N F Q r pd { st with env := setE d.s.dst x st.env } := rfl
theorem dOK_val (x : AV) (h : Heap) (n : Nat) : dOK P own ro N F Q d r pd st (some (.val x, h, n)) = (pendOk h (pendKeep d.late pd) ∧ dg P own ro N F Q r (pendKeep d.late pd) { st with env := setE d.s.dst x st.env, heap := h, nx := n }) := rfl
theorem dOK_skip (h : Heap) (n : Nat) : dOK P own ro N F Q d r pd st (some (.skip, h, n)) = (pendOk h (pendKeep d.late pd) ∧ dg P own ro N F Q r (pendKeep d.late pd) { st with env := dropE d.s.dst st.env, heap := h, nx := n }) := rfl
theorem dFK_go (fid : FuncId) (caps xs : List AV) : dFK P own ro N F Q d r pd st (some (.fn (.func fid) caps)) (some xs) = AC P fid (xs ++ caps) st.heap st.nx (dRK P own ro N F Q d r pd st) := rfl
theorem dRK_ret (x : AV) (h : Heap) (n : Nat) : dRK P own ro N F Q d r pd st (.ret x) h n = (pendOk h (pendKeep d.late pd) ∧ dg P own ro N F Q r (pendKeep d.late pd) { st with env := setE d.s.dst x st.env, heap := h, nx := n }) := rfl
end
section
variable {P : Program} {own : Nat → Nat → Bool} {ro : Option Nat} {N : Nat} {F : List Fr} {Q : AX → ASt → Prop}
theorem AW_go {ac : ACode} {st : ASt} (hm : P.follows .mixedOrders = true) (h : go P own ro N [] Q ac st) : AW P own ro N ac Q st := AW_of hm h
theorem cK_split {a b : ACode} {st : ASt} {c : Bool} (h1 : c = true → go P own ro N F Q a st) (h2 : c = false → go P own ro N F Q b st) : cK P own ro N F Q a b st (some (.bool c)) := ⟨h1, h2⟩
theorem cK_dec {a b : ACode} {st : ASt} {p : Prop} [Decidable p] (h1 : p → go P own ro N F Q a st) (h2 : ¬ p → go P own ro N F Q b st) : cK P own ro N F Q a b st (some (.bool (decide p))) :=
  ⟨fun h => h1 (by simpa using h), fun h => h2 (by simpa using h)⟩
theorem gK_split {s : AStep} {r : List AStep} {st : ASt} {c : Bool} (h1 : c = true → aK P own ro N F Q s r st s.act) (h2 : c = false → rg P own ro N F Q r { st with env := dropE s.dst st.env }) : gK P own ro N F Q s r st (some c) := ⟨h1, h2⟩
theorem go_rounds {b : ACode} {st : ASt} (I : Nat → ASt → Prop) {n : Nat} (hm : P.follows .mixedOrders = true) (h0 : I n st)
    (round : ∀ n s, I n s → go P own ro N [] (AX.then (fun s' => ∃ m, m < n ∧ I m s') (post P own ro N Q F)) b s) : AW P own ro N (.loop b) (post P own ro N Q F) st :=
  AW_loop I h0 fun n s hi => AW_go hm (round n s hi)
theorem AC.go {P : Program} {own : Nat → Nat → Bool} {f : FuncId} {N : Nat} {ac : ACode} {rs : List RV} {xs : List AV} {h : Heap} {nx : Nat} {Q : AE → Heap → Nat → Prop} (hm : P.follows .mixedOrders = true) (hi : Is P own f N ac rs) (hl : xs.length ≤ N)
    (hw : go P own none N [] (Fin rs Q) ac { env := penv 0 xs, heap := h, nx := nx }) : AC P f xs h nx Q := AC.is hi hl (AW_go hm hw)
end
theorem then_n (K : ASt → Prop) (Q : AX → ASt → Prop) (st : ASt) : AX.then K Q .normal st = K st := rfl
theorem then_e (K : ASt → Prop) (Q : AX → ASt → Prop) (i : Nat) (st : ASt) : AX.then K Q (.exit i) st = Q (.exit i) st := rfl
theorem then_r (K : ASt → Prop) (Q : AX → ASt → Prop) (st : ASt) : AX.then K Q .ret st = Q .ret st := rfl
theorem then_p (K : ASt → Prop) (Q : AX → ASt → Prop) (x : AV) (st : ASt) : AX.then K Q (.panic x) st = Q (.panic x) st := rfl
theorem Fin_ret (rs : List RV) (Q : AE → Heap → Nat → Prop) (env : Env) (h : Heap) (n : Nat) : Fin rs Q .ret ⟨env, h, n, []⟩ = (∃ ys, rvsEv env h rs = some ys ∧ Q (.ret (resV ys)) h n) := by simp [Fin, dmOk, dels]
theorem Fin_normal (rs : List RV) (Q : AE → Heap → Nat → Prop) (env : Env) (h : Heap) (n : Nat) : Fin rs Q .normal ⟨env, h, n, []⟩ = (∃ ys, rvsEv env h rs = some ys ∧ Q (.ret (resV ys)) h n) := by simp [Fin, dmOk, dels]
theorem Fin_panic (rs : List RV) (Q : AE → Heap → Nat → Prop) (x : AV) (env : Env) (h : Heap) (n : Nat) : Fin rs Q (.panic x) ⟨env, h, n, []⟩ = Q (.panic x) h n := by simp [Fin, dmOk, dels]
theorem ex_some {α : Type} (x : α) (p : α → Prop) : (∃ y, some x = some y ∧ p y) = p x := by simp
end Go.Ab
namespace Go.Ab
open Go.RowKit Go.ChangeShapes
set_option linter.unusedVariables false
set_option linter.unusedSimpArgs false
def ATl (A : TypeId → List AV → Prop) : List TypeId → List AV → Prop
  | [], xs => xs = []
  | t :: ts, xs => ∃ y z, xs = y ++ z ∧ A t y ∧ ATl A ts z
def AT (P : Program) : Nat → TypeId → List AV → Prop
  | 0, _, _ => False
  | n + 1, t, xs => match P.underlying t with
    | some .bool => ∃ b, xs = [.bool b]
    | some (.int k) => ∃ i, xs = [.int k i] ∧ (Lit.int k i).wf = true
    | some .string => ∃ s, xs = [.str s] ∧ s.length ≤ maxLen
    | some (.slice e) => ∃ es, xs = [.lst (P.cellsOf e) es] ∧ es.length ≤ maxLen ∧ ∀ x ∈ es, x.length = P.cellsOf e ∧ AT P n e x
    | some (.struct fs) => ATl (AT P n) (fs.toList.map (·.type)) xs
    | some (.array m e) => ATl (AT P n) (List.replicate m e) xs
    | some (.pointer e) => xs = [.nilP] ∨ ∃ cs, xs = [.fp cs] ∧ AT P n e cs
    | _ => False
def tiles (P : Program) : Nat → List Field → Option Nat
  | o, [] => some o
  | o, f :: fs => if f.offset = o then tiles P (o + P.cellsOf f.type) fs else none
def okS (P : Program) (S : List TypeId) : Bool := S.all fun t => match P.underlying t with
  | some .bool => true
  | some (.int _) => true
  | some .string => true
  | some (.slice e) => S.contains e
  | some (.struct fs) => fs.toList.all (fun f => S.contains f.type) && tiles P 0 fs.toList == some (P.cellsOf t)
  | some (.array m e) => S.contains e && P.cellsOf t == m * P.cellsOf e
  | some (.pointer e) => S.contains e
  | _ => false
theorem mapM_get {α β : Type} {f : α → Option β} : ∀ {l : List α} {r : List β}, l.mapM f = some r → r.length = l.length ∧ ∀ (i : Nat) (a : α), l[i]? = some a → f a = r[i]?
  | [], r, h => by simp at h; subst h; simp
  | a :: l, r, h => by
    simp only [List.mapM_cons, Option.bind_eq_bind, Option.bind_eq_some_iff, Option.pure_def, Option.some.injEq] at h
    obtain ⟨x, hx, ys, hys, rfl⟩ := h
    obtain ⟨h1, h2⟩ := mapM_get hys
    refine ⟨by simp [h1], fun i b hb => ?_⟩
    cases i with
    | zero => simp at hb; subst hb; simpa using hx
    | succ i => simp at hb; simpa using h2 i b hb
theorem cells_at {w : World} {base : Nat} {a : Addr} {n : Nat} {cs : List Value} (h : w.cells? base a n = some cs) : cs.length = n ∧ ∀ j, j < n → w.cell? (a.add j) = cs[j]? := by
  unfold World.cells? at h
  split at h
  · obtain ⟨h1, h2⟩ := mapM_get h
    exact ⟨by simpa using h1, fun j hj => h2 j j (by simp [hj])⟩
  · cases h
theorem add_add (a : Addr) (i j : Nat) (v : Value) (w : World) (h : w.cell? ((a.add i).add j) = some v) : w.cell? (a.add (i + j)) = some v := by
  unfold Addr.add at h ⊢
  by_cases hi : i = 0
  · subst hi; simpa using h
  · by_cases hj : j = 0
    · subst hj; simpa [hi] using h
    · have : i + j ≠ 0 := by omega
      simp only [hi, hj, this, if_false] at h ⊢
      rw [← h]; congr 2; omega
theorem exists_list {α : Type} {p : Nat → α → Prop} : ∀ (n : Nat), (∀ i, i < n → ∃ x, p i x) → ∃ l : List α, l.length = n ∧ ∀ (i : Nat) (x : α), l[i]? = some x → p i x
  | 0, _ => ⟨[], rfl, fun i x h => by simp at h⟩
  | n + 1, h => by
    obtain ⟨l, h1, h2⟩ := exists_list n fun i hi => h i (by omega)
    obtain ⟨x, hx⟩ := h n (by omega)
    refine ⟨l ++ [x], by simp [h1], fun i y hy => ?_⟩
    rw [List.getElem?_append] at hy
    split at hy
    · exact h2 i y hy
    · have : i = n := by
        have := (List.getElem?_eq_some_iff.1 hy).1
        simp at this; omega
      subst this
      simp [h1] at hy; subst hy; exact hx
theorem cell_lt {w : World} {a : Addr} {v : Value} (h : w.cell? a = some v) : a.block < w.heap.size := by
  unfold World.cell? at h
  split at h
  · rename_i hb; exact lt_of_row hb
  · cases h
section
variable {H : Type} {enc : TypeId × Value → H} {P : Program} {K : Wd} {base : Nat} {spare : Nat → Bool} {held : Bool}
def Old (K : Wd) : Prop := ∀ b o, b < K.w.heap.size → K.Z b o
def wd0 (W : World) : Wd := { w := W, m := fun _ => 0, Z := fun b _ => b < W.heap.size, lo := W.heap.size }
theorem Old.wd0 (W : World) : Old (wd0 W) := fun b o h => h
theorem Good.wd0 (W : World) (hgl : GlR (wd0 W) 0) : Good W (wd0 W) [] 0 := ⟨fun b o hb => by simp [hget] at hb, fun b b' o o' hb => by simp [hget] at hb, Below.refl _ _, fun b off h => h, rfl, hgl⟩
theorem below_all (hl : laidOutB P = true) {W W' : World} (hb : Below W.heap.size W W') : ∀ (ts : List TypeId) (vs : List Value) (ds : List (DataW H)) (ps : List MemPlace), ts.all (fun t => P.readableRec t && decide (t < P.types.size)) = true →
    DataW.TrodAll enc P W 0 (fun _ => true) true ts vs ds ps → DataW.TrodAll enc P W' 0 (fun b => decide (b < W.heap.size)) true ts vs ds ps
  | [], [], [], ps, _, h => h
  | t :: ts, v :: vs, d :: ds, ps, hr, ⟨p, q, h1, h2, h3⟩ => by
    simp only [List.all_cons, Bool.and_eq_true, decide_eq_true_eq] at hr
    refine ⟨p, q, Below.trod hl hr.1.1 hr.1.2 h1 hb (by obtain ⟨m, hm⟩ := h1; exact DataW.trod_lt m _ _ _ hm), below_all hl hb ts vs ds q hr.2 h2, h3⟩
  | [], _ :: _, _, _, _, h => by simp [DataW.TrodAll] at h
  | [], [], _ :: _, _, _, h => by simp [DataW.TrodAll] at h
  | _ :: _, [], _, _, _, h => by simp [DataW.TrodAll] at h
  | _ :: _, _ :: _, [], _, _, h => by simp [DataW.TrodAll] at h
theorem argR_nil {K : Wd} {nx : Nat} : ArgR K nx [] #[] := ⟨rfl, fun i x v hx => by simp at hx⟩
theorem argR_cons {K : Wd} {nx : Nat} {x : AV} {xs : List AV} {v : Value} {vs : List Value} (h : VR K nx x v) (hr : ArgR K nx xs vs.toArray) : ArgR K nx (x :: xs) (v :: vs).toArray := by
  refine ⟨by have := hr.1; simp at this ⊢; exact this, fun i y u hy hu => ?_⟩
  cases i with
  | zero => simp at hy hu; subst hy; subst hu; exact h
  | succ i => exact hr.2 i y u (by simpa using hy) (by simpa using hu)
theorem law_calls {f : FuncId} {xs : List AV} {W : World} {args : Array Value} (hc : AC P f xs [] 0 fun y _ _ => y = .ret (.bool true)) (ha : ArgR (wd0 W) 0 xs args) (hgl : GlR (wd0 W) 0 := by intro g cs h; cases h) : Calls P f args W fun e W' => e = .returned (.bool true) ∧ Below W.heap.size W W' := by
  refine (hc.2 W (wd0 W) args (Good.wd0 W hgl) ha).mono ?_
  rintro e w' ⟨K', h', nx', y, rfl, hext, hgood, her, rfl⟩
  cases e <;> simp only [AER] at her
  cases her
  exact ⟨rfl, hgood.below⟩
end
end Go.Ab
namespace Go.Ab
open Go.RowKit
set_option linter.unusedVariables false
set_option linter.unusedSimpArgs false
def OwnSl (e sz : Nat) (h : Heap) (nx : Nat) (x : AV) (es : List (List AV)) : Prop :=
  (x = .nilS ∧ es = []) ∨ ∃ b, x = .os b 0 e sz es.length ∧ hget h b = some (.cells es.flatten) ∧ b < nx
theorem OwnSl.mono {e sz : Nat} {h : Heap} {nx nx' : Nat} {x : AV} {es : List (List AV)} (ho : OwnSl e sz h nx x es) (hle : nx ≤ nx') : OwnSl e sz h nx' x es := by
  rcases ho with ho | ⟨b, h1, h2, h3⟩
  · exact .inl ho
  · exact .inr ⟨b, h1, h2, by omega⟩
theorem OwnSl.front {e sz : Nat} {h' h : Heap} {nx : Nat} {x : AV} {es : List (List AV)} (ho : OwnSl e sz h' nx x es) : OwnSl e sz (h' ++ h) nx x es := by
  rcases ho with ho | ⟨b, h1, h2, h3⟩
  · exact .inl ho
  · exact .inr ⟨b, h1, by rw [hget_append, h2]; rfl, h3⟩
theorem OwnSl.len {e sz : Nat} {h : Heap} {nx : Nat} {x : AV} {es : List (List AV)} (ho : OwnSl e sz h nx x es) : lenA x = some es.length := by
  rcases ho with ⟨rfl, rfl⟩ | ⟨b, rfl, _, _⟩ <;> rfl
theorem OwnSl.frz {e sz : Nat} {h : Heap} {nx : Nat} {x : AV} {es : List (List AV)} (ho : OwnSl e sz h nx x es) (hs : ∀ z ∈ es, z.length = sz) : ∃ h', Frz h x h' (.lst sz es) := by
  rcases ho with ⟨rfl, rfl⟩ | ⟨b, rfl, hb, _⟩
  · exact ⟨h, Frz.nilS h sz⟩
  · exact ⟨hdel h b, Frz.os hb hs rfl⟩
theorem OwnSl.frz2 {e sz : Nat} {h : Heap} {nx : Nat} {x : AV} {es : List (List AV)} (ho : OwnSl e sz h nx x es) (hs : ∀ z ∈ es, z.length = sz) : ∃ h', Frz h x h' (.lst sz es) ∧ ∀ c o, hget h c = some o → (∀ y, x ≠ .os c 0 e sz y) → hget h' c = some o := by
  rcases ho with ⟨rfl, rfl⟩ | ⟨b, rfl, hb, _⟩
  · exact ⟨h, Frz.nilS h sz, fun c o hc _ => hc⟩
  · refine ⟨hdel h b, Frz.os hb hs rfl, fun c o hc hne => ?_⟩
    rw [hget_hdel, if_neg]
    · exact hc
    · intro e; subst e; exact hne _ rfl
theorem OwnSl.idx {e sz : Nat} {h : Heap} {nx : Nat} {x : AV} {es : List (List AV)} (ho : OwnSl e sz h nx x es) (hs : ∀ z ∈ es, z.length = sz) {i : Nat} {r : List AV} (hr : es[i]? = some r) :
    ∃ b off, idxA sz x (i : Int) = some (.op b off) ∧ ∃ cs, ptrCells h (.op b off) = some cs ∧ cs.take sz = r ∧ ∀ (j : Nat), j < sz → cs[j]? = r[j]? := by
  have hi := (List.getElem?_eq_some_iff.1 hr).1
  rcases ho with ⟨rfl, rfl⟩ | ⟨b, rfl, hb, _⟩
  · simp at hi
  · have hp : ptrCells h (.op b (0 + i * sz)) = some (es.flatten.drop (0 + i * sz)) := by simp only [ptrCells, hb]
    refine ⟨b, 0 + i * sz, ?_, es.flatten.drop (0 + i * sz), hp, ?_, fun j hj => ?_⟩
    · have : (i : Int) < (es.length : Int) := by omega
      simp [idxA, this]
    · have hrl := hs r (List.mem_of_getElem? hr)
      apply List.ext_getElem?
      intro j
      rw [List.getElem?_take, List.getElem?_drop]
      split
      · rename_i hj
        have : r[j]? = some (r[j]'(by omega)) := List.getElem?_eq_getElem (by omega)
        rw [this, Nat.zero_add]
        exact flat_at hs i r hr j _ this
      · rw [List.getElem?_eq_none (by omega)]
    · have hrl := hs r (List.mem_of_getElem? hr)
      have : r[j]? = some (r[j]'(by omega)) := List.getElem?_eq_getElem (by omega)
      rw [List.getElem?_drop, this, Nat.zero_add]
      exact flat_at hs i r hr j _ this
theorem OwnSl.app {e sz bytes : Nat} {h : Heap} {nx : Nat} {x : AV} {es ns : List (List AV)} (ho : OwnSl e sz h nx x es) (hs : ∀ z ∈ es, z.length = sz) (hn : ∀ z ∈ ns, z.length = sz)
    (h1 : (es.length + ns.length) * bytes ≤ 140737488355328) (h2 : es.length + ns.length ≤ maxLen) :
    ∃ x' h' n', appA e sz bytes h nx x (.lst sz ns) = some (x', h', n') ∧ OwnSl e sz h' n' x' (es ++ ns) ∧ nx ≤ n' ∧ (∀ c o, c < nx → hget h c = some o → (∀ y, x ≠ .os c 0 e sz y) → hget h' c = some o) ∧ ∀ c y, x' = .os c 0 e sz y → nx ≤ c ∨ ∃ y', x = .os c 0 e sz y' := by
  have hsc : sliceCells h (.lst sz ns) = some (ns.length, ns.flatten) := rfl
  have hsz : slSz (.lst sz ns) sz = true := by simp [slSz]
  have hf : (es ++ ns).flatten = es.flatten ++ ns.flatten := by simp
  rcases ho with ⟨rfl, rfl⟩ | ⟨b, rfl, hb, hlt⟩
  · simp only [List.length_nil, Nat.zero_add] at h1 h2
    simp only [appA, hsc, hsz, if_true]
    by_cases h0 : ns.length = 0
    · rw [if_pos h0]
      exact ⟨_, _, _, rfl, .inl ⟨rfl, by simpa using h0⟩, Nat.le_refl _, fun c o _ hc _ => hc, fun c y h => by cases h⟩
    · rw [if_neg h0, if_pos ⟨h1, h2⟩]
      refine ⟨_, _, _, rfl, .inr ⟨nx, by simp, by simp [hget_cons], by omega⟩, by omega, fun c o hlt hc _ => ?_, fun c y h => by cases h; exact .inl (Nat.le_refl _)⟩
      rw [hget_cons, if_neg (by omega)]; exact hc
  · simp only [appA, hsc, hsz, if_true, hb]
    rw [if_pos ⟨trivial, trivial, trivial, flat_len hs, h1, h2⟩]
    by_cases h0 : ns.length = 0
    · rw [if_pos h0]
      have : ns = [] := by simpa using h0
      subst this
      exact ⟨_, _, _, rfl, .inr ⟨b, by simp, by simpa using hb, hlt⟩, Nat.le_refl _, fun c o _ hc _ => hc, fun c y h => .inr ⟨y, h⟩⟩
    · rw [if_neg h0]
      refine ⟨_, _, _, rfl, .inr ⟨nx, by simp, by simp [hget_cons], by omega⟩, by omega, fun c o hlt hc hne => ?_, fun c y h => by cases h; exact .inl (Nat.le_refl _)⟩
      rw [hget_cons, if_neg (by omega), hget_hdel, if_neg]
      · exact hc
      · intro e; subst e; exact hne _ rfl
theorem AC.own {P : Program} {f : FuncId} {xs : List AV} {e sz : Nat} {es : List (List AV)} (hc : ∀ nx, AC P f xs [] nx fun y h' n' => ∃ v, y = .ret v ∧ OwnSl e sz h' n' v es) (h : Heap) (nx : Nat) :
    AC P f xs h nx fun y h'' n' => ∃ v h', y = .ret v ∧ h'' = h' ++ h ∧ nx ≤ n' ∧ (∀ c o, hget h c = some o → hget h' c = none) ∧ OwnSl e sz h' n' v es :=
  ((hc nx).frame h).mono fun y h'' n' ⟨h', e1, e2, e3, v, e4, e5⟩ => ⟨v, h', e4, e1, e2, e3, e5⟩
theorem Pure.own {P : Program} {f : FuncId} {xs : List AV} {e sz : Nat} {es : List (List AV)} (hs : ∀ x ∈ es, x.length = sz) (hc : ∀ nx, AC P f xs [] nx fun y h' n' => ∃ v, y = .ret v ∧ OwnSl e sz h' n' v es) : Pure P f xs (.lst sz es) :=
  Pure.of fun nx => AC.frz ((hc nx).mono fun y h' n' ⟨v, e1, ho⟩ => by
    subst e1
    obtain ⟨h2, hf⟩ := ho.frz hs
    exact ⟨h2, _, hf, rfl⟩)
theorem Frz.trans {h h1 h2 : Heap} {x x1 x2 : AV} (f1 : Frz h x h1 x1) (f2 : Frz h1 x1 h2 x2) : Frz h x h2 x2 := fun w0 K nx v g hv => by
  obtain ⟨K1, a1, a2, a3, a4⟩ := f1 w0 K nx v g hv
  obtain ⟨K2, b1, b2, b3, b4⟩ := f2 w0 K1 nx v a3 a4
  exact ⟨K2, b1.trans a1, a2.trans b2, b3, b4⟩
theorem Good.short {w0 : World} {K : Wd} {h : Heap} {nx b : Nat} {cs rest : List AV} (g : Good w0 K h nx) (hb : hget h b = some (.cells (cs ++ rest))) : Good w0 K (hset h b (.cells cs)) nx := by
  have old : ∀ k o, hget (hset h b (.cells cs)) k = some o → ∃ o', hget h k = some o' := by
    intro k o hk
    rw [hget_hset] at hk
    split at hk
    · rename_i e; subst e; exact ⟨_, hb⟩
    · exact ⟨o, hk⟩
  refine ⟨fun k o hk => ?_, fun k k' o o' hk hk' e => ?_, g.below, g.zin, g.lo, g.gl⟩
  · rw [hget_hset] at hk
    split at hk
    · rename_i e; subst e
      injection hk with hk; subst hk
      obtain ⟨h1, h2, h3, ob, h4, h5⟩ := g.live _ _ hb
      refine ⟨h1, h2, h3, ob, h4, ?_⟩
      cases h5 with
      | cells _ c e hs h1 hc =>
        refine .cells cs c e (by simp at hs; omega) (fun i x hx => h1 i x ?_) fun i x v hx hv => hc i x v ?_ hv
        · rw [List.getElem?_append_left (List.getElem?_eq_some_iff.1 hx).1]; exact hx
        · rw [List.getElem?_append_left (List.getElem?_eq_some_iff.1 hx).1]; exact hx
    · exact g.live k o hk
  · obtain ⟨p, hp⟩ := old k o hk
    obtain ⟨q, hq⟩ := old k' o' hk'
    exact g.inj k k' p q hp hq e
theorem Frz.short {h : Heap} {b : Nat} {cs rest : List AV} (hb : hget h b = some (.cells (cs ++ rest))) (x : AV) : Frz h x (hset h b (.cells cs)) x := fun w0 K nx v g hv => ⟨K, rfl, Ext.refl _ _, g.short hb, hv⟩
theorem Frz.osP {h : Heap} {b sz n : Nat} {e : TypeId} {es : List (List AV)} {rest : List AV} (hb : hget h b = some (.cells (es.flatten ++ rest))) (hs : ∀ x ∈ es, x.length = sz) (hn : n = es.length) : Frz h (.os b 0 e sz n) (hdel (hset h b (.cells es.flatten)) b) (.lst sz es) :=
  (Frz.short hb _).trans (Frz.os (by rw [hget_hset, if_pos rfl]) hs hn)
section
variable {P : Program} {f : FuncId} {h h' : Heap} {nx : Nat} {Q : AE → Heap → Nat → Prop} {x x' : AV}
theorem AC.ice (pre post : List AV) (hf : Frz h x h' x') (hc : AC P f (pre ++ x' :: post) h' nx Q) : AC P f (pre ++ x :: post) h nx Q := by
  refine ⟨hc.1, fun w0 K args hg ha => ?_⟩
  have hlen := ha.1
  have hi : pre.length < args.size := by rw [hlen]; simp
  have hx : (pre ++ x :: post)[pre.length]? = some x := by simp
  obtain ⟨K', e1, e2, e3, e4⟩ := hf w0 K nx args[pre.length] hg (ha.2 _ x _ hx (Array.getElem?_eq_getElem hi))
  have ha' : ArgR K' nx (pre ++ x' :: post) args := by
    refine ⟨by rw [hlen]; simp, fun i y v hy hv => ?_⟩
    by_cases h : i = pre.length
    · subst h
      simp at hy; subst hy
      rw [Array.getElem?_eq_getElem hi] at hv; injection hv with hv; subst hv
      exact e4
    · refine (ha.2 i y v ?_ hv).mono e2
      rw [← hy]
      rw [List.getElem?_append, List.getElem?_append]
      split
      · rfl
      · rename_i h2
        obtain ⟨j, hj⟩ : ∃ j, i - pre.length = j + 1 := ⟨i - pre.length - 1, by omega⟩
        rw [hj]; rfl
  have := hc.2 w0 K' args e3 ha'
  rw [e1] at this
  exact this.mono fun e w' ⟨K2, h2, n2, y, a1, a2, a3, a4, a5⟩ => ⟨K2, h2, n2, y, a1, e2.trans a2, a3, a4, a5⟩
theorem AC.ice0 {r : List AV} (hf : Frz h x h' x') (hc : AC P f (x' :: r) h' nx Q) : AC P f (x :: r) h nx Q := AC.ice [] r hf hc
theorem AC.ice1 {y : AV} {r : List AV} (hf : Frz h x h' x') (hc : AC P f (y :: x' :: r) h' nx Q) : AC P f (y :: x :: r) h nx Q := AC.ice [y] r hf hc
theorem AC.ice2 {y z : AV} {r : List AV} (hf : Frz h x h' x') (hc : AC P f (y :: z :: x' :: r) h' nx Q) : AC P f (y :: z :: x :: r) h nx Q := AC.ice [y, z] r hf hc
end
end Go.Ab
namespace Go.Ab
open Go.RowKit
set_option linter.unusedVariables false
set_option linter.unusedSimpArgs false
theorem OwnSl.set {e sz : Nat} {h : Heap} {nx : Nat} {x : AV} {es : List (List AV)} (ho : OwnSl e sz h nx x es) (hs : ∀ z ∈ es, z.length = sz) {i : Nat} {z : List AV} (hz : z.length = sz) (hi : i < es.length) :
    ∃ p h', idxA sz x (i : Int) = some p ∧ p.isFp = false ∧ storeH h p z = some h' ∧ OwnSl e sz h' nx x (es.set i z) ∧ ∀ c o, hget h c = some o → (∀ y, x ≠ .os c 0 e sz y) → hget h' c = some o := by
  rcases ho with ⟨rfl, rfl⟩ | ⟨b, rfl, hb, hlt⟩
  · simp at hi
  · have hfl : es.flatten.length = es.length * sz := flat_len hs
    have hle : i * sz + sz ≤ es.length * sz := by
      have := Nat.mul_le_mul_right sz (show i + 1 ≤ es.length by omega)
      rw [Nat.add_mul, Nat.one_mul] at this; exact this
    refine ⟨.op b (0 + i * sz), hset h b (.cells (splice es.flatten (0 + i * sz) z)), ?_, rfl, ?_, .inr ⟨b, by simp, ?_, hlt⟩, fun c o hc hne => ?_⟩
    · have : (i : Int) < (es.length : Int) := by omega
      simp [idxA, this]
    · simp only [storeH, hb]
      rw [if_pos (by omega)]
    · rw [hget_hset, if_pos rfl, flatten_set es i z hs hz hi, Nat.zero_add]
    · rw [hget_hset, if_neg]
      · exact hc
      · intro e; subst e; exact hne _ rfl
theorem Pure.frz {P : Program} {f : FuncId} {xs : List AV} {r : AV} (hc : ∀ nx, AC P f xs [] nx fun y h' n' => ∃ v h2, y = .ret v ∧ Frz h' v h2 r) : Pure P f xs r :=
  Pure.of fun nx => AC.frz ((hc nx).mono fun y h' n' ⟨v, h2, e1, hf⟩ => by subst e1; exact ⟨h2, _, hf, rfl⟩)
theorem set_len {sz : Nat} {es : List (List AV)} (hs : ∀ z ∈ es, z.length = sz) {i : Nat} {z : List AV} (hz : z.length = sz) : ∀ y ∈ es.set i z, y.length = sz := fun y hy => by
  rcases List.mem_or_eq_of_mem_set hy with h | h
  · exact hs y h
  · subst h; exact hz
def exitJ (i : Nat) (J : ASt → Prop) (Q : AX → ASt → Prop) : AX → ASt → Prop
  | .exit k, s => if k = i then J s else Q (.exit k) s
  | x, s => Q x s
theorem exitJ_e (i k : Nat) (J : ASt → Prop) (Q : AX → ASt → Prop) (s : ASt) : exitJ i J Q (.exit k) s = if k = i then J s else Q (.exit k) s := rfl
theorem exitJ_r (i : Nat) (J : ASt → Prop) (Q : AX → ASt → Prop) (s : ASt) : exitJ i J Q .ret s = Q .ret s := rfl
theorem exitJ_p (i : Nat) (J : ASt → Prop) (Q : AX → ASt → Prop) (x : AV) (s : ASt) : exitJ i J Q (.panic x) s = Q (.panic x) s := rfl
theorem exitJ_n (i : Nat) (J : ASt → Prop) (Q : AX → ASt → Prop) (s : ASt) : exitJ i J Q .normal s = Q .normal s := rfl
theorem go_roundsJ {P : Program} {own : Nat → Nat → Bool} {ro : Option Nat} {N : Nat} {F : List Fr} {Q : AX → ASt → Prop} {b : ACode} {st : ASt} (I : Nat → ASt → Prop) (i : Nat) (J : ASt → Prop) {n : Nat} (hm : P.follows .mixedOrders = true) (h0 : I n st)
    (round : ∀ n s, I n s → go P own ro N [] (AX.then (fun s' => ∃ m, m < n ∧ I m s') (exitJ i J (post P own ro N Q F))) b s) (rest : ∀ s, J s → post P own ro N Q F (.exit i) s) : AW P own ro N (.loop b) (post P own ro N Q F) st :=
  (AW_loop (Q := exitJ i J (post P own ro N Q F)) I h0 fun n s hi => AW_go hm (round n s hi)).mono fun x s hx => by
    cases x with
    | exit k =>
      rw [exitJ_e] at hx
      split at hx
      · rename_i e; subst e; exact rest s hx
      · exact hx
    | normal => exact hx
    | ret => exact hx
    | panic x => exact hx
end Go.Ab
namespace Go.Ab
open Go.RowKit
set_option linter.unusedVariables false
set_option linter.unusedSimpArgs false
def blkOf : AV → Option Nat
  | .os b _ _ _ _ => some b
  | _ => none
def apart (x y : AV) : Prop := ∀ b, blkOf x = some b → blkOf y = some b → False
theorem apart.symm {x y : AV} (h : apart x y) : apart y x := fun b h1 h2 => h b h2 h1
theorem OwnSl.blk {e sz : Nat} {h : Heap} {nx : Nat} {x : AV} {es : List (List AV)} (ho : OwnSl e sz h nx x es) {b : Nat} (hb : blkOf x = some b) : x = .os b 0 e sz es.length ∧ hget h b = some (.cells es.flatten) ∧ b < nx := by
  rcases ho with ⟨rfl, rfl⟩ | ⟨b', rfl, h1, h2⟩
  · simp [blkOf] at hb
  · simp [blkOf] at hb; subst hb; exact ⟨rfl, h1, h2⟩
theorem OwnSl.keep {e sz : Nat} {h h' : Heap} {nx nx' : Nat} {x : AV} {es : List (List AV)} (ho : OwnSl e sz h nx x es) (hle : nx ≤ nx') (hk : ∀ b o, blkOf x = some b → hget h b = some o → hget h' b = some o) : OwnSl e sz h' nx' x es := by
  rcases ho with ho | ⟨b, rfl, h1, h2⟩
  · exact .inl ho
  · exact .inr ⟨b, rfl, hk b _ rfl h1, by omega⟩
theorem OwnSl.back {e sz : Nat} {h h' : Heap} {nx nx' : Nat} {x : AV} {es : List (List AV)} (ho : OwnSl e sz h nx x es) (hle : nx ≤ nx') (hd : ∀ c o, hget h c = some o → hget h' c = none) : OwnSl e sz (h' ++ h) nx' x es :=
  ho.keep hle fun b o hb hg => by rw [hget_append, hd b o hg]; exact hg
theorem OwnSl.apart_new {e sz e' sz' : Nat} {h h' : Heap} {nx n' : Nat} {x y : AV} {es es' : List (List AV)} (ho : OwnSl e sz h nx x es) (hn : OwnSl e' sz' h' n' y es') (hd : ∀ c o, hget h c = some o → hget h' c = none) : apart x y := fun b h1 h2 => by
  obtain ⟨_, h3, _⟩ := ho.blk h1
  obtain ⟨_, h4, _⟩ := hn.blk h2
  rw [hd b _ h3] at h4; cases h4
theorem apart_ne {x : AV} {b e sz : Nat} (h : ∀ b', blkOf x = some b' → b' ≠ b) : ∀ y, x ≠ .os b 0 e sz y := by
  rintro y rfl
  exact h b rfl rfl
theorem flat_put {sz : Nat} : ∀ (es : List (List AV)) (i off : Nat) (v : AV) (r : List AV), (∀ z ∈ es, z.length = sz) → es[i]? = some r → off < sz → (es.set i (r.set off v)).flatten = es.flatten.set (i * sz + off) v
  | [], i, off, v, r, _, hi, _ => by simp at hi
  | z :: es, 0, off, v, r, hs, hr, ho => by
    have hz := hs z (by simp)
    simp at hr; subst hr
    simp only [List.set_cons_zero, List.flatten_cons, Nat.zero_mul, Nat.zero_add]
    rw [List.set_append_left _ _ (by omega)]
  | z :: es, i + 1, off, v, r, hs, hr, ho => by
    have hz := hs z (by simp)
    have ih := flat_put es i off v r (fun y hy => hs y (by simp [hy])) (by simpa using hr) ho
    simp only [List.set_cons_succ, List.flatten_cons, ih]
    rw [List.set_append_right _ _ (by rw [hz, Nat.succ_mul]; omega)]
    congr 2
    rw [hz, Nat.succ_mul]; omega
theorem splice_one (cs : List AV) (k : Nat) (v : AV) (hk : k < cs.length) : splice cs k [v] = cs.set k v := by
  simp only [splice, List.length_cons, List.length_nil, Nat.zero_add]
  rw [List.set_eq_take_append_cons_drop, if_pos hk]; rfl
theorem OwnSl.put {e sz : Nat} {h : Heap} {nx : Nat} {x : AV} {es : List (List AV)} (ho : OwnSl e sz h nx x es) (hs : ∀ z ∈ es, z.length = sz) {i off : Nat} {r : List AV} (hr : es[i]? = some r) (hoff : off < sz) (v : AV) :
    ∃ b o h', idxA sz x (i : Int) = some (.op b o) ∧ storeH h (.op b (o + off)) [v] = some h' ∧ OwnSl e sz h' nx x (es.set i (r.set off v)) ∧ ∀ c a, hget h c = some a → (∀ b', blkOf x = some b' → b' ≠ c) → hget h' c = some a := by
  have hi := (List.getElem?_eq_some_iff.1 hr).1
  rcases ho with ⟨rfl, rfl⟩ | ⟨b, rfl, hb, hlt⟩
  · simp at hi
  · have hfl : es.flatten.length = es.length * sz := flat_len hs
    have hle : i * sz + sz ≤ es.length * sz := by
      have := Nat.mul_le_mul_right sz (show i + 1 ≤ es.length by omega)
      rw [Nat.add_mul, Nat.one_mul] at this; exact this
    refine ⟨b, 0 + i * sz, hset h b (.cells (splice es.flatten (0 + i * sz + off) [v])), ?_, ?_, .inr ⟨b, by simp, ?_, hlt⟩, fun c a hc hne => ?_⟩
    · have : (i : Int) < (es.length : Int) := by omega
      simp [idxA, this]
    · simp only [storeH, hb]
      rw [if_pos (by show 0 + i * sz + off + 1 ≤ _; omega)]
    · rw [hget_hset, if_pos rfl, flat_put es i off v r hs hr hoff, Nat.zero_add, splice_one _ _ _ (by omega)]
    · rw [hget_hset, if_neg]
      · exact hc
      · intro e; exact hne b rfl e
theorem put_len {sz : Nat} {es : List (List AV)} (hs : ∀ z ∈ es, z.length = sz) {i off : Nat} {r : List AV} (hr : es[i]? = some r) (v : AV) : ∀ y ∈ es.set i (r.set off v), y.length = sz := fun y hy => by
  rcases List.mem_or_eq_of_mem_set hy with h | h
  · exact hs y h
  · subst h; rw [List.length_set]; exact hs r (List.mem_of_getElem? hr)
theorem OwnSl.cell {e sz : Nat} {h : Heap} {nx : Nat} {x : AV} {es : List (List AV)} (ho : OwnSl e sz h nx x es) (hs : ∀ z ∈ es, z.length = sz) {i off : Nat} {r : List AV} {c : AV} (hr : es[i]? = some r) (hc : r[off]? = some c) :
    ∃ b o rest, idxA sz x (i : Int) = some (.op b o) ∧ ptrCells h (.op b (o + off)) = some (c :: rest) := by
  have hi := (List.getElem?_eq_some_iff.1 hr).1
  rcases ho with ⟨rfl, rfl⟩ | ⟨b, rfl, hb, hlt⟩
  · simp at hi
  · refine ⟨b, 0 + i * sz, es.flatten.drop (0 + i * sz + off + 1), ?_, ?_⟩
    · have : (i : Int) < (es.length : Int) := by omega
      simp [idxA, this]
    · have hat := flat_at hs i r hr off c hc
      simp only [ptrCells, hb]
      congr 1
      rw [Nat.zero_add]
      have hlt := (List.getElem?_eq_some_iff.1 hat).1
      rw [List.drop_eq_getElem_cons hlt]
      congr 1
      exact (List.getElem?_eq_some_iff.1 hat).2
theorem OwnSl.row {e sz : Nat} {h : Heap} {nx : Nat} {x : AV} {es : List (List AV)} (ho : OwnSl e sz h nx x es) (hs : ∀ z ∈ es, z.length = sz) {i : Nat} {r : List AV} (hr : es[i]? = some r) :
    ∃ b o cs, idxA sz x (i : Int) = some (.op b o) ∧ ptrCells h (.op b o) = some cs ∧ cs.take sz = r := by
  obtain ⟨b, o, h1, cs, h2, h3, _⟩ := ho.idx hs hr
  exact ⟨b, o, cs, h1, h2, h3⟩
theorem AC.split0 {P : Program} {f : FuncId} {h : Heap} {nx : Nat} {Q : AE → Heap → Nat → Prop} {sz : Nat} (pre post : List AV) (h1 : AC P f (pre ++ .nilS :: post) h nx Q) (h2 : AC P f (pre ++ .ne0 :: post) h nx Q) : AC P f (pre ++ .lst sz [] :: post) h nx Q := by
  refine ⟨h1.1, fun w0 K args hg ha => ?_⟩
  have hlen := ha.1
  have hi : pre.length < args.size := by rw [hlen]; simp
  have hv := ha.2 pre.length (.lst sz []) args[pre.length] (by simp) (Array.getElem?_eq_getElem hi)
  have key : ∀ x, VR K nx x args[pre.length] → ArgR K nx (pre ++ x :: post) args := by
    intro x hx
    refine ⟨by rw [hlen]; simp, fun i y v hy hv => ?_⟩
    by_cases h : i = pre.length
    · subst h
      simp at hy; subst hy
      rw [Array.getElem?_eq_getElem hi] at hv; injection hv with hv; subst hv
      exact hx
    · refine ha.2 i y v ?_ hv
      rw [← hy, List.getElem?_append, List.getElem?_append]
      split
      · rfl
      · obtain ⟨j, hj⟩ : ∃ j, i - pre.length = j + 1 := ⟨i - pre.length - 1, by omega⟩
        rw [hj]; rfl
  generalize args[pre.length] = u at hv key
  cases hv with
  | lst0 _ _ A n cap h0 hn hA =>
    subst hn
    cases A with
    | none =>
      obtain rfl := hA rfl
      exact h1.2 w0 K args hg (key _ .nilS)
    | some a => exact h2.2 w0 K args hg (key _ (.ne0 a cap))
  | lst _ _ a n cap c hn hc hcap hsz _ hr _ =>
    simp at hn; subst hn
    exact h2.2 w0 K args hg (key _ (.ne0 a cap))
end Go.Ab
namespace Go.Ab
open Go.RowKit
set_option linter.unusedVariables false
set_option linter.unusedSimpArgs false
def AX.isPanic : AX → Bool
  | .panic _ => true
  | _ => false
theorem AW.exitIce {P : Program} {own : Nat → Nat → Bool} {ro : Option Nat} {N : Nat} {Q0 Q : AX → ASt → Prop} {st : ASt} {ac : ACode} (h : AW P own ro N ac Q0 st)
    (hq : ∀ x s, Q0 x s → Q x s ∨ (x.isPanic = false ∧ ∃ t y y' h', eget s.env t = some y ∧ Frz s.heap y h' y' ∧ Q x { s with env := (t, y') :: s.env, heap := h' })) : AW P own ro N ac Q st := by
  intro c hc w0 K a hs
  refine wpIn_mono (h c hc w0 K a hs) ?_
  rintro e a' w' ⟨K', st', x, h1, h2, h3, h4, h5⟩
  rcases hq x st' h5 with h6 | ⟨hx, t, y, y', h', g1, g2, g3⟩
  · exact ⟨K', st', x, h1, h2, h3, h4, h6⟩
  · obtain ⟨v, k1, k2⟩ := h3.env t y g1
    obtain ⟨K2, e1, e2, e3, e4⟩ := g2 w0 K' st'.nx v h3.good k2
    refine ⟨K2, { st' with env := (t, y') :: st'.env, heap := h' }, x, by rw [e1]; exact h1, h2.trans e2, ⟨e3, fun u z hz => ?_, h3.size, by rw [h3.defers]; exact (marks_ext e2 h3.dm).symm, h3.dm⟩, ?_, g3⟩
    · rw [eget_cons] at hz
      split at hz
      · rename_i e; subst e
        injection hz with hz; subst hz
        exact ⟨v, k1, e4⟩
      · obtain ⟨u', k3, k4⟩ := h3.env u z hz
        exact ⟨u', k3, k4.mono e2⟩
    · cases x <;> cases e <;> simp only [AXR] at h4 ⊢ <;> first | exact h4 | (simp [AX.isPanic] at hx; done)
theorem go_roundsF {P : Program} {own : Nat → Nat → Bool} {ro : Option Nat} {N : Nat} {F : List Fr} {Q : AX → ASt → Prop} {b : ACode} {st : ASt} (I : Nat → ASt → Prop) (i : Nat) (J : ASt → Prop) {n : Nat} (hm : P.follows .mixedOrders = true) (h0 : I n st)
    (round : ∀ n s, I n s → go P own ro N [] (AX.then (fun s' => ∃ m, m < n ∧ I m s') (exitJ i J (post P own ro N Q F))) b s)
    (rest : ∀ s, J s → ∃ t y y' h', eget s.env t = some y ∧ Frz s.heap y h' y' ∧ post P own ro N Q F (.exit i) { s with env := (t, y') :: s.env, heap := h' }) : AW P own ro N (.loop b) (post P own ro N Q F) st :=
  (AW_loop (Q := exitJ i J (post P own ro N Q F)) I h0 fun n s hi => AW_go hm (round n s hi)).exitIce fun x s hx => by
    cases x with
    | exit k =>
      rw [exitJ_e] at hx
      split at hx
      · rename_i e; subst e; exact .inr ⟨rfl, rest s hx⟩
      · exact .inl hx
    | normal => exact .inl hx
    | ret => exact .inl hx
    | panic x => exact .inl hx
def Grw (e sz : Nat) (h : Heap) (nx : Nat) (v : AV) (h' : Heap) (n' : Nat) (v' : AV) (es' : List (List AV)) : Prop :=
  OwnSl e sz h' n' v' es' ∧ nx ≤ n' ∧ (∀ c o, c < nx → hget h c = some o → blkOf v ≠ some c → hget h' c = some o) ∧ ∀ c, blkOf v' = some c → nx ≤ c ∨ blkOf v = some c
theorem Grw.refl {e sz : Nat} {h : Heap} {nx : Nat} {v : AV} {es : List (List AV)} (ho : OwnSl e sz h nx v es) {n' : Nat} (hle : nx ≤ n') : Grw e sz h nx v h n' v es :=
  ⟨ho.mono hle, hle, fun c o _ hc _ => hc, fun c hc => .inr hc⟩
theorem Grw.trans {e sz : Nat} {h h1 h2 : Heap} {nx n1 n2 : Nat} {v v1 v2 : AV} {es1 es2 : List (List AV)} (a : Grw e sz h nx v h1 n1 v1 es1) (b : Grw e sz h1 n1 v1 h2 n2 v2 es2) : Grw e sz h nx v h2 n2 v2 es2 := by
  obtain ⟨a1, a2, a3, a4⟩ := a
  obtain ⟨b1, b2, b3, b4⟩ := b
  refine ⟨b1, by omega, fun c o hc hg hv => b3 c o (by omega) (a3 c o hc hg hv) (fun h => ?_), fun c hc => ?_⟩
  · rcases a4 c h with h | h
    · omega
    · exact hv h
  · rcases b4 c hc with h | h
    · exact .inl (by omega)
    · exact a4 c h
theorem OwnSl.grw {e sz bytes : Nat} {h : Heap} {nx : Nat} {x : AV} {es ns : List (List AV)} (ho : OwnSl e sz h nx x es) (hs : ∀ z ∈ es, z.length = sz) (hn : ∀ z ∈ ns, z.length = sz)
    (h1 : (es.length + ns.length) * bytes ≤ 140737488355328) (h2 : es.length + ns.length ≤ maxLen) :
    ∃ x' h' n', appA e sz bytes h nx x (.lst sz ns) = some (x', h', n') ∧ Grw e sz h nx x h' n' x' (es ++ ns) := by
  obtain ⟨x', h', n', ea, ow, hle, fr, id⟩ := ho.app (bytes := bytes) hs hn h1 h2
  refine ⟨x', h', n', ea, ow, hle, fun c o hc hg hb => fr c o hc hg (fun y hy => hb (by rw [hy]; rfl)), fun c hc => ?_⟩
  obtain ⟨e1, _, _⟩ := ow.blk hc
  rcases id c _ e1 with h | ⟨y, h⟩
  · exact .inl h
  · exact .inr (by rw [h]; rfl)
end Go.Ab
namespace Go.Ab
open Go.RowKit
set_option linter.unusedVariables false
set_option linter.unusedSimpArgs false
theorem AC.arg {P : Program} {f : FuncId} {h h' : Heap} {nx : Nat} {Q : AE → Heap → Nat → Prop} {x x' : AV} (pre post : List AV) (hf : Frz h x h' x') (hc : AC P f (pre ++ x' :: post) h' nx Q) : AC P f (pre ++ x :: post) h nx Q := by
  refine ⟨hc.1, fun w0 K args hg ha => ?_⟩
  have hlen := ha.1
  have hi : pre.length < args.size := by rw [hlen]; simp
  have hv := ha.2 pre.length x args[pre.length] (by simp) (Array.getElem?_eq_getElem hi)
  obtain ⟨K', e1, e2, e3, e4⟩ := hf w0 K nx _ hg hv
  have ha' : ArgR K' nx (pre ++ x' :: post) args := by
    refine ⟨by rw [hlen]; simp, fun i y v hy hv' => ?_⟩
    by_cases h : i = pre.length
    · subst h
      simp at hy; subst hy
      rw [Array.getElem?_eq_getElem hi] at hv'; injection hv' with hv'; subst hv'
      exact e4
    · refine (ha.2 i y v ?_ hv').mono e2
      rw [← hy, List.getElem?_append, List.getElem?_append]
      split
      · rfl
      · obtain ⟨j, hj⟩ : ∃ j, i - pre.length = j + 1 := ⟨i - pre.length - 1, by omega⟩
        rw [hj]; rfl
  have := hc.2 w0 K' args e3 ha'
  rw [e1] at this
  exact this.mono fun e w' ⟨K2, h2, n2, y, a1, a2, a3, a4, a5⟩ => ⟨K2, h2, n2, y, a1, e2.trans a2, a3, a4, a5⟩
end Go.Ab
namespace Go.Ab
open Go.RowKit
set_option linter.unusedVariables false
set_option linter.unusedSimpArgs false
theorem AC.oc {P : Program} {f : FuncId} {h : Heap} {nx : Nat} {Q : AE → Heap → Nat → Prop} {b off sz n : Nat} {e : TypeId} (pre post : List AV) (hn : n ≤ maxLen)
    (hc : ∀ c, n ≤ c → c ≤ maxLen → AC P f (pre ++ .oc b off e sz n c :: post) h nx Q) : AC P f (pre ++ .os b off e sz n :: post) h nx Q := by
  refine ⟨(hc n (Nat.le_refl _) hn).1, fun w0 K args hg ha => ?_⟩
  have hlen := ha.1
  have hi : pre.length < args.size := by rw [hlen]; simp
  have hv := ha.2 pre.length (.os b off e sz n) args[pre.length] (by simp) (Array.getElem?_eq_getElem hi)
  have key : ∀ x, VR K nx x args[pre.length] → ArgR K nx (pre ++ x :: post) args := by
    intro x hx
    refine ⟨by rw [hlen]; simp, fun i y v hy hv => ?_⟩
    by_cases h : i = pre.length
    · subst h
      simp at hy; subst hy
      rw [Array.getElem?_eq_getElem hi] at hv; injection hv with hv; subst hv
      exact hx
    · refine ha.2 i y v ?_ hv
      rw [← hy, List.getElem?_append, List.getElem?_append]
      split
      · rfl
      · obtain ⟨j, hj⟩ : ∃ j, i - pre.length = j + 1 := ⟨i - pre.length - 1, by omega⟩
        rw [hj]; rfl
  generalize args[pre.length] = u at hv key
  cases hv with
  | os _ _ _ _ _ a n' cap hn' hb hnc hcap hA hroom =>
    subst hn'
    exact (hc cap hnc hcap).2 w0 K args hg (key _ (.oc b off e sz n' cap a hb hnc hcap hA hroom))
theorem Frz.oc {h : Heap} {b off sz n c : Nat} {e : TypeId} : Frz h (.oc b off e sz n c) h (.os b off e sz n) := fun w0 K nx v g hv => by
  cases hv with
  | oc _ _ _ _ _ _ a hb hc hcap hA hroom => exact ⟨K, rfl, Ext.refl _ _, g, .os b off e sz n a n c rfl hb hc hcap hA hroom⟩
end Go.Ab
namespace Go.Ab
open Go.RowKit
set_option linter.defProp false
def RR := And.intro @fK_bm (And.intro @dAK_callZ (And.intro @dZK_go (And.intro @dRZ_ret (And.intro @go_skip (And.intro @go_label (And.intro @go_exit (And.intro @go_ret (And.intro @go_seq (And.intro @go_block (And.intro @go_cond (And.intro @go_region (And.intro @go_loop (And.intro @go_dregion (And.intro @fin_nil (And.intro @fin_seq_n (And.intro @fin_seq_e (And.intro @fin_seq_r (And.intro @fin_seq_p (And.intro @fin_blk_n (And.intro @fin_blk_e (And.intro @fin_blk_r (And.intro @fin_blk_p (And.intro @rg_nil (And.intro @rg_cons (And.intro @gK_t (And.intro @gK_f (And.intro @aK_op (And.intro @aK_call (And.intro @oK_val (And.intro @oK_skip (And.intro @fK_go (And.intro @rK_ret (And.intro @cK_t (And.intro @cK_f (And.intro @dg_nil (And.intro @dg_cons (And.intro @dGK_t (And.intro @dGK_f (And.intro @dAK_op (And.intro @dS_q (And.intro @dS_l (And.intro @dS_w (And.intro @dAK_call (And.intro @dLK_go (And.intro @dLK2_fp (And.intro @dLK2_op (And.intro @dQK_val (And.intro @dOK_val (And.intro @dOK_skip (And.intro @dFK_go (And.intro @dRK_ret (And.intro @then_n (And.intro @then_e (And.intro @then_r (And.intro @then_p (And.intro @ofV_int (And.intro @ofV_bool (And.intro @ofV_str (And.intro @ofV_nilS (And.intro @ofV_nilP (And.intro @ofV_nilM (And.intro @ofV_nilF (And.intro @ofV_nilI (And.intro @bt1 (And.intro @bt2 (And.intro @bt3 (And.intro @bt4 (And.intro @b_add (And.intro @b_sub (And.intro @b_mul (And.intro @b_eql (And.intro @b_neq (And.intro @b_lss (And.intro @b_leq (And.intro @b_gtr (And.intro @b_geq (And.intro @ptr_fp (And.intro @rel_fp (And.intro @take1 (And.intro @Bool.not_true (And.intro @Bool.not_false (And.intro @decide_true (And.intro @decide_false (And.intro @true_and (And.intro @and_true (And.intro @Fin_ret (And.intro @Fin_normal (And.intro @post_fin (And.intro @and_self (And.intro @Nat.zero_add (And.intro @Nat.add_zero (And.intro @Nat.le_refl (And.intro @Nat.zero_lt_one (And.intro @Bool.or_false (And.intro @Bool.or_self (And.intro @Bool.false_or (And.intro @Bool.true_or (And.intro @Bool.or_true (And.intro @fK_nx (@nK_go))))))))))))))))))))))))))))))))))))))))))))))))))))))))))))))))))))))))))))))))))))))))))))))))))))
def RE := And.intro @guardOk.eq_1 (And.intro @guardOk.eq_2 (And.intro @opEv.eq_1 (And.intro @opEv.eq_2 (And.intro @opEv.eq_3 (And.intro @opEv.eq_4 (And.intro @opEv.eq_5 (And.intro @opEv.eq_6 (And.intro @opEv.eq_7 (And.intro @opEv.eq_8 (And.intro @opEv.eq_9 (And.intro @opEv.eq_10 (And.intro @opEv.eq_11 (And.intro @opEv.eq_12 (And.intro @opEv.eq_13 (And.intro @opEv.eq_14 (And.intro @opEv.eq_15 (And.intro @opEv.eq_16 (And.intro @opEv.eq_17 (And.intro @opEv.eq_18 (And.intro @opEv.eq_19 (And.intro @opEv.eq_20 (And.intro @opEv.eq_21 (And.intro @opEv.eq_22 (And.intro @opEv.eq_23 (And.intro @opEv.eq_24 (And.intro @opEv.eq_25 (And.intro @opEv.eq_26 (And.intro @opEv.eq_27 (And.intro @opEv.eq_28 (And.intro @opEv.eq_29 (And.intro @opEv.eq_30 (And.intro @opEv.eq_31 (And.intro @opEv.eq_32 (And.intro @opEv.eq_33 (And.intro @opEv.eq_34 (And.intro @opEv.eq_35 (And.intro @opEv.eq_36 (And.intro @opEv.eq_37 (And.intro @opEv.eq_38 (And.intro @opEv.eq_39 (And.intro @opEv.eq_40 (And.intro @opEv.eq_41 (And.intro @opEv.eq_42 (And.intro @opEv.eq_43 (And.intro @oev.eq_1 (And.intro @oev.eq_2 (And.intro @oev.eq_3 (And.intro @oev.eq_4 (And.intro @oevs.eq_1 (And.intro @oevs.eq_2 (And.intro @eget.eq_1 (And.intro @eget.eq_2 (And.intro @setE.eq_1 (And.intro @setE.eq_2 (And.intro @dropE.eq_1 (And.intro @edel.eq_1 (And.intro @edel.eq_2 (And.intro @penv.eq_1 (And.intro @penv.eq_2 (And.intro @AOp.quiet.eq_1 (And.intro @AOp.quiet.eq_2 (And.intro @AOp.quiet.eq_3 (And.intro @AOp.quiet.eq_4 (And.intro @AOp.quiet.eq_5 (And.intro @AOp.quiet.eq_6 (And.intro @AOp.quiet.eq_7 (And.intro @AOp.quiet.eq_8 (And.intro @AOp.quiet.eq_9 (And.intro @AOp.quiet.eq_10 (And.intro @AOp.quiet.eq_11 (And.intro @AOp.quiet.eq_12 (And.intro @AOp.quiet.eq_13 (And.intro @AOp.quiet.eq_14 (And.intro @AOp.quiet.eq_15 (And.intro @AOp.quiet.eq_16 (And.intro @AOp.quiet.eq_17 (And.intro @AOp.quiet.eq_18 (And.intro @AOp.quiet.eq_19 (And.intro @AOp.quiet.eq_20 (And.intro @AOp.quiet.eq_21 (And.intro @AOp.quiet.eq_22 (And.intro @AOp.quiet.eq_23 (And.intro @AOp.quiet.eq_24 (And.intro @AOp.quiet.eq_25 (And.intro @AOp.quiet.eq_26 (And.intro @AOp.quiet.eq_27 (And.intro @AOp.quiet.eq_28 (And.intro @AOp.quiet.eq_29 (And.intro @AOp.quiet.eq_30 (And.intro @AOp.quiet.eq_31 (And.intro @AOp.isLoad.eq_1 (And.intro @AOp.isLoad.eq_2 (And.intro @pendOk.eq_1 (And.intro @pendOk.eq_2 (And.intro @pendKeep.eq_1 (And.intro @pendKeep.eq_2 (And.intro @addA.eq_1 (And.intro @addA.eq_2 (And.intro @addA.eq_3 (And.intro @rvsEv.eq_1 (And.intro @rvsEv.eq_2 (And.intro @rvEv.eq_1 (And.intro @rvEv.eq_2 (And.intro @resV.eq_1 (And.intro @resV.eq_2 (And.intro @cellsOf.eq_1 (And.intro @cellsOf.eq_2 (And.intro @AV.plain.eq_1 (And.intro @AV.plain.eq_2 (And.intro @partsE.eq_1 (And.intro @partsE.eq_2 (And.intro @partsE3.eq_1 (And.intro @partsE3.eq_2 (And.intro @fillE.eq_1 (And.intro @fillE.eq_2 (And.intro @fillA.eq_1 (And.intro @fillA.eq_2 (And.intro @mopEv.eq_1 (And.intro @mopEv.eq_2 (And.intro @mopEv.eq_3 (And.intro @mopEv.eq_4 (And.intro @mopEv.eq_5 (And.intro @mopEv.eq_6 (And.intro @mopEv.eq_7 (And.intro @mopEv.eq_8 (And.intro @mopEv.eq_9 (And.intro @mopEv.eq_10 (And.intro @MOp.quiet.eq_1 (And.intro @MOp.quiet.eq_2 (And.intro @MOp.quiet.eq_3 (And.intro @MOp.quiet.eq_4 (And.intro @List.toList_toArray.{0} (And.intro @List.drop_zero.{0} (And.intro @List.drop_succ_cons.{0} (And.intro @List.cons_append.{0} (And.intro @List.nil_append.{0} (And.intro @List.append_nil.{0} (And.intro @List.take_succ_cons.{0} (And.intro @List.take_zero.{0} (And.intro @List.length_cons.{0} (And.intro @List.length_nil.{0} (And.intro @List.getElem?_cons_zero.{0} (And.intro @List.getElem?_cons_succ.{0} (And.intro @List.replicate_succ.{0} (And.intro @List.replicate_zero.{0} (And.intro @List.set_cons_zero.{0} (And.intro @List.set_cons_succ.{0} (And.intro @List.contains_cons.{0} (And.intro @List.contains_nil.{0} (And.intro @ex_some (@eq_self.{1})))))))))))))))))))))))))))))))))))))))))))))))))))))))))))))))))))))))))))))))))))))))))))))))))))))))))))))))))))))))))))))))))))))))))))))))))))))))
def RP := And.intro @ptrCells.eq_1 (And.intro @ptrCells.eq_2 (And.intro @ptrCells.eq_3 (@reload.eq_1)))
def RG := And.intro @hget.eq_1 (And.intro @hget.eq_2 (And.intro @hset.eq_1 (And.intro @hdel.eq_1 (And.intro @hdel.eq_2 (And.intro @storeH.eq_1 (And.intro @storeH.eq_2 (@splice.eq_1)))))))
end Go.Ab
namespace Go.Sa
open Go Go.Ab
abbrev t (n : Nat) : Operand := .tmp n
abbrev i (n : Int) : Operand := .const (.int .i64 n)
abbrev b1 : Operand := .const (.bool true)
abbrev b0 : Operand := .const (.bool false)
abbrev ns : Operand := .const (.slice none 0 0)
abbrev r (l : List AStep) : ACode := .region l
abbrev s (d : Nat) (o : AOp) : AStep := ⟨some d, none, .op o⟩
abbrev sn (o : AOp) : AStep := ⟨none, none, .op o⟩
abbrev m (d x : Nat) : AStep := ⟨some d, none, .op (.move (.tmp x))⟩
abbrev l (d x : Nat) : AStep := ⟨some d, none, .op (.load 1 false (.tmp x))⟩
abbrev fa (d o x : Nat) : AStep := ⟨some d, none, .op (.fieldA o (.tmp x))⟩
abbrev e (d x k : Nat) : AStep := ⟨some d, none, .op (.ext (.tmp x) k)⟩
abbrev c (d f : Nat) (xs : List Operand) : AStep := ⟨some d, none, .call (.func f) xs⟩
abbrev gt (d g : Nat) (o : AOp) : AStep := ⟨some d, some (g, true), .op o⟩
abbrev gf (d g : Nat) (o : AOp) : AStep := ⟨some d, some (g, false), .op o⟩
abbrev tl (d g x : Nat) : AStep := ⟨some d, some (g, true), .op (.load 1 false (.tmp x))⟩
abbrev fl (d g x : Nat) : AStep := ⟨some d, some (g, false), .op (.load 1 false (.tmp x))⟩
abbrev ta (d g o x : Nat) : AStep := ⟨some d, some (g, true), .op (.fieldA o (.tmp x))⟩
abbrev fb (d g o x : Nat) : AStep := ⟨some d, some (g, false), .op (.fieldA o (.tmp x))⟩
abbrev tc (d g f : Nat) (xs : List Operand) : AStep := ⟨some d, some (g, true), .call (.func f) xs⟩
abbrev fc (d g f : Nat) (xs : List Operand) : AStep := ⟨some d, some (g, false), .call (.func f) xs⟩
abbrev CX (c : ACode) := {x : ACode // x = c}
set_option linter.defProp false
def QQ := And.intro @t.eq_1 (And.intro @i.eq_1 (And.intro @b1.eq_1 (And.intro @b0.eq_1 (And.intro @ns.eq_1 (And.intro @r.eq_1 (And.intro @s.eq_1 (And.intro @sn.eq_1 (And.intro @m.eq_1 (And.intro @l.eq_1 (And.intro @fa.eq_1 (And.intro @e.eq_1 (And.intro @c.eq_1 (And.intro @gt.eq_1 (And.intro @gf.eq_1 (And.intro @tl.eq_1 (And.intro @fl.eq_1 (And.intro @ta.eq_1 (And.intro @fb.eq_1 (And.intro @tc.eq_1 (@fc.eq_1))))))))))))))))))))
end Go.Sa
namespace Go.Ab
open Go.RowKit
set_option linter.unusedVariables false
set_option linter.unusedSimpArgs false
def FrzC (h : Heap) (cs : List AV) (h' : Heap) (cs' : List AV) : Prop := cs.length = cs'.length ∧ (∀ x ∈ cs', x.one = true) ∧
  ∀ (w0 : World) (K : Wd) (nx : Nat) (c : Nat → Value), Good w0 K h nx → (∀ (i : Nat) x, cs[i]? = some x → VR K nx x (c i)) → ∃ K', K'.w = K.w ∧ Ext K nx K' nx ∧ Good w0 K' h' nx ∧ ∀ (i : Nat) y, cs'[i]? = some y → VR K' nx y (c i)
theorem FrzC.nil (h : Heap) : FrzC h [] h [] := ⟨rfl, fun x hx => by simp at hx, fun w0 K nx c g hc => ⟨K, rfl, Ext.refl _ _, g, fun i y hy => by simp at hy⟩⟩
theorem FrzC.cons {h h1 h2 : Heap} {x x' : AV} {r r' : List AV} (hf : Frz h x h1 x') (o : x'.one = true) (hr : FrzC h1 r h2 r') : FrzC h (x :: r) h2 (x' :: r') := by
  obtain ⟨hl, ho, hr⟩ := hr
  refine ⟨by simp [hl], fun y hy => ?_, fun w0 K nx c g hc => ?_⟩
  · rcases List.mem_cons.1 hy with rfl | hy
    · exact o
    · exact ho y hy
  · obtain ⟨K1, a1, a2, a3, a4⟩ := hf w0 K nx (c 0) g (hc 0 x rfl)
    obtain ⟨K2, b1, b2, b3, b4⟩ := hr w0 K1 nx (fun i => c (i + 1)) a3 fun i y hy => (hc (i + 1) y (by simpa using hy)).mono a2
    refine ⟨K2, b1.trans a1, a2.trans b2, b3, fun i y hy => ?_⟩
    cases i with
    | zero => simp at hy; subst hy; exact a4.mono b2
    | succ i => exact b4 i y (by simpa using hy)
theorem FrzC.keep {h h2 : Heap} {x : AV} {r r' : List AV} (o : x.one = true) (hr : FrzC h r h2 r') : FrzC h (x :: r) h2 (x :: r') := .cons (.refl _ _) o hr
theorem Frz.agg {h h' : Heap} {cs cs' : List AV} (hf : FrzC h cs h' cs') : Frz h (.agg cs) h' (.agg cs') := fun w0 K nx v g hv => by
  obtain ⟨hl, ho, hf⟩ := hf
  cases hv with
  | agg _ c hs h1 hc =>
    obtain ⟨K', a1, a2, a3, a4⟩ := hf w0 K nx (fun i => c.getD i undef) g fun i x hx => by
      have hi := (List.getElem?_eq_some_iff.1 hx).1
      have hi' : i < c.size := by omega
      refine hc i x _ hx ?_
      simp [Array.getD, hi']
    refine ⟨K', a1, a2, a3, .agg _ c (by omega) (fun i x hx => ho x (List.mem_of_getElem? hx)) fun i y u hy hu => ?_⟩
    have := a4 i y hy
    have hi := (Array.getElem?_eq_some_iff.1 hu).1
    have e : c.getD i undef = u := by
      have := (Array.getElem?_eq_some_iff.1 hu).2
      simp [Array.getD, hi, this]
    rw [e] at this; exact this
theorem Frz.fpc {h h' : Heap} {cs cs' : List AV} (hf : FrzC h cs h' cs') : Frz h (.fp cs) h' (.fp cs') := fun w0 K nx v g hv => by
  obtain ⟨hl, ho, hf⟩ := hf
  cases hv with
  | fp _ a c h1 hr hc =>
    obtain ⟨K', a1, a2, a3, a4⟩ := hf w0 K nx c g hc
    exact ⟨K', a1, a2, a3, .fp _ a c (fun i x hx => ho x (List.mem_of_getElem? hx)) (fun k hk => a2.iced (hr k (by omega))) a4⟩
theorem Frz.pt0 {h : Heap} {b : Nat} {cs : List AV} (hb : hget h b = some (.cells cs)) : Frz h (.op b 0) (hdel h b) (.fp cs) := fun w0 K nx v g hv => by
  have he := Ext.ice1 g hb
  refine ⟨K.ice1 b, rfl, he, g.ice1 hb, ?_⟩
  obtain ⟨h1, h2, h3, ob, h4, h5⟩ := g.live b _ hb
  cases hv with
  | op _ _ hlt a ha =>
    subst ha
    cases h5 with
    | cells _ c e hsz hone hcs =>
      refine .fp cs _ (fun k => c.getD k undef) (fun j x hx => hone j x hx) (fun k hk => ⟨?_, ?_⟩) fun j x hx => ?_
      · rw [add_eq]
        show K.w.cell? _ = _
        rw [cell_row h4]
        have : 0 + k < c.size := by omega
        simp [this, Array.getD_eq_getD_getElem?]
        rw [Nat.zero_add] at this
        simp [this]
      · rw [add_eq]; exact .inr rfl
      · have hj := (List.getElem?_eq_some_iff.1 hx).1
        have hjc : j < c.size := by omega
        refine (hcs j x _ hx ?_).mono he
        simp [Array.getD, hjc]
theorem Frz.pt {h h' : Heap} {b : Nat} {cs cs' : List AV} (hb : hget h b = some (.cells cs)) (hf : FrzC (hdel h b) cs h' cs') : Frz h (.op b 0) h' (.fp cs') := (Frz.pt0 hb).trans (Frz.fpc hf)
end Go.Ab
