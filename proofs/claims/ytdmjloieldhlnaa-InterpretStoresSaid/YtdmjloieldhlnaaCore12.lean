/- A function's contract from its body. -/
import Derived.Test.YtdmjloieldhlnaaCore11
namespace Go.Ab
open Go.RowKit
set_option linter.unusedVariables false
set_option linter.unusedSimpArgs false

inductive RV where
  | tmp (t : Tmp)
  | cell (t : Tmp) (sz : Nat) (ag : Bool)
  deriving Inhabited
def compileRV (P : Program) : ResultVar → Option RV
  | .tmp t => some (.tmp t)
  | .cell a t => (P.underlying t).map fun _ => .cell a (sizeT P t) (isAggT P t)
def compileRes (P : Program) : List ResultVar → Option (List RV)
  | [] => some []
  | r :: rs => match compileRV P r, compileRes P rs with
    | some x, some xs => some (x :: xs)
    | _, _ => none
def rvEv (env : Env) (h : Heap) : RV → Option AV
  | .tmp t => eget env t
  | .cell t sz ag => match eget env t with
    | some p => (match ptrCells h p with
      | some cs => takeV sz ag cs
      | none => none)
    | none => none
def rvsEv (env : Env) (h : Heap) : List RV → Option (List AV)
  | [] => some []
  | r :: rs => match rvEv env h r, rvsEv env h rs with
    | some x, some xs => some (x :: xs)
    | _, _ => none
/-- One result is itself; no or several are a tuple. -/
def resV : List AV → AV
  | [x] => x
  | xs => .tup xs

section
variable {P : Program} {w0 : World} {K : Wd} {h : Heap} {nx : Nat} {env : Env} {tmps : Array Value}

theorem rv_sound (g : Good w0 K h nx) (he : EnvR K nx env tmps) {F : ResultVar → Sem Value} (h1 : ∀ t, F (.tmp t) = pure (tmps.getD t undef)) (h2 : ∀ a t, F (.cell a t) = do loadVar t (← asAddr (tmps.getD a undef)))
    {r : ResultVar} {x : RV} {y : AV} (hc : compileRV P r = some x) (hy : rvEv env h x = some y) : ∃ v, (F r).run P K.w = .ok v K.w ∧ VR K nx y v := by
  cases r with
  | tmp t =>
    cases hc
    obtain ⟨v, h3, h4⟩ := he t y hy
    exact ⟨v, by rw [h1]; simp [Array.getD_eq_getD_getElem?, h3], h4⟩
  | cell a t =>
    obtain ⟨d, hd, rfl⟩ := Option.map_eq_some_iff.1 hc
    simp only [rvEv] at hy
    split at hy
    · rename_i p hp
      split at hy
      · rename_i cs hcs
        obtain ⟨v, h3, h4⟩ := he a p hp
        obtain ⟨u, h5, h6⟩ := load_sound (P := P) g hd hcs hy h4
        obtain ⟨ad, c, rfl, _, _⟩ := ptrCells_sound g hcs h4
        refine ⟨u, ?_, h6⟩
        have e1 : tmps.getD a undef = .pointer (some ad) := by simp [Array.getD_eq_getD_getElem?, h3]
        rw [h2]
        simp only [e1, Sem.run_bind, asAddr, Sem.run_pure, Result.andThen_ok]
        simpa [Instr.loadAt, Instr.sureAddr] using h5
      · cases hy
    · cases hy

theorem rvs_sound (g : Good w0 K h nx) (he : EnvR K nx env tmps) {F : ResultVar → Sem Value} (h1 : ∀ t, F (.tmp t) = pure (tmps.getD t undef)) (h2 : ∀ a t, F (.cell a t) = do loadVar t (← asAddr (tmps.getD a undef))) :
    ∀ (rs : List ResultVar) (xs : List RV) (ys : List AV), compileRes P rs = some xs → rvsEv env h xs = some ys →
    ∃ vs : List Value, (rs.mapM F).run P K.w = .ok vs K.w ∧ vs.length = ys.length ∧ ∀ (i : Nat) (y : AV) (v : Value), ys[i]? = some y → vs[i]? = some v → VR K nx y v
  | [], xs, ys, hc, hy => by
    simp only [compileRes, Option.some.injEq] at hc; subst hc
    simp only [rvsEv, Option.some.injEq] at hy; subst hy
    exact ⟨[], by simp, rfl, fun i y v h => by simp at h⟩
  | r :: rs, xs, ys, hc, hy => by
    simp only [compileRes] at hc
    split at hc
    · rename_i x xs' hx hxs
      simp only [Option.some.injEq] at hc; subst hc
      simp only [rvsEv] at hy
      split at hy
      · rename_i y ys' hy1 hys
        simp only [Option.some.injEq] at hy; subst hy
        obtain ⟨v, h3, h4⟩ := rv_sound (P := P) g he h1 h2 hx hy1
        obtain ⟨vs, h5, h6, h7⟩ := rvs_sound g he h1 h2 rs xs' ys' hxs hys
        refine ⟨v :: vs, ?_, by simp [h6], fun i y' u hi hu => ?_⟩
        · rw [List.mapM_cons, Sem.run_bind, h3]
          simp only [Result.andThen_ok, Sem.run_bind, h5, Sem.run_pure]
        · cases i with
          | zero => simp at hi hu; subst hi; subst hu; exact h4
          | succ i => simp only [List.getElem?_cons_succ] at hi hu; exact h7 i y' u hi hu
      · cases hy
    · cases hc

theorem results_sound (g : Good w0 K h nx) (he : EnvR K nx env tmps) {fn : Func} {xs : List RV} {ys : List AV} (hc : compileRes P fn.results.toList = some xs) (hy : rvsEv env h xs = some ys) :
    ∃ v, (results fn tmps).run P K.w = .ok v K.w ∧ VR K nx (resV ys) v := by
  have key : ∀ F : ResultVar → Sem Value, (∀ t, F (.tmp t) = pure (tmps.getD t undef)) → (∀ a t, F (.cell a t) = do loadVar t (← asAddr (tmps.getD a undef))) →
      ∃ v, ((do let vs ← fn.results.mapM F; pure (if h : vs.size = 1 then vs[0] else .tuple vs) : Sem Value)).run P K.w = .ok v K.w ∧ VR K nx (resV ys) v := by
    intro F h1 h2
    obtain ⟨vs, h3, h4, h5⟩ := rvs_sound (P := P) g he h1 h2 _ xs ys hc hy
    refine ⟨if h : vs.toArray.size = 1 then vs.toArray[0] else .tuple vs.toArray, ?_, ?_⟩
    · rw [Sem.run_bind, Array.mapM_eq_mapM_toList, Sem.run_map, h3]
      simp only [Result.andThen_ok, Sem.run_pure]
    · cases ys with
      | nil =>
        have : vs = [] := List.eq_nil_of_length_eq_zero h4
        subst this
        exact .tup [] #[] rfl fun i x v h => by simp at h
      | cons y r =>
        cases r with
        | nil =>
          cases vs with
          | nil => simp at h4
          | cons v r' =>
            have : r' = [] := List.eq_nil_of_length_eq_zero (by simpa using h4)
            subst this
            simpa [resV] using h5 0 y v rfl rfl
        | cons y2 r2 =>
          have hne : ¬ vs.toArray.size = 1 := by simp [h4]
          rw [dif_neg hne]
          exact .tup _ _ (by simp [h4]) fun i x v hx hv => h5 i x v hx (by simpa using hv)
  exact key _ (fun _ => rfl) (fun _ _ => rfl)

/-! ### Parameters -/
def penv : Nat → List AV → Env
  | _, [] => []
  | i, x :: r => (i, x) :: penv (i + 1) r
theorem eget_penv : ∀ (xs : List AV) (i t : Nat), eget (penv i xs) t = if i ≤ t then xs[t - i]? else none
  | [], i, t => by simp [penv, eget]
  | x :: r, i, t => by
    simp only [penv, eget_cons, eget_penv r (i + 1) t]
    by_cases h : i = t
    · subst h; simp
    · rw [if_neg h]
      by_cases h2 : i ≤ t
      · rw [if_pos (by omega), if_pos h2]
        have : t - i = t - (i + 1) + 1 := by omega
        rw [this, List.getElem?_cons_succ]
      · rw [if_neg (by omega), if_neg h2]

/-! ### An object that is no row of cells is done with -/
theorem Good.drop (g : Good w0 K h nx) {b : Nat} {o : AO} (hb : hget h b = some o) (ob' : Obj) (hs : ∀ c e, K.w.heap[K.m b]? = some (.cells c e (0, 0)) → ∃ c' : Array Value, ob' = .cells c' e (0, 0) ∧ c'.size = c.size) : Good w0 (K.putObj b ob') (hdel h b) nx ∧ Ext K nx (K.putObj b ob') nx := by
  obtain ⟨h1, h2, h3, ob, h4, h5⟩ := g.live b _ hb
  have he := Ext.putObj (ob := ob') g hb hs
  refine ⟨⟨fun k o1 hk => ?_, fun k k' o1 o2 hk hk' e => ?_, ?_, fun k off hz => by simp only [Wd.putObj, World.putObj_size]; exact g.zin k off hz, g.lo⟩, he⟩
  · rw [hget_hdel] at hk
    split at hk
    · cases hk
    · rename_i e
      obtain ⟨k1, k2, k3, ob2, k4, k5⟩ := g.live k o1 hk
      have hne : K.m k ≠ K.m b := fun e' => e (g.inj k b o1 _ hk hb e').symm
      exact ⟨k1, k2, k3, ob2, by simp only [Wd.putObj]; rw [putObj_other _ _ _ _ hne]; exact k4, k5.mono he⟩
  · rw [hget_hdel] at hk hk'
    split at hk
    · cases hk
    · split at hk'
      · cases hk'
      · exact g.inj k k' o1 o2 hk hk' e
  · refine g.below.trans ⟨rfl, rfl, rfl, by simp [Wd.putObj], fun k hk => ?_⟩
    simp only [Wd.putObj]
    rw [putObj_other _ _ _ _ (by omega)]
theorem Good.shut (g : Good w0 K h nx) {b : Nat} (hb : hget h b = some .dfd) : Good w0 (K.putObj b (.deferred none)) (hdel h b) nx ∧ Ext K nx (K.putObj b (.deferred none)) nx := by
  obtain ⟨h1, h2, h3, ob, h4, h5⟩ := g.live b _ hb
  have hob : ob = .deferred (some []) := by cases h5; rfl
  subst hob
  have hs : ∀ c e, K.w.heap[K.m b]? = some (.cells c e (0, 0)) → ∃ c' : Array Value, (Obj.deferred none) = .cells c' e (0, 0) ∧ c'.size = c.size := by
    intro c e h; rw [h4] at h; cases h
  have he := Ext.putObj (ob := .deferred none) g hb hs
  refine ⟨⟨fun k o1 hk => ?_, fun k k' o1 o2 hk hk' e => ?_, ?_, fun k off hz => by simp only [Wd.putObj, World.putObj_size]; exact g.zin k off hz, g.lo⟩, he⟩
  · rw [hget_hdel] at hk
    split at hk
    · cases hk
    · rename_i e
      obtain ⟨k1, k2, k3, ob2, k4, k5⟩ := g.live k o1 hk
      have hne : K.m k ≠ K.m b := fun e' => e (g.inj k b o1 _ hk hb e').symm
      exact ⟨k1, k2, k3, ob2, by simp only [Wd.putObj]; rw [putObj_other _ _ _ _ hne]; exact k4, k5.mono he⟩
  · rw [hget_hdel] at hk hk'
    split at hk
    · cases hk
    · split at hk'
      · cases hk'
      · exact g.inj k k' o1 o2 hk hk' e
  · refine g.below.trans ⟨rfl, rfl, rfl, by simp [Wd.putObj], fun k hk => ?_⟩
    simp only [Wd.putObj]
    rw [putObj_other _ _ _ _ (by omega)]

def dels : Heap → List Nat → Heap
  | h, [] => h
  | h, b :: r => dels (hdel h b) r
/-- The marks are all there, each once. -/
def dmOk (h : Heap) : List Nat → Prop
  | [] => True
  | b :: r => hget h b = some .dfd ∧ dmOk (hdel h b) r

theorem leaves_marks {fn : Func} {R : Ending → World → Prop} (u : FrameMode) (hu : u ≠ .run) : ∀ (dm : List Nat) (K : Wd) (h : Heap), Good w0 K h nx → dmOk h dm →
    (∀ K', Good w0 K' (dels h dm) nx → Ext K nx K' nx → LeavesIn Fence.wide 0 P fn tmps R [] u K'.w) → LeavesInM Fence.wide 0 P fn tmps R (marks K dm) u K.w
  | [], K, h, g, hd, hk => hk K g (Ext.refl _ _)
  | b :: dm, K, h, g, hd, hk => by
    obtain ⟨hb, hd⟩ := hd
    obtain ⟨g', he⟩ := g.shut hb
    obtain ⟨h1, h2, h3, ob, h4, h5⟩ := g.live b _ hb
    have hob : ob = .deferred (some []) := by cases h5; rfl
    subst hob
    refine ⟨hu, .inl ⟨K.m b, _, rfl, run_takeDeferred h4, ?_⟩⟩
    have := leaves_marks u hu dm (K.putObj b (.deferred none)) (hdel h b) g' hd (fun K' hg hx => hk K' hg (he.trans hx))
    exact this

/-- A function's contract from its body. -/
theorem AC_body {own : Nat → Nat → Bool} {f : FuncId} {fn : Func} {c : Code} {ac : ACode} {N : Nat} {rs : List RV} {xs : List AV} {Q : AE → Heap → Nat → Prop}
    (hf : P.funcs[f]? = some fn) (hb : fn.body = some c) (hN : fn.ntmps = N) (hcall : ∀ args w, (callFunc f args).run P w = .ok (.enter f args) w) (hc : compile P own N c = some ac) (hr : compileRes P fn.results.toList = some rs) (hl : xs.length ≤ N)
    (hw : AW P own none N ac (fun x st => dmOk st.heap st.dm ∧ match x with
      | .normal => ∃ ys, rvsEv st.env (dels st.heap st.dm) rs = some ys ∧ Q (.ret (resV ys)) (dels st.heap st.dm) st.nx
      | .ret => ∃ ys, rvsEv st.env (dels st.heap st.dm) rs = some ys ∧ Q (.ret (resV ys)) (dels st.heap st.dm) st.nx
      | .panic v => Q (.panic v) (dels st.heap st.dm) st.nx
      | .exit _ => False) { env := penv 0 xs, heap := h, nx := nx }) : AC P f xs h nx Q := by
  refine ⟨hcall, fun w0 K args hg ha => ?_⟩
  refine callsIn_wide.1 (callsIn_of_wp_marks (F := Fence.wide) (n := 0) hf hb trivial ?_)
  have hs : StR w0 N K { env := penv 0 xs, heap := h, nx := nx } { tmps := args ++ Array.replicate (fn.ntmps - args.size) undef, defers := [] } := by
    refine ⟨hg, fun t x hx => ?_, ?_, rfl, fun b hb => by simp at hb⟩
    · rw [eget_penv, if_pos (Nat.zero_le _)] at hx
      simp only [Nat.sub_zero] at hx
      have ht : t < args.size := by rw [ha.1]; exact (List.getElem?_eq_some_iff.1 hx).1
      refine ⟨args[t], ?_, ha.2 t x _ hx (Array.getElem?_eq_getElem ht)⟩
      rw [Array.getElem?_append_left ht]
      exact Array.getElem?_eq_getElem ht
    · simp only [Array.size_append, Array.size_replicate, ha.1, hN]
      omega
  have := hw c hc w0 K _ hs
  refine wpIn_mono (F := Fence.wide) this ?_
  rintro e a' w' ⟨K', st', x, rfl, hext, hs', hx, hdm, hq⟩
  have hret : (∃ ys, rvsEv st'.env (dels st'.heap st'.dm) rs = some ys ∧ Q (.ret (resV ys)) (dels st'.heap st'.dm) st'.nx) → LeavesInM Fence.wide 0 P fn a'.tmps (fun e w' => ∃ K' h' nx' y, K'.w = w' ∧ Ext K nx K' nx' ∧ Good w0 K' h' nx' ∧ AER K' nx' y e ∧ Q y h' nx') a'.defers .returning K'.w := by
    rintro ⟨ys, hys, hQ⟩
    rw [hs'.defers]
    refine leaves_marks (w0 := w0) (nx := st'.nx) .returning (by simp) st'.dm K' st'.heap hs'.good hdm fun K2 g2 e2 => ?_
    obtain ⟨v, h1, h2⟩ := results_sound (P := P) g2 (hs'.env.mono e2) hr hys
    exact ⟨v, h1, K2, _, _, .ret (resV ys), rfl, hext.trans e2, g2, h2, hQ⟩
  cases x with
  | normal =>
    cases e <;> simp only [AXR] at hx <;> first | exact hx.elim | skip
    exact hret hq
  | exit i => exact hq.elim
  | ret =>
    cases e <;> simp only [AXR] at hx <;> first | exact hx.elim | skip
    exact hret hq
  | panic v =>
    cases e <;> simp only [AXR] at hx <;> first | exact hx.elim | skip
    rename_i ch
    obtain ⟨u, rfl, hu⟩ := hx
    show LeavesInM _ _ _ _ _ _ _ _ _
    rw [hs'.defers]
    refine leaves_marks (w0 := w0) (nx := st'.nx) _ (by simp) st'.dm K' st'.heap hs'.good hdm fun K2 g2 e2 => ?_
    exact ⟨K2, _, _, .panic v, rfl, hext.trans e2, g2, ⟨u, rfl, hu.mono e2⟩, hq⟩
end
end Go.Ab
